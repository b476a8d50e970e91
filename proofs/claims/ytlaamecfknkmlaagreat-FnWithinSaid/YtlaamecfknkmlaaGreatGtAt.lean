/- Merged texts: contracts and plain lemmas (At). -/
import Derived.Test.YtlaamecfknkmlaaGreatGt10
import Derived.Test.YtlaamecfknkmlaaGreatGt4
import Derived.Test.YtlaamecfknkmlaaGreatGt2
import Derived.Test.YtlaamecfknkmlaaGreatGt3
namespace Go.Kt
set_option linter.unusedVariables false
/-- A list of short lists. -/
def Short3 (n : Nat) (T : List (List Int)) : Prop := T.length ≤ n ∧ ∀ x, x ∈ T → x.length ≤ 3
theorem Short3.app {n m : Nat} {T U : List (List Int)} (h : Short3 n T) (k : Short3 m U) : Short3 (n + m) (T ++ U) :=
  ⟨by have h1 := h.1; have h2 := k.1; rw [List.length_append]; omega, fun x hx => by
    rcases List.mem_append.1 hx with hx | hx
    · exact h.2 x hx
    · exact k.2 x hx⟩
theorem Short3.mono {n m : Nat} {T : List (List Int)} (h : Short3 n T) (hm : n ≤ m) : Short3 m T := ⟨Nat.le_trans h.1 hm, h.2⟩
end Go.Kt
namespace Go.Proofs.YtlaamecfknkmlaaGreat
set_option linter.unusedVariables false
open Go.RowKit Go.Kt
def RetSh (n : Nat) (w : World) (e : Ending) (w' : World) : Prop := ∃ v T, e = .returned v ∧ OwnLs w' w.heap.size (ek 3) 23 v T ∧ Short3 n T ∧ Ext w w'
theorem tracesFrom0_c (a : Option Addr) (c : Nat) (l : List Int) (w : World) (hl : IntsAt w a l) (h1 : 0 < l.length) (h3 : l.length ≤ 3) :
    Calls Tryz.prog 125 #[.slice a l.length c, .int .i64 0] w (RetSh 1 w) := by
  have CC := Lib.hid (cloneI_c a c l w hl h1 (by omega))
  clear hl
  generalize hn : l.length = n at *
  have HN := Lib.hid hn
  clear hn
  go_enter Tryz.func125, Tryz.ntmps125
  go_wp2_with fail
  refine CC.out.mono ?_
  rintro e w1 ⟨v1, rfl, o1, x1⟩
  obtain ⟨a1, c1, rfl, -⟩ := o1.shape
  have f1 := o1.fit
  have I1 := Lib.hid o1.intsE
  have X1 := Lib.hid x1
  have hz1 := x1.size
  clear CC o1 x1
  have O2 := Lib.hid (OwnLs.lit (ER := 23) w.heap.size I1.out f1 hz1)
  rw [HN.out] at O2 ⊢
  go_wp2
  go_ret
  exact ⟨_, [l], rfl, O2.out, ⟨Nat.le_refl _, fun x hx => by simp at hx; subst hx; rw [HN.out]; exact h3⟩, X1.out.trans (by (repeat (first | exact Ext.refl _ | assumption | refine Ext.alloc ?_ _ | refine Ext.drewN ?_ _ | refine Ext.drew ?_)))⟩
set_option maxRecDepth 100000 in
set_option maxHeartbeats 4000000 in
theorem tracesFrom1_c (a : Option Addr) (c : Nat) (u : Int) (w : World) (hl : IntsAt w a [u]) :
    Calls Tryz.prog 125 #[.slice a 1 c, .int .i64 1] w (RetSh 13 w) := by
  have HL := Lib.hid hl
  have CC : Hid (∀ w', Ext w w' → Calls Tryz.prog 135 #[.slice a 1 c] w' (RetI 3 w' [u])) := fun w' x => cloneI_c a c [u] w' (HL.out.ext x) (by simp) (by simp)
  have CT : Hid (∀ w' a' c' (l : List Int), IntsAt w' a' l → l.length = 3 → Calls Tryz.prog 125 #[.slice a' 3 c', .int .i64 0] w' (RetSh 1 w')) := fun w' a' c' l hi hl => by
    have h := tracesFrom0_c a' c' l w' hi (by omega) (by omega)
    rw [hl] at h; exact h
  clear hl
  go_enter Tryz.func125, Tryz.ntmps125
  go_wp2_with fail
  refine (CC.out _ (by (repeat (first | exact Ext.refl _ | assumption | refine Ext.alloc ?_ _ | refine Ext.drewN ?_ _ | refine Ext.drew ?_)))).mono ?_
  rintro e w1 ⟨v1, rfl, o1, x1⟩
  obtain ⟨a1, c1, rfl, -⟩ := o1.shape
  have f1 := o1.fit
  have I1 := Lib.hid o1.intsE
  have X1 := Lib.hid (Ext.trans (show Ext w _ by (repeat (first | exact Ext.refl _ | assumption | refine Ext.alloc ?_ _ | refine Ext.drewN ?_ _ | refine Ext.drew ?_))) x1)
  have hz1 := X1.out.size
  have O2 := Lib.hid (OwnLs.lit (ER := 23) w.heap.size I1.out f1 hz1)
  clear o1 x1
  have hone : ([u] : List Int).length = 1 := rfl
  rw [hone] at O2 ⊢
  clear hone
  go_wp2
  go_loopw [5, 6] (fun v i wr => Hid (∃ (C : Nat) (T : List (List Int)), C ≤ 3 ∧ i = .int .i64 (16 + (C : Int)) ∧ OwnLs wr w.heap.size (ek 3) 23 v T ∧ Short3 (1 + 4 * C) T ∧ Ext w wr)) (fun _ i _ => 19 - (intOf i).toNat)
  case atStart => exact Lib.hid ⟨0, [[u]], by omega, rfl, O2.out, ⟨Nat.le_refl _, fun x hx => by simp at hx; subst hx; simp⟩, X1.out.trans (by (repeat (first | exact Ext.refl _ | assumption | refine Ext.alloc ?_ _ | refine Ext.drewN ?_ _ | refine Ext.drew ?_)))⟩
  case round =>
    obtain ⟨C, T, hC, rfl, ho, hs, hx⟩ := hrel.out
    have HO := Lib.hid ho
    have HS := Lib.hid hs
    have HX := Lib.hid hx
    clear hrel ho hs hx
    by_cases hC3 : C < 3
    · have hCi : 16 + (C : Int) ≤ 18 := by omega
      obtain ⟨wo, hwo⟩ : ∃ wo, wo = wr := ⟨_, rfl⟩
      subst hwo
      go_wp2
      go_loopw [5, 18] (fun v i wr => Hid (∃ (A : Nat) (T : List (List Int)), A ≤ 4 ∧ i = .int .i64 (A : Int) ∧ OwnLs wr w.heap.size (ek 3) 23 v T ∧ Short3 (1 + 4 * C + A) T ∧ Ext w wr)) (fun _ i _ => 4 - (intOf i).toNat)
      case atStart => exact Lib.hid ⟨0, T, by omega, rfl, HO.out, HS.out, HX.out⟩
      case round =>
        obtain ⟨A, T2, hA, rfl, ho, hs, hx⟩ := hrel.out
        obtain ⟨a5, c5, rfl⟩ := ho.shape
        have HO2 := Lib.hid ho
        have HS2 := Lib.hid hs
        have HX2 := Lib.hid hx
        have hz2 := hx.size
        have hl2 := hs.1
        clear hrel ho hs hx
        by_cases hA4 : A < 4
        · have hAi : (A : Int) < 4 := by omega
          generalize hnt : T2.length = nt at *
          have HNT := Lib.hid hnt
          clear hnt
          go_wp2_with fail
          refine (CC.out _ (HX2.out.trans (by (repeat (first | exact Ext.refl _ | assumption | refine Ext.alloc ?_ _ | refine Ext.drewN ?_ _ | refine Ext.drew ?_))))).mono ?_
          rintro e w3 ⟨v3, rfl, o3, x3⟩
          obtain ⟨a3, c3, rfl, -⟩ := o3.shape
          have O3 := Lib.hid o3
          have X3 := Lib.hid (Ext.trans (show Ext wr _ by (repeat (first | exact Ext.refl _ | assumption | refine Ext.alloc ?_ _ | refine Ext.drewN ?_ _ | refine Ext.drew ?_))) x3)
          have hz3 := X3.out.size
          have hone : ([u] : List Int).length = 1 := rfl
          rw [hone] at O3 ⊢
          clear o3 x3 hone
          go_wp2_with (at_builtin; refine any_append_ints (by rfl) _ _ _ rfl wr.heap.size 3 Tryz.underlying23 infoInt (.slice a3 1 c3) [u] rfl (O3.out.ext (by (repeat (first | exact Ext.refl _ | assumption | refine Ext.alloc ?_ _ | refine Ext.drewN ?_ _ | refine Ext.drew ?_)))) _ _ [16 + (C : Int), (A : Int)] rfl ((OwnI.lit2 _ _ _ _ _ (Nat.le_refl _)).ints) (by simp) (by first | omega | (simp; done) | (simp; omega)) ?_)
          intro v4 w4 o4 g4
          obtain ⟨a4, c4, hv4, i4⟩ := o4.shape
          replace hv4 : v4 = .slice a4 3 c4 := hv4
          subst hv4
          have X4 := Lib.hid (OwnI.grown (w0 := wr) (O3.out.ext (by (repeat (first | exact Ext.refl _ | assumption | refine Ext.alloc ?_ _ | refine Ext.drewN ?_ _ | refine Ext.drew ?_)))) (X3.out.trans (by (repeat (first | exact Ext.refl _ | assumption | refine Ext.alloc ?_ _ | refine Ext.drewN ?_ _ | refine Ext.drew ?_)))) g4)
          have I4 := Lib.hid i4
          clear o4 g4 i4
          go_wp2_with fail
          refine (CT.out _ a4 c4 _ (I4.out.ext (by (repeat (first | exact Ext.refl _ | assumption | refine Ext.alloc ?_ _ | refine Ext.drewN ?_ _ | refine Ext.drew ?_)))) rfl).mono ?_
          rintro e w5 ⟨v5, T5, rfl, o5, s5, x5⟩
          obtain ⟨a6, c6, rfl⟩ := o5.shape
          obtain ⟨vs, hsrc⟩ := o5.src
          have HSrc := Lib.hid hsrc
          have S5 := Lib.hid s5
          have hl5 := s5.1
          have X5 := Lib.hid (X4.out.trans (Ext.trans (by (repeat (first | exact Ext.refl _ | assumption | refine Ext.alloc ?_ _ | refine Ext.drewN ?_ _ | refine Ext.drew ?_))) x5))
          have hz5 := X5.out.size
          clear o5 hsrc s5 x5
          go_wp2_with (at_builtin; refine any_append_ls (by rfl) _ _ _ rfl w.heap.size (ek 3) 23 neE Tryz.underlying24 infoInts (.slice a5 nt c5) T2 rfl (HO2.out.ext (X5.out.trans (by (repeat (first | exact Ext.refl _ | assumption | refine Ext.alloc ?_ _ | refine Ext.drewN ?_ _ | refine Ext.drew ?_))))) _ _ _ vs T5 rfl rfl (HSrc.out.ext (by (repeat (first | exact Ext.refl _ | assumption | refine Ext.alloc ?_ _ | refine Ext.drewN ?_ _ | refine Ext.drew ?_)))) (by have := HNT.out; omega) (by omega) ?_)
          intro v7 w7 o7 g7
          have X7 := Lib.hid (OwnLs.grown (w0 := w) (HO2.out.ext (X5.out.trans (by (repeat (first | exact Ext.refl _ | assumption | refine Ext.alloc ?_ _ | refine Ext.drewN ?_ _ | refine Ext.drew ?_))))) (HX2.out.trans (X5.out.trans (by (repeat (first | exact Ext.refl _ | assumption | refine Ext.alloc ?_ _ | refine Ext.drewN ?_ _ | refine Ext.drew ?_))))) g7)
          have O7 := Lib.hid o7
          clear o7 g7
          go_wp2
          go_roundw
          case rel => exact Lib.hid ⟨A + 1, T2 ++ T5, by omega, by go_num, O7.out, (HS2.out.app S5.out).mono (by omega), X7.out⟩
          case measure => simp [intOf]; omega
        · obtain rfl : A = 4 := by omega
          go_wp2
          go_roundw
          case rel => exact Lib.hid ⟨C + 1, T2, by omega, by go_num, HO2.out, HS2.out.mono (by omega), HX2.out⟩
          case measure => simp [intOf]; omega
    · obtain rfl : C = 3 := by omega
      go_wp2
      go_ret
      exact ⟨_, T, rfl, HO.out, HS.out.mono (by omega), HX.out⟩
set_option maxRecDepth 100000 in
set_option maxHeartbeats 4000000 in
theorem allTraces1_c (w : World) : Calls Tryz.prog 66 #[.int .i64 1] w (RetSh 52 w) := by
  have CT : Hid (∀ w' a' c' (u : Int), IntsAt w' a' [u] → Calls Tryz.prog 125 #[.slice a' 1 c', .int .i64 1] w' (RetSh 13 w')) := fun w' a' c' u hi => tracesFrom1_c a' c' u w' hi
  go_enter Tryz.func66, Tryz.ntmps66
  go_wp2
  go_loopw [3, 5] (fun v i wr => Hid (∃ (A : Nat) (T : List (List Int)), A ≤ 4 ∧ i = .int .i64 (A : Int) ∧ OwnLs wr w.heap.size (ek 3) 23 v T ∧ Short3 (13 * A) T ∧ Ext w wr)) (fun _ i _ => 4 - (intOf i).toNat)
  case atStart => exact Lib.hid ⟨0, [], by omega, rfl, OwnLs.nil _ _ _ _, ⟨Nat.le_refl _, fun x hx => by cases hx⟩, by (repeat (first | exact Ext.refl _ | assumption | refine Ext.alloc ?_ _ | refine Ext.drewN ?_ _ | refine Ext.drew ?_))⟩
  case round =>
    obtain ⟨A, T2, hA, rfl, ho, hs, hx⟩ := hrel.out
    obtain ⟨a5, c5, rfl⟩ := ho.shape
    have HO2 := Lib.hid ho
    have HS2 := Lib.hid hs
    have HX2 := Lib.hid hx
    have hz2 := hx.size
    have hl2 := hs.1
    clear hrel ho hs hx
    by_cases hA4 : A < 4
    · have hAi : (A : Int) < 4 := by omega
      generalize hnt : T2.length = nt at *
      have HNT := Lib.hid hnt
      clear hnt
      go_wp2_with fail
      refine (CT.out _ _ _ _ ((OwnI.lit1 _ _ _ _ (Nat.le_refl _)).ints)).mono ?_
      rintro e w5 ⟨v5, T5, rfl, o5, s5, x5⟩
      obtain ⟨a6, c6, rfl⟩ := o5.shape
      obtain ⟨vs, hsrc⟩ := o5.src
      have HSrc := Lib.hid hsrc
      have S5 := Lib.hid s5
      have hl5 := s5.1
      have X5 := Lib.hid (Ext.trans (show Ext wr _ by (repeat (first | exact Ext.refl _ | assumption | refine Ext.alloc ?_ _ | refine Ext.drewN ?_ _ | refine Ext.drew ?_))) x5)
      have hz5 := X5.out.size
      clear o5 hsrc s5 x5
      go_wp2_with (at_builtin; refine any_append_ls (by rfl) _ _ _ rfl w.heap.size (ek 3) 23 neE Tryz.underlying24 infoInts (.slice a5 nt c5) T2 rfl (HO2.out.ext (X5.out.trans (by (repeat (first | exact Ext.refl _ | assumption | refine Ext.alloc ?_ _ | refine Ext.drewN ?_ _ | refine Ext.drew ?_))))) _ _ _ vs T5 rfl rfl (HSrc.out.ext (by (repeat (first | exact Ext.refl _ | assumption | refine Ext.alloc ?_ _ | refine Ext.drewN ?_ _ | refine Ext.drew ?_)))) (by have := HNT.out; omega) (by omega) ?_)
      intro v7 w7 o7 g7
      have X7 := Lib.hid (OwnLs.grown (w0 := w) (HO2.out.ext (X5.out.trans (by (repeat (first | exact Ext.refl _ | assumption | refine Ext.alloc ?_ _ | refine Ext.drewN ?_ _ | refine Ext.drew ?_))))) (HX2.out.trans (X5.out.trans (by (repeat (first | exact Ext.refl _ | assumption | refine Ext.alloc ?_ _ | refine Ext.drewN ?_ _ | refine Ext.drew ?_))))) g7)
      have O7 := Lib.hid o7
      clear o7 g7
      go_wp2
      go_roundw
      case rel => exact Lib.hid ⟨A + 1, T2 ++ T5, by omega, by go_num, O7.out, (HS2.out.app S5.out).mono (by omega), X7.out⟩
      case measure => simp [intOf]; omega
    · obtain rfl : A = 4 := by omega
      go_wp2
      go_ret
      exact ⟨_, T2, rfl, HO2.out, HS2.out, HX2.out⟩
theorem allTracesI_c (w : World) : Calls Tryz.prog 15 #[.int .i64 1] w (RetSh 52 w) := by
  have CA := Lib.hid (allTraces1_c w)
  go_enter Tryz.func15, Tryz.ntmps15
  go_wp2_with fail
  refine CA.out.mono ?_
  rintro e w1 ⟨v, T, rfl, o, s, x⟩
  go_wp2
  go_ret
  exact ⟨v, T, rfl, o, s, x⟩
end Go.Proofs.YtlaamecfknkmlaaGreat
