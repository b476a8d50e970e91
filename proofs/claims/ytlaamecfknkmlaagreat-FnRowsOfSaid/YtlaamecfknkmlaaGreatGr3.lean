/- Merged texts: contracts and plain lemmas (Ca, Cb, Jn, D, E, J, R, Rh, Wd, S, T, U, N, W). -/
import Derived.Test.YtlaamecfknkmlaaGreatGr2
import Derived.Test.YtlaamecfknkmlaaGreatGr1
import Derived.Deep.RegionLaw
import Derived.StillTailTactics
import Derived.RegionTactic
import Derived.Deep.RegionHeld3
import Derived.IntWalk
import Derived.BigQuiet
/- Contracts: the laws' helpers over slices of instructions. -/
namespace Go.Proofs.YtlaamecfknkmlaaGreat
set_option linter.unusedVariables false
open Go.RowKit Go.Kt

abbrev insV (k a t : Int) : Value := .agg #[.int .i64 k, .int .i64 a, .int .i64 t]
theorem fillTo_zero' (L : List Int) (n : Nat) (h : L.length = n * 3) : fillTo L 0 = List.replicate (n * 3) 0 := by rw [fillTo_zero, h]
end Go.Proofs.YtlaamecfknkmlaaGreat
/- Contracts: validity of codes. -/
namespace Go.Proofs.YtlaamecfknkmlaaGreat
set_option linter.unusedVariables false
open Go.RowKit Go.Kt

theorem isAct_c (t : Int) (w : World) :
    Calls Tryz.prog 128 #[.int .i64 t] w fun e w' => e = .returned (.bool (inB t 16 18)) ∧ w = w' := by
  by_cases h1 : 16 ≤ t
  all_goals
    go_enter Tryz.func128, Tryz.ntmps128
    go_wp2
    go_ret
    exact ⟨by simp [inB, h1]; try omega, rfl⟩
theorem insB_0 (n : Nat) (A T : Int) : insB n 0 A T = (inB A 16 18 && T == 0) := by
  rw [Bool.eq_iff_iff]; simp [insB, inB]
theorem insB_1 (n : Nat) (A T : Int) : insB n 1 A T = (inB A 0 15 && inB T 0 (n - 1)) := by
  rw [Bool.eq_iff_iff]; simp [insB, inB]; omega
theorem insB_2 (n : Nat) (A T : Int) : insB n 2 A T = (A == 0 && inB T 0 (n - 1)) := by
  rw [Bool.eq_iff_iff]; simp [insB, inB]; omega
theorem insB_3 (n : Nat) (A T : Int) : insB n 3 A T = (A == 0 && T == 0) := by
  rw [Bool.eq_iff_iff]; simp [insB]
theorem insB_else (n : Nat) (K A T : Int) (h0 : K ≠ 0) (h1 : K ≠ 1) (h2 : K ≠ 2) (h3 : K ≠ 3) : insB n K A T = false := by
  simp [insB, h0, h1, h2, h3]
end Go.Proofs.YtlaamecfknkmlaaGreat
/- Contracts: expressions put together, in the reference. -/
namespace Go.Proofs.YtlaamecfknkmlaaGreat
set_option linter.unusedVariables false
open Go.RowKit Go.Kt

theorem kTestNot_s (t : Int) (w : World) (h : 0 ≤ t ∧ t ≤ 15) : Calls Tryz.prog 148 #[.int .i64 t] w fun e w' => e = .returned (.int .i64 (15 - t)) ∧ w = w' := by
  have h0 := h.1
  have h1 := h.2
  have hv : inB t 0 15 = true := by simp [inB]; omega
  clear h
  go_enter Tryz.func148, Tryz.ntmps148
  go_wp2_with fail
  refine (sTestValid_c _ _).mono ?_
  rw [hv]
  rintro e w' ⟨rfl, rfl⟩
  go_wp2
  go_ret
  exact ⟨rfl, rfl⟩
theorem named (l : List Int) : ∃ L : List Int, Hid (L = l) ∧ L.length = l.length := ⟨l, rfl, rfl⟩
theorem l2Join_c (a b : Option Addr) (ca cb : Nat) (la lb : List Int) (s : Int) (w : World) (ha : IntsAt w a la) (hb : IntsAt w b lb) (hla : la.length ≤ 1048576) (hlb : lb.length ≤ 1048576) :
    Calls Tryz.prog 113 #[.slice a la.length ca, .slice b lb.length cb, .int .i64 s] w (RetI 3 w (la ++ lb ++ [s])) := by
  have HA := Lib.hid ha
  have HB := Lib.hid hb
  clear ha hb
  go_enter Tryz.func113, Tryz.ntmps113
  go_wp2_with (at_builtin; refine any_append_ints (by rfl) _ _ _ rfl (w.heap.size) 3 Tryz.underlying23 infoInt _ ([]) rfl (by first | exact OwnI.empty _ _ | exact (OwnI.empty _ _).ext (by (repeat (first | exact Ext.refl _ | assumption | refine Ext.alloc ?_ _ | refine Ext.drewN ?_ _ | refine Ext.drew ?_)))) _ _ (la) rfl (HA.out.ext (by (repeat (first | exact Ext.refl _ | assumption | refine Ext.alloc ?_ _ | refine Ext.drewN ?_ _ | refine Ext.drew ?_)))) (by first | omega | (simp; omega)) (by first | omega | (simp; done) | (simp; omega)) ?_)
  intro v1 w1 o1 g1
  have hx1 := Lib.hid (Ext.rowOf (w0 := w) (show Ext w _ by (repeat (first | exact Ext.refl _ | assumption | refine Ext.alloc ?_ _ | refine Ext.drewN ?_ _ | refine Ext.drew ?_))) g1 (Nat.le_refl _))
  obtain ⟨a1, c1, rfl, -⟩ := o1.shape
  have O1 := Lib.hid o1
  have hz1 := hx1.out.size
  clear o1 g1
  go_wp2_with (at_builtin; refine any_append_ints (by rfl) _ _ _ rfl (w.heap.size) 3 Tryz.underlying23 infoInt _ (_) rfl (O1.out.ext (by (repeat (first | exact Ext.refl _ | assumption | refine Ext.alloc ?_ _ | refine Ext.drewN ?_ _ | refine Ext.drew ?_)))) _ _ (lb) rfl (HB.out.ext (by first | exact hx1.out | exact hx1.out.trans (by (repeat (first | exact Ext.refl _ | assumption | refine Ext.alloc ?_ _ | refine Ext.drewN ?_ _ | refine Ext.drew ?_))))) (by first | omega | (simp; omega)) (by first | omega | (simp; done) | (simp; omega)) ?_)
  intro v2 w2 o2 g2
  have hx2 := Lib.hid (Ext.row (hx1.out.trans (by (repeat (first | exact Ext.refl _ | assumption | refine Ext.alloc ?_ _ | refine Ext.drewN ?_ _ | refine Ext.drew ?_)))) g2 (fun k hk => (World.ownsRow.lt O1.out k hk).1))
  obtain ⟨L2, hL2, hl2⟩ := named (la ++ lb)
  rw [← hL2.out] at o2
  rw [List.length_append] at hl2
  have hl2' : L2.length ≤ 2097152 := by omega
  clear hl2
  obtain ⟨a2, c2, rfl, -⟩ := o2.shape
  have O2 := Lib.hid o2
  have hz2 := hx2.out.size
  clear o2 g2
  go_wp2_with (at_builtin; refine any_append_ints (by rfl) _ _ _ rfl (w.heap.size) 3 Tryz.underlying23 infoInt _ (_) rfl (O2.out.ext (by (repeat (first | exact Ext.refl _ | assumption | refine Ext.alloc ?_ _ | refine Ext.drewN ?_ _ | refine Ext.drew ?_)))) _ _ ([s]) rfl (by first | exact (OwnI.lit1 _ _ _ _ (Nat.le_refl _)).ints | exact ((OwnI.lit1 _ _ _ _ (Nat.le_refl _)).ints).ext (by (repeat (first | exact Ext.refl _ | assumption | refine Ext.alloc ?_ _ | refine Ext.drewN ?_ _ | refine Ext.drew ?_)))) (by first | omega | (simp; omega)) (by first | omega | (simp; done) | (simp; omega)) ?_)
  intro v3 w3 o3 g3
  have hx3 := Lib.hid (Ext.row (hx2.out.trans (by (repeat (first | exact Ext.refl _ | assumption | refine Ext.alloc ?_ _ | refine Ext.drewN ?_ _ | refine Ext.drew ?_)))) g3 (fun k hk => (World.ownsRow.lt O2.out k hk).1))
  obtain ⟨L3, hL3, -⟩ := named (L2 ++ [s])
  rw [← hL3.out] at o3
  obtain ⟨a3, c3, rfl, -⟩ := o3.shape
  have O3 := Lib.hid o3
  clear o3 g3
  go_wp2
  go_ret
  exact ⟨_, rfl, by rw [← hL2.out, ← hL3.out]; exact O3.out, hx3.out.trans (by (repeat (first | exact Ext.refl _ | assumption | refine Ext.alloc ?_ _ | refine Ext.drewN ?_ _ | refine Ext.drew ?_)))⟩
/-- What a call that makes an expression, and a truth, comes to. -/
def RetIB (w : World) (l : List Int) (ok : Bool) (e : Ending) (w' : World) : Prop := ∃ v, e = .returned (.tuple #[v, .bool ok]) ∧ OwnI w' w.heap.size 3 v l ∧ Ext w w'
/-- An expression, and whether it is valid; no expression if it is not. -/
def keepL (b : Bool) (l : List Int) : List Int := if b then l else []
theorem keepL_len (b : Bool) (l : List Int) (h : b = true → l.length ≤ 40) : (keepL b l).length ≤ 40 := by
  cases b
  · simp [keepL]
  · simpa [keepL] using h rfl
def RetV (w : World) (b : Bool) (l : List Int) (e : Ending) (w' : World) : Prop := RetIB w (keepL b l) b e w'
theorem RetV.yes {w w' : World} {l : List Int} {e : Ending} {v : Value} (he : e = .returned (.tuple #[v, .bool true])) (ho : OwnI w' w.heap.size 3 v l) (hx : Ext w w') : RetV w true l e w' := ⟨v, he, ho, hx⟩
theorem RetV.no {w w' : World} {l : List Int} {e : Ending} {v : Value} (he : e = .returned (.tuple #[v, .bool false])) (ho : OwnI w' w.heap.size 3 v []) (hx : Ext w w') : RetV w false l e w' := ⟨v, he, ho, hx⟩
set_option maxRecDepth 100000 in
set_option maxHeartbeats 1000000 in
theorem sKatThen_c (a b : Option Addr) (ca cb : Nat) (la lb : List Int) (w : World) (ha : IntsAt w a la) (hb : IntsAt w b lb) (hla : la.length ≤ 1048576) (hlb : lb.length ≤ 1048576) :
    Calls Tryz.prog 181 #[.slice a la.length ca, .slice b lb.length cb] w (RetV w (kvB la && kvB lb && kvB (la ++ lb ++ [19])) (la ++ lb ++ [19])) := by
  have HA := Lib.hid ha
  have HB := Lib.hid hb
  clear ha hb
  obtain ⟨L, hL, hl⟩ := named (la ++ lb ++ [19])
  simp only [List.length_append, List.length_cons, List.length_nil] at hl
  have hL2 : L.length ≤ 4194304 := by omega
  have J : Hid (∀ w', Ext w w' → Calls Tryz.prog 113 #[.slice a la.length ca, .slice b lb.length cb, .int .i64 19] w' (RetI 3 w' L)) := fun w' hx => by
    rw [hL.out]; exact l2Join_c a b ca cb la lb 19 w' (HA.out.ext hx) (HB.out.ext hx) hla hlb
  rw [← hL.out]
  clear hl hL
  cases ka : kvB la
  all_goals cases kb : kvB lb
  all_goals cases kl : kvB L
  all_goals
    have KA := Lib.hid ka
    have KB := Lib.hid kb
    have KL := Lib.hid kl
    clear ka kb kl
    go_enter Tryz.func181, Tryz.ntmps181
    go_wp2_with fail
    refine (J.out _ (by (repeat (first | exact Ext.refl _ | assumption | refine Ext.alloc ?_ _ | refine Ext.drewN ?_ _ | refine Ext.drew ?_)))).mono ?_
    rintro e w1 ⟨v1, rfl, o1, y⟩
    have HX := Lib.hid y
    obtain ⟨a1, c1, rfl, i1⟩ := o1.shape
    have O1 := Lib.hid o1
    have I1 := Lib.hid i1
    have hz := HX.out.size
    clear o1 i1 y
    go_wp2_with (first
      | (go_at_call 83; with_reducible refine (sKatValid_c a ca la _ (HA.out.ext HX.out) (by omega)).mono ?_; rw [KA.out]; rintro e w' ⟨rfl, rfl⟩)
      | (go_at_call 83; with_reducible refine (sKatValid_c b cb lb _ (HB.out.ext HX.out) (by omega)).mono ?_; rw [KB.out]; rintro e w' ⟨rfl, rfl⟩)
      | (go_at_call 83; with_reducible refine (sKatValid_c a1 c1 L _ I1.out hL2).mono ?_; rw [KL.out]; rintro e w' ⟨rfl, rfl⟩))
    go_ret2
    first
      | exact RetV.yes rfl O1.out HX.out
      | exact RetV.no rfl ((OwnI.empty _ _).mono hz) (HX.out.trans (by (repeat (first | exact Ext.refl _ | assumption | refine Ext.alloc ?_ _ | refine Ext.drewN ?_ _ | refine Ext.drew ?_))))
set_option maxRecDepth 100000 in
set_option maxHeartbeats 1000000 in
theorem sKatPlus_c (a b : Option Addr) (ca cb : Nat) (la lb : List Int) (w : World) (ha : IntsAt w a la) (hb : IntsAt w b lb) (hla : la.length ≤ 1048576) (hlb : lb.length ≤ 1048576) :
    Calls Tryz.prog 95 #[.slice a la.length ca, .slice b lb.length cb] w (RetV w (kvB la && kvB lb && kvB (la ++ lb ++ [20])) (la ++ lb ++ [20])) := by
  have HA := Lib.hid ha
  have HB := Lib.hid hb
  clear ha hb
  obtain ⟨L, hL, hl⟩ := named (la ++ lb ++ [20])
  simp only [List.length_append, List.length_cons, List.length_nil] at hl
  have hL2 : L.length ≤ 4194304 := by omega
  have J : Hid (∀ w', Ext w w' → Calls Tryz.prog 113 #[.slice a la.length ca, .slice b lb.length cb, .int .i64 20] w' (RetI 3 w' L)) := fun w' hx => by
    rw [hL.out]; exact l2Join_c a b ca cb la lb 20 w' (HA.out.ext hx) (HB.out.ext hx) hla hlb
  rw [← hL.out]
  clear hl hL
  cases ka : kvB la
  all_goals cases kb : kvB lb
  all_goals cases kl : kvB L
  all_goals
    have KA := Lib.hid ka
    have KB := Lib.hid kb
    have KL := Lib.hid kl
    clear ka kb kl
    go_enter Tryz.func95, Tryz.ntmps95
    go_wp2_with fail
    refine (J.out _ (by (repeat (first | exact Ext.refl _ | assumption | refine Ext.alloc ?_ _ | refine Ext.drewN ?_ _ | refine Ext.drew ?_)))).mono ?_
    rintro e w1 ⟨v1, rfl, o1, y⟩
    have HX := Lib.hid y
    obtain ⟨a1, c1, rfl, i1⟩ := o1.shape
    have O1 := Lib.hid o1
    have I1 := Lib.hid i1
    have hz := HX.out.size
    clear o1 i1 y
    go_wp2_with (first
      | (go_at_call 83; with_reducible refine (sKatValid_c a ca la _ (HA.out.ext HX.out) (by omega)).mono ?_; rw [KA.out]; rintro e w' ⟨rfl, rfl⟩)
      | (go_at_call 83; with_reducible refine (sKatValid_c b cb lb _ (HB.out.ext HX.out) (by omega)).mono ?_; rw [KB.out]; rintro e w' ⟨rfl, rfl⟩)
      | (go_at_call 83; with_reducible refine (sKatValid_c a1 c1 L _ I1.out hL2).mono ?_; rw [KL.out]; rintro e w' ⟨rfl, rfl⟩))
    go_ret2
    first
      | exact RetV.yes rfl O1.out HX.out
      | exact RetV.no rfl ((OwnI.empty _ _).mono hz) (HX.out.trans (by (repeat (first | exact Ext.refl _ | assumption | refine Ext.alloc ?_ _ | refine Ext.drewN ?_ _ | refine Ext.drew ?_))))
set_option maxRecDepth 100000 in
set_option maxHeartbeats 2000000 in
theorem sKatWhile_c (t : Int) (a : Option Addr) (ca : Nat) (la : List Int) (w : World) (ha : IntsAt w a la) (hla : la.length ≤ 1048576) :
    Calls Tryz.prog 114 #[.int .i64 t, .slice a la.length ca] w (RetV w (inB t 0 15 && kvB la && kvB ([t] ++ la ++ [19] ++ [21] ++ [15 - t] ++ [19])) ([t] ++ la ++ [19] ++ [21] ++ [15 - t] ++ [19])) := by
  have HA := Lib.hid ha
  clear ha
  cases kt : inB t 0 15
  · have KT := Lib.hid kt
    clear kt
    go_enter Tryz.func114, Tryz.ntmps114
    go_wp2_with fail
    refine (sTestValid_c _ _).mono ?_
    rw [KT.out]
    rintro e w' ⟨rfl, rfl⟩
    go_wp2
    go_ret2
    exact RetV.no rfl (OwnI.empty _ _) (by (repeat (first | exact Ext.refl _ | assumption | refine Ext.alloc ?_ _ | refine Ext.drewN ?_ _ | refine Ext.drew ?_)))
  · have ht15 : 0 ≤ t ∧ t ≤ 15 := by simpa [inB] using kt
    have KT := Lib.hid kt
    cases ka : kvB la
    · have KA := Lib.hid ka
      clear kt ka ht15
      go_enter Tryz.func114, Tryz.ntmps114
      go_wp2_with fail
      refine (sTestValid_c _ _).mono ?_
      rw [KT.out]
      rintro e w' ⟨rfl, rfl⟩
      go_wp2_with fail
      refine (sKatValid_c a ca la _ (HA.out.ext (by (repeat (first | exact Ext.refl _ | assumption | refine Ext.alloc ?_ _ | refine Ext.drewN ?_ _ | refine Ext.drew ?_)))) (by omega)).mono ?_
      rw [KA.out]
      rintro e w' ⟨rfl, rfl⟩
      go_wp2
      go_ret2
      exact RetV.no rfl (OwnI.empty _ _) (by (repeat (first | exact Ext.refl _ | assumption | refine Ext.alloc ?_ _ | refine Ext.drewN ?_ _ | refine Ext.drew ?_)))
    · have KA := Lib.hid ka
      obtain ⟨-, hla40⟩ := kvB_len ka
      obtain ⟨L, hL, hl⟩ := named ([t] ++ la ++ [19] ++ [21] ++ [15 - t] ++ [19])
      obtain ⟨L1, hL1, hl1⟩ := named ([t] ++ la ++ [19])
      obtain ⟨L2, hL2', hl2⟩ := named (L1 ++ [21])
      simp only [List.length_append, List.length_cons, List.length_nil] at hl hl1 hl2
      have hL2 : L.length ≤ 4194304 := by omega
      have hl1' : L1.length ≤ 50 := by omega
      have hl2' : L2.length ≤ 51 := by omega
      have hLL : Hid (L2 ++ [15 - t] ++ [19] = L) := by unfold Hid; rw [hL2'.out, hL1.out, hL.out]
      have J1 : Hid (∀ w' g, Ext w w' → IntsAt w' (some ⟨g, 0, none⟩) [t] → Calls Tryz.prog 113 #[.slice (some ⟨g, 0, none⟩) 1 1, .slice a la.length ca, .int .i64 19] w' (RetI 3 w' L1)) := fun w' g hx hi => by
        rw [hL1.out]; exact l2Join_c (some ⟨g, 0, none⟩) a 1 ca [t] la 19 w' hi (HA.out.ext hx) (by simp) hla
      have J2 : Hid (∀ w' a2 c2 g, IntsAt w' a2 L2 → IntsAt w' (some ⟨g, 0, none⟩) [15 - t] → Calls Tryz.prog 113 #[.slice a2 L2.length c2, .slice (some ⟨g, 0, none⟩) 1 1, .int .i64 19] w' (RetI 3 w' L)) := fun w' a2 c2 g hi hj => by
        rw [← hLL.out]; exact l2Join_c a2 (some ⟨g, 0, none⟩) c2 1 L2 [15 - t] 19 w' hi hj (by omega) (by simp)
      have C1 : Hid (∀ w', Calls Tryz.prog 148 #[.int .i64 t] w' fun e w'' => e = .returned (.int .i64 (15 - t)) ∧ w' = w'') := fun w' => kTestNot_s t w' ht15
      have ht0 := ht15.1
      have ht5 := ht15.2
      rw [← hL.out]
      clear kt ka hl hl1 hl2 ht15 hLL hL hL1
      cases kl : kvB L
      all_goals
        have KL := Lib.hid kl
        clear kl
        go_enter Tryz.func114, Tryz.ntmps114
        go_wp2_with fail
        refine (sTestValid_c _ _).mono ?_
        rw [KT.out]
        rintro e w' ⟨rfl, rfl⟩
        go_wp2_with fail
        refine (sKatValid_c a ca la _ (HA.out.ext (by (repeat (first | exact Ext.refl _ | assumption | refine Ext.alloc ?_ _ | refine Ext.drewN ?_ _ | refine Ext.drew ?_)))) (by omega)).mono ?_
        rw [KA.out]
        rintro e w' ⟨rfl, rfl⟩
        go_wp2_with fail
        refine (J1.out _ _ (by (repeat (first | exact Ext.refl _ | assumption | refine Ext.alloc ?_ _ | refine Ext.drewN ?_ _ | refine Ext.drew ?_))) ((OwnI.lit1 _ _ _ _ (Nat.le_refl _)).ints)).mono ?_
        rintro e w1 ⟨v1, rfl, o1, y⟩
        have hx1 := Lib.hid (Ext.trans (show Ext w _ by (repeat (first | exact Ext.refl _ | assumption | refine Ext.alloc ?_ _ | refine Ext.drewN ?_ _ | refine Ext.drew ?_))) y)
        have O1 := Lib.hid (o1.mono (B' := w.heap.size) (by simp))
        obtain ⟨a1, c1, rfl, -⟩ := o1.shape
        have hz1 := hx1.out.size
        clear o1 y
        go_wp2_with (at_builtin; refine any_append_ints (by rfl) _ _ _ rfl (w.heap.size) 3 Tryz.underlying23 infoInt _ (_) rfl (O1.out.ext (by (repeat (first | exact Ext.refl _ | assumption | refine Ext.alloc ?_ _ | refine Ext.drewN ?_ _ | refine Ext.drew ?_)))) _ _ ([21]) rfl (by first | exact (OwnI.lit1 _ _ _ _ (Nat.le_refl _)).ints | exact ((OwnI.lit1 _ _ _ _ (Nat.le_refl _)).ints).ext (by (repeat (first | exact Ext.refl _ | assumption | refine Ext.alloc ?_ _ | refine Ext.drewN ?_ _ | refine Ext.drew ?_)))) (by first | omega | (simp; omega)) (by first | omega | (simp; done) | (simp; omega)) ?_)
        intro v2 w2 o2 g2
        have hx2 := Lib.hid (Ext.row (hx1.out.trans (by (repeat (first | exact Ext.refl _ | assumption | refine Ext.alloc ?_ _ | refine Ext.drewN ?_ _ | refine Ext.drew ?_)))) g2 (fun k hk => (World.ownsRow.lt O1.out k hk).1))
        rw [← hL2'.out] at o2
        obtain ⟨a2, c2, rfl, -⟩ := o2.shape
        have O2 := Lib.hid o2
        have hz2 := hx2.out.size
        clear o2 g2
        go_wp2_with fail
        refine (C1.out _).mono ?_
        rintro e w' ⟨rfl, rfl⟩
        go_wp2_with fail
        refine (J2.out _ _ _ _ (O2.out.ints.ext (by (repeat (first | exact Ext.refl _ | assumption | refine Ext.alloc ?_ _ | refine Ext.drewN ?_ _ | refine Ext.drew ?_)))) ((OwnI.lit1 _ _ _ _ (Nat.le_refl _)).ints)).mono ?_
        rintro e w3 ⟨v3, rfl, o3, y⟩
        have hx3 := Lib.hid (hx2.out.trans (Ext.trans (by (repeat (first | exact Ext.refl _ | assumption | refine Ext.alloc ?_ _ | refine Ext.drewN ?_ _ | refine Ext.drew ?_))) y))
        have O3 := Lib.hid (o3.mono (B' := w.heap.size) (by first | omega | (simp; omega)))
        obtain ⟨a3, c3, rfl, -⟩ := o3.shape
        have hz3 := hx3.out.size
        clear o3 y
        go_wp2_with fail
        refine (sKatValid_c a3 c3 L _ (O3.out.ints.ext (by (repeat (first | exact Ext.refl _ | assumption | refine Ext.alloc ?_ _ | refine Ext.drewN ?_ _ | refine Ext.drew ?_)))) hL2).mono ?_
        rw [KL.out]
        rintro e w' ⟨rfl, rfl⟩
        go_wp2
        go_ret2
        first
          | exact RetV.yes rfl O3.out hx3.out
          | exact RetV.no rfl ((OwnI.empty _ _).mono hz3) (hx3.out.trans (by (repeat (first | exact Ext.refl _ | assumption | refine Ext.alloc ?_ _ | refine Ext.drewN ?_ _ | refine Ext.drew ?_))))
set_option maxRecDepth 100000 in
set_option maxHeartbeats 2000000 in
theorem sKatIf_c (t : Int) (a b : Option Addr) (ca cb : Nat) (la lb : List Int) (w : World) (ha : IntsAt w a la) (hb : IntsAt w b lb) (hla : la.length ≤ 1048576) (hlb : lb.length ≤ 1048576) :
    Calls Tryz.prog 180 #[.int .i64 t, .slice a la.length ca, .slice b lb.length cb] w (RetV w (inB t 0 15 && kvB la && kvB lb && kvB (([t] ++ la ++ [19]) ++ ([15 - t] ++ lb ++ [19]) ++ [20])) (([t] ++ la ++ [19]) ++ ([15 - t] ++ lb ++ [19]) ++ [20])) := by
  have HA := Lib.hid ha
  have HB := Lib.hid hb
  clear ha hb
  cases kt : inB t 0 15
  · have KT := Lib.hid kt
    clear kt
    go_enter Tryz.func180, Tryz.ntmps180
    go_wp2_with fail
    refine (sTestValid_c _ _).mono ?_
    rw [KT.out]
    rintro e w' ⟨rfl, rfl⟩
    go_wp2
    go_ret2
    exact RetV.no rfl (OwnI.empty _ _) (by (repeat (first | exact Ext.refl _ | assumption | refine Ext.alloc ?_ _ | refine Ext.drewN ?_ _ | refine Ext.drew ?_)))
  · have ht15 : 0 ≤ t ∧ t ≤ 15 := by simpa [inB] using kt
    have KT := Lib.hid kt
    cases ka : kvB la
    · have KA := Lib.hid ka
      clear kt ka ht15
      go_enter Tryz.func180, Tryz.ntmps180
      go_wp2_with fail
      refine (sTestValid_c _ _).mono ?_
      rw [KT.out]
      rintro e w' ⟨rfl, rfl⟩
      go_wp2_with fail
      refine (sKatValid_c a ca la _ (HA.out.ext (by (repeat (first | exact Ext.refl _ | assumption | refine Ext.alloc ?_ _ | refine Ext.drewN ?_ _ | refine Ext.drew ?_)))) (by omega)).mono ?_
      rw [KA.out]
      rintro e w' ⟨rfl, rfl⟩
      go_wp2
      go_ret2
      exact RetV.no rfl (OwnI.empty _ _) (by (repeat (first | exact Ext.refl _ | assumption | refine Ext.alloc ?_ _ | refine Ext.drewN ?_ _ | refine Ext.drew ?_)))
    · have KA := Lib.hid ka
      obtain ⟨-, hla40⟩ := kvB_len ka
      cases kb : kvB lb
      · have KB := Lib.hid kb
        clear kt ka kb ht15
        go_enter Tryz.func180, Tryz.ntmps180
        go_wp2_with fail
        refine (sTestValid_c _ _).mono ?_
        rw [KT.out]
        rintro e w' ⟨rfl, rfl⟩
        go_wp2_with fail
        refine (sKatValid_c a ca la _ (HA.out.ext (by (repeat (first | exact Ext.refl _ | assumption | refine Ext.alloc ?_ _ | refine Ext.drewN ?_ _ | refine Ext.drew ?_)))) (by omega)).mono ?_
        rw [KA.out]
        rintro e w' ⟨rfl, rfl⟩
        go_wp2_with fail
        refine (sKatValid_c b cb lb _ (HB.out.ext (by (repeat (first | exact Ext.refl _ | assumption | refine Ext.alloc ?_ _ | refine Ext.drewN ?_ _ | refine Ext.drew ?_)))) (by omega)).mono ?_
        rw [KB.out]
        rintro e w' ⟨rfl, rfl⟩
        go_wp2
        go_ret2
        exact RetV.no rfl (OwnI.empty _ _) (by (repeat (first | exact Ext.refl _ | assumption | refine Ext.alloc ?_ _ | refine Ext.drewN ?_ _ | refine Ext.drew ?_)))
      · have KB := Lib.hid kb
        obtain ⟨-, hlb40⟩ := kvB_len kb
        obtain ⟨L, hL, hl⟩ := named (([t] ++ la ++ [19]) ++ ([15 - t] ++ lb ++ [19]) ++ [20])
        obtain ⟨L1, hL1, hl1⟩ := named ([t] ++ la ++ [19])
        obtain ⟨L2, hL2', hl2⟩ := named ([15 - t] ++ lb ++ [19])
        simp only [List.length_append, List.length_cons, List.length_nil] at hl hl1 hl2
        have hL2 : L.length ≤ 4194304 := by omega
        have hl1' : L1.length ≤ 50 := by omega
        have hl2' : L2.length ≤ 50 := by omega
        have hLL : Hid (L1 ++ L2 ++ [20] = L) := by unfold Hid; rw [hL2'.out, hL1.out, hL.out]
        have J1 : Hid (∀ w' g, Ext w w' → IntsAt w' (some ⟨g, 0, none⟩) [t] → Calls Tryz.prog 113 #[.slice (some ⟨g, 0, none⟩) 1 1, .slice a la.length ca, .int .i64 19] w' (RetI 3 w' L1)) := fun w' g hx hi => by
          rw [hL1.out]; exact l2Join_c (some ⟨g, 0, none⟩) a 1 ca [t] la 19 w' hi (HA.out.ext hx) (by simp) hla
        have J2 : Hid (∀ w' g, Ext w w' → IntsAt w' (some ⟨g, 0, none⟩) [15 - t] → Calls Tryz.prog 113 #[.slice (some ⟨g, 0, none⟩) 1 1, .slice b lb.length cb, .int .i64 19] w' (RetI 3 w' L2)) := fun w' g hx hi => by
          rw [hL2'.out]; exact l2Join_c (some ⟨g, 0, none⟩) b 1 cb [15 - t] lb 19 w' hi (HB.out.ext hx) (by simp) hlb
        have J3 : Hid (∀ w' a1 c1 a2 c2, IntsAt w' a1 L1 → IntsAt w' a2 L2 → Calls Tryz.prog 113 #[.slice a1 L1.length c1, .slice a2 L2.length c2, .int .i64 20] w' (RetI 3 w' L)) := fun w' a1 c1 a2 c2 hi hj => by
          rw [← hLL.out]; exact l2Join_c a1 a2 c1 c2 L1 L2 20 w' hi hj (by omega) (by omega)
        have C1 : Hid (∀ w', Calls Tryz.prog 148 #[.int .i64 t] w' fun e w'' => e = .returned (.int .i64 (15 - t)) ∧ w' = w'') := fun w' => kTestNot_s t w' ht15
        have ht0 := ht15.1
        have ht5 := ht15.2
        rw [← hL.out]
        clear kt ka kb hl hl1 hl2 ht15 hLL hL hL1 hL2'
        cases kl : kvB L
        all_goals
          have KL := Lib.hid kl
          clear kl
          go_enter Tryz.func180, Tryz.ntmps180
          go_wp2_with fail
          refine (sTestValid_c _ _).mono ?_
          rw [KT.out]
          rintro e w' ⟨rfl, rfl⟩
          go_wp2_with fail
          refine (sKatValid_c a ca la _ (HA.out.ext (by (repeat (first | exact Ext.refl _ | assumption | refine Ext.alloc ?_ _ | refine Ext.drewN ?_ _ | refine Ext.drew ?_)))) (by omega)).mono ?_
          rw [KA.out]
          rintro e w' ⟨rfl, rfl⟩
          go_wp2_with fail
          refine (sKatValid_c b cb lb _ (HB.out.ext (by (repeat (first | exact Ext.refl _ | assumption | refine Ext.alloc ?_ _ | refine Ext.drewN ?_ _ | refine Ext.drew ?_)))) (by omega)).mono ?_
          rw [KB.out]
          rintro e w' ⟨rfl, rfl⟩
          go_wp2_with fail
          refine (J1.out _ _ (by (repeat (first | exact Ext.refl _ | assumption | refine Ext.alloc ?_ _ | refine Ext.drewN ?_ _ | refine Ext.drew ?_))) ((OwnI.lit1 _ _ _ _ (Nat.le_refl _)).ints)).mono ?_
          rintro e w1 ⟨v1, rfl, o1, y⟩
          have hx1 := Lib.hid (Ext.trans (show Ext w _ by (repeat (first | exact Ext.refl _ | assumption | refine Ext.alloc ?_ _ | refine Ext.drewN ?_ _ | refine Ext.drew ?_))) y)
          obtain ⟨a1, c1, rfl, -⟩ := o1.shape
          have O1 := Lib.hid o1.ints
          have hz1 := hx1.out.size
          clear o1 y
          go_wp2_with fail
          refine (C1.out _).mono ?_
          rintro e w' ⟨rfl, rfl⟩
          go_wp2_with fail
          refine (J2.out _ _ (hx1.out.trans (by (repeat (first | exact Ext.refl _ | assumption | refine Ext.alloc ?_ _ | refine Ext.drewN ?_ _ | refine Ext.drew ?_)))) ((OwnI.lit1 _ _ _ _ (Nat.le_refl _)).ints)).mono ?_
          rintro e w2 ⟨v2, rfl, o2, y⟩
          have hx2 := Lib.hid (hx1.out.trans (Ext.trans (by (repeat (first | exact Ext.refl _ | assumption | refine Ext.alloc ?_ _ | refine Ext.drewN ?_ _ | refine Ext.drew ?_))) y))
          have O1' := Lib.hid (O1.out.ext (Ext.trans (by (repeat (first | exact Ext.refl _ | assumption | refine Ext.alloc ?_ _ | refine Ext.drewN ?_ _ | refine Ext.drew ?_))) y))
          obtain ⟨a2, c2, rfl, -⟩ := o2.shape
          have O2 := Lib.hid o2.ints
          have hz2 := hx2.out.size
          clear o2 y
          go_wp2_with fail
          refine (J3.out _ _ _ _ _ (O1'.out.ext (by (repeat (first | exact Ext.refl _ | assumption | refine Ext.alloc ?_ _ | refine Ext.drewN ?_ _ | refine Ext.drew ?_)))) (O2.out.ext (by (repeat (first | exact Ext.refl _ | assumption | refine Ext.alloc ?_ _ | refine Ext.drewN ?_ _ | refine Ext.drew ?_))))).mono ?_
          rintro e w3 ⟨v3, rfl, o3, y⟩
          have hx3 := Lib.hid (hx2.out.trans (Ext.trans (by (repeat (first | exact Ext.refl _ | assumption | refine Ext.alloc ?_ _ | refine Ext.drewN ?_ _ | refine Ext.drew ?_))) y))
          have O3 := Lib.hid (o3.mono (B' := w.heap.size) (by first | omega | (simp; omega)))
          obtain ⟨a3, c3, rfl, -⟩ := o3.shape
          have hz3 := hx3.out.size
          clear o3 y
          go_wp2_with fail
          refine (sKatValid_c a3 c3 L _ (O3.out.ints.ext (by (repeat (first | exact Ext.refl _ | assumption | refine Ext.alloc ?_ _ | refine Ext.drewN ?_ _ | refine Ext.drew ?_)))) hL2).mono ?_
          rw [KL.out]
          rintro e w' ⟨rfl, rfl⟩
          go_wp2
          go_ret2
          first
            | exact RetV.yes rfl O3.out hx3.out
            | exact RetV.no rfl ((OwnI.empty _ _).mono hz3) (hx3.out.trans (by (repeat (first | exact Ext.refl _ | assumption | refine Ext.alloc ?_ _ | refine Ext.drewN ?_ _ | refine Ext.drew ?_))))
end Go.Proofs.YtlaamecfknkmlaaGreat
/- Contracts: rows one or the other, one behind the other, again and again, and back. -/
namespace Go.Proofs.YtlaamecfknkmlaaGreat
set_option linter.unusedVariables false
open Go.RowKit Go.Kt

theorem rvB_len {n : Int} {l : List Int} (h : rvB n l = true) : (l.length : Int) = n := by
  simp only [rvB, decide_eq_true_eq] at h; exact h.2.2.1
theorem rvB_sets {n : Int} {l : List Int} (h : rvB n l = true) : Sets l ∧ (∀ i, i < l.length → natAt l i < 2 ^ n.toNat) ∧ 1 ≤ l.length ∧ l.length ≤ 5 := by
  simp only [rvB, decide_eq_true_eq] at h
  obtain ⟨h1, h2, h3, h4⟩ := h
  have hb : ∀ i, i < l.length → 0 ≤ nth l i ∧ nth l i < 2 ^ n.toNat := fun i hi => h4 _ (nth_mem l i hi)
  have hp := pow_le_32 n.toNat (by omega)
  refine ⟨fun i hi => by have := hb i hi; omega, fun i hi => ?_, by omega, by omega⟩
  have := hb i hi
  unfold natAt
  have h5 : ((nth l i).toNat : Int) < ((2 ^ n.toNat : Nat) : Int) := by rw [Int.toNat_of_nonneg this.1]; simpa using this.2
  exact_mod_cast h5

/-- RowsPlus. -/
def plusF (n : Int) (a b : List Int) : List Int := if rvB n a && rvB n b then plusTo a b a.length else []

theorem iRowsPlus_c (n : Int) (a b : Option Addr) (ca cb : Nat) (la lb : List Int) (w : World) (ha : IntsAt w a la) (hb : IntsAt w b lb) (hla : la.length ≤ 1048576) (hlb : lb.length ≤ 1048576) :
    Calls Tryz.prog 152 #[.int .i64 n, .slice a la.length ca, .slice b lb.length cb] w (RetI 3 w (plusF n la lb)) := by
  cases h1 : rvB n la
  · have hF : plusF n la lb = [] := by simp [plusF, h1]
    rw [hF]
    clear hF
    go_enter Tryz.func152, Tryz.ntmps152
    go_wp2_with fail
    refine (iRowsValid_c n a ca la w ha (by omega)).mono ?_
    rintro e w1 ⟨rfl, hx⟩
    go_wp2
    go_ret
    exact ⟨_, rfl, OwnI.nil _ _ _, hx⟩
  · cases h2 : rvB n lb
    · have hF : plusF n la lb = [] := by simp [plusF, h2]
      rw [hF]
      clear hF
      go_enter Tryz.func152, Tryz.ntmps152
      go_wp2_with fail
      refine (iRowsValid_c n a ca la w ha (by omega)).mono ?_
      rintro e w1 ⟨rfl, hx⟩
      go_wp2_with fail
      refine (iRowsValid_c n b cb lb w1 (hb.ext hx) (by omega)).mono ?_
      rintro e w2 ⟨rfl, hx2⟩
      go_wp2
      go_ret
      exact ⟨_, rfl, OwnI.nil _ _ _, hx.trans hx2⟩
    · have hF : plusF n la lb = plusTo la lb la.length := by simp [plusF, h1, h2]
      rw [hF]
      obtain ⟨s1, -, -, l5⟩ := rvB_sets h1
      obtain ⟨s2, -, -, -⟩ := rvB_sets h2
      have hll : la.length = lb.length := by have := rvB_len h1; have := rvB_len h2; omega
      have HL := Lib.hid hll
      have S1 := Lib.hid s1
      have S2 := Lib.hid s2
      clear hF s1 s2 hll
      go_enter Tryz.func152, Tryz.ntmps152
      go_wp2_with fail
      refine (iRowsValid_c n a ca la w ha (by omega)).mono ?_
      rintro e w1 ⟨rfl, hx⟩
      go_wp2_with fail
      refine (iRowsValid_c n b cb lb w1 (hb.ext hx) (by omega)).mono ?_
      rintro e w2 ⟨rfl, hx2⟩
      have hx2 := hx.trans hx2
      obtain ⟨b1, o1, p1, q1⟩ := ha
      obtain ⟨b2, o2, p2, q2⟩ := hb
      have P1 := Lib.hid p1
      have Q1 := Lib.hid q1
      have P2 := Lib.hid p2
      have Q2 := Lib.hid q2
      clear p1 q1 p2 q2 hx
      go_wp2
      go_loopw [7, 22] (fun v i wr => Hid (∃ k : Nat, k ≤ la.length ∧ i = .int .i64 k ∧ OwnI wr w.heap.size 3 v (plusTo la lb k) ∧ Ext w wr)) (fun _ i _ => la.length - (intOf i).toNat)
      case atStart => exact Lib.hid ⟨0, Nat.zero_le _, rfl, OwnI.nil _ _ _, hx2⟩
      case round =>
        obtain ⟨k, hk, rfl, ho, hxr⟩ := hrel.out
        clear hrel
        by_cases hlt : k < la.length
        · obtain ⟨rfl, hb1⟩ := P1.out (by omega)
          obtain ⟨rfl, hb2⟩ := P2.out (by have := HL.out; omega)
          have hlt2 : k < lb.length := by have := HL.out; omega
          have hc1 := hxr.cell' (Q1.out k hlt) hb1
          have hc2 := hxr.cell' (Q2.out k hlt2) hb2
          rw [S1.out.eq k hlt] at hc1
          rw [S2.out.eq k hlt2] at hc2
          have e := i64_orN (natAt la k) (natAt lb k) (S1.out.lt k hlt) (S2.out.lt k hlt2)
          clear P1 Q1 P2 Q2
          go_wp2_with (at_builtin; refine append_int rfl _ _ _ rfl w.heap.size 3 Tryz.underlying23 infoInt _ _ rfl (ho.ext (Ext.alloc (Ext.refl wr) _)) _ _ rfl (cell_new0 _ _ _) ?c1 ?c2 ?_)
          case c1 => rw [plusTo_length]; omega
          case c2 => have := hxr.size; simp; omega
          intro v' w' ho' hg
          go_wp2
          go_roundw
          case rel => exact Lib.hid ⟨k + 1, by omega, by go_num, by rw [plusTo_succ]; exact ho', OwnI.grown (ho.ext (Ext.alloc (Ext.refl wr) _)) (hxr.alloc _) hg⟩
          case measure => simp [intOf]; omega
        · obtain rfl : k = la.length := by omega
          go_wp2
          go_ret
          exact ⟨_, rfl, ho, hxr⟩
/-- RowsThen. -/
def thenF (n : Int) (a b : List Int) : List Int := if rvB n a && rvB n b then thenTo a b a.length else []

theorem iRowsThen_c (n : Int) (a b : Option Addr) (ca cb : Nat) (la lb : List Int) (w : World) (ha : IntsAt w a la) (hb : IntsAt w b lb) (hla : la.length ≤ 1048576) (hlb : lb.length ≤ 1048576) :
    Calls Tryz.prog 100 #[.int .i64 n, .slice a la.length ca, .slice b lb.length cb] w (RetI 3 w (thenF n la lb)) := by
  cases h1 : rvB n la
  · have hF : thenF n la lb = [] := by simp [thenF, h1]
    rw [hF]
    clear hF
    go_enter Tryz.func100, Tryz.ntmps100
    go_wp2_with fail
    refine (iRowsValid_c n a ca la w ha (by omega)).mono ?_
    rintro e w1 ⟨rfl, hx⟩
    go_wp2
    go_ret
    exact ⟨_, rfl, OwnI.nil _ _ _, hx⟩
  · cases h2 : rvB n lb
    · have hF : thenF n la lb = [] := by simp [thenF, h2]
      rw [hF]
      clear hF
      go_enter Tryz.func100, Tryz.ntmps100
      go_wp2_with fail
      refine (iRowsValid_c n a ca la w ha (by omega)).mono ?_
      rintro e w1 ⟨rfl, hx⟩
      go_wp2_with fail
      refine (iRowsValid_c n b cb lb w1 (hb.ext hx) (by omega)).mono ?_
      rintro e w2 ⟨rfl, hx2⟩
      go_wp2
      go_ret
      exact ⟨_, rfl, OwnI.nil _ _ _, hx.trans hx2⟩
    · have hF : thenF n la lb = thenTo la lb la.length := by simp [thenF, h1, h2]
      rw [hF]
      obtain ⟨s1, -, -, l5⟩ := rvB_sets h1
      obtain ⟨s2, -, -, -⟩ := rvB_sets h2
      have hll : la.length = lb.length := by have := rvB_len h1; have := rvB_len h2; omega
      have HL := Lib.hid hll
      have S1 := Lib.hid s1
      have S2 := Lib.hid s2
      clear hF s1 s2 hll
      go_enter Tryz.func100, Tryz.ntmps100
      go_wp2_with fail
      refine (iRowsValid_c n a ca la w ha (by omega)).mono ?_
      rintro e w1 ⟨rfl, hx⟩
      go_wp2_with fail
      refine (iRowsValid_c n b cb lb w1 (hb.ext hx) (by omega)).mono ?_
      rintro e w2 ⟨rfl, hx2⟩
      have hx2 := hx.trans hx2
      obtain ⟨b1, o1, p1, q1⟩ := ha
      have HB := Lib.hid hb
      have P1 := Lib.hid p1
      have Q1 := Lib.hid q1
      clear p1 q1 hx hb
      go_wp2
      go_loopw [7, 22] (fun v i wr => Hid (∃ k : Nat, k ≤ la.length ∧ i = .int .i64 k ∧ OwnI wr w.heap.size 3 v (thenTo la lb k) ∧ Ext w wr)) (fun _ i _ => la.length - (intOf i).toNat)
      case atStart => exact Lib.hid ⟨0, Nat.zero_le _, rfl, OwnI.nil _ _ _, hx2⟩
      case round =>
        obtain ⟨k, hk, rfl, ho, hxr⟩ := hrel.out
        clear hrel
        by_cases hlt : k < la.length
        · obtain ⟨rfl, hb1⟩ := P1.out (by omega)
          have hc1 := hxr.cell' (Q1.out k hlt) hb1
          rw [S1.out.eq k hlt] at hc1
          have hib := HB.out.ext hxr
          clear P1 Q1
          go_wp2_with (first | (go_at_call 81; refine (image_c _ _ _ _ _ hib S2.out (by have := HL.out; omega) (S1.out.lt k hlt)).mono ?_; rintro e w' ⟨rfl, rfl⟩) | (at_builtin; refine append_int rfl _ _ _ rfl w.heap.size 3 Tryz.underlying23 infoInt _ (thenTo la lb k) rfl ?ho _ (((img lb (natAt la k) : Nat) : Int)) rfl ?hc ?c1 ?c2 ?_))
          case ho => exact ho.ext (by (repeat (first | exact Ext.refl _ | assumption | refine Ext.alloc ?_ _ | refine Ext.drewN ?_ _ | refine Ext.drew ?_)))
          case hc => first | exact cell_new0 _ _ _ | simp
          case c1 => rw [thenTo_length]; omega
          case c2 => have := hxr.size; simp; omega
          intro v' w' ho' hg
          go_wp2
          go_roundw
          case rel => exact Lib.hid ⟨k + 1, by omega, by go_num, by rw [thenTo_succ]; exact ho', OwnI.grown (ho.ext (by (repeat (first | exact Ext.refl _ | assumption | refine Ext.alloc ?_ _ | refine Ext.drewN ?_ _ | refine Ext.drew ?_)))) (by (repeat (first | exact Ext.refl _ | assumption | refine Ext.alloc ?_ _ | refine Ext.drewN ?_ _ | refine Ext.drew ?_))) hg⟩
          case measure => simp [intOf]; omega
        · obtain rfl : k = la.length := by omega
          go_wp2
          go_ret
          exact ⟨_, rfl, ho, hxr⟩

theorem sRowsThen_c (n : Int) (a b : Option Addr) (ca cb : Nat) (la lb : List Int) (w : World) (ha : IntsAt w a la) (hb : IntsAt w b lb) (hla : la.length ≤ 1048576) (hlb : lb.length ≤ 1048576) :
    Calls Tryz.prog 102 #[.int .i64 n, .slice a la.length ca, .slice b lb.length cb] w (RetI 3 w (thenF n la lb)) := by
  have HA := Lib.hid ha
  have HB := Lib.hid hb
  clear ha hb
  cases h1 : rvB n la
  · have hF : thenF n la lb = [] := by simp [thenF, h1]
    rw [hF]
    clear hF
    go_enter Tryz.func102, Tryz.ntmps102
    go_wp2
    go_loopw [7, 8] (fun v i wr => Hid (v = .slice (some ⟨w.heap.size, 0, none⟩) 0 0 ∧ i = .int .i64 0 ∧ OwnI wr w.heap.size 3 v [] ∧ Ext w wr)) (fun _ _ _ => 0)
    case atStart => exact Lib.hid ⟨rfl, rfl, OwnI.empty _ _, (Ext.refl w).alloc _⟩
    case round =>
      obtain ⟨rfl, rfl, ho, hx⟩ := hrel.out
      clear hrel
      by_cases hlt : 0 < la.length
      · go_wp2_with fail
        refine (sRowsValid_c n a ca la _ (HA.out.ext hx) (by omega)).mono ?_
        rintro e w1 ⟨rfl, m, rfl⟩
        go_wp2
        go_ret
        exact ⟨_, rfl, ho.ext (by (repeat (first | exact Ext.refl _ | assumption | refine Ext.alloc ?_ _ | refine Ext.drewN ?_ _ | refine Ext.drew ?_))), by (repeat (first | exact Ext.refl _ | assumption | refine Ext.alloc ?_ _ | refine Ext.drewN ?_ _ | refine Ext.drew ?_))⟩
      · have h0 : la.length = 0 := by omega
        go_wp2
        go_ret
        exact ⟨_, rfl, ho, hx⟩
  · cases h2 : rvB n lb
    · have hF : thenF n la lb = [] := by simp [thenF, h2]
      rw [hF]
      clear hF
      go_enter Tryz.func102, Tryz.ntmps102
      go_wp2
      go_loopw [7, 8] (fun v i wr => Hid (v = .slice (some ⟨w.heap.size, 0, none⟩) 0 0 ∧ i = .int .i64 0 ∧ OwnI wr w.heap.size 3 v [] ∧ Ext w wr)) (fun _ _ _ => 0)
      case atStart => exact Lib.hid ⟨rfl, rfl, OwnI.empty _ _, (Ext.refl w).alloc _⟩
      case round =>
        obtain ⟨rfl, rfl, ho, hx⟩ := hrel.out
        clear hrel
        by_cases hlt : 0 < la.length
        · go_wp2_with fail
          refine (sRowsValid_c n a ca la _ (HA.out.ext hx) (by omega)).mono ?_
          rintro e w1 ⟨rfl, m, rfl⟩
          go_wp2_with fail
          refine (sRowsValid_c n b cb lb _ (HB.out.ext (by (repeat (first | exact Ext.refl _ | assumption | refine Ext.alloc ?_ _ | refine Ext.drewN ?_ _ | refine Ext.drew ?_)))) (by omega)).mono ?_
          rintro e w1 ⟨rfl, m', rfl⟩
          go_wp2
          go_ret
          exact ⟨_, rfl, ho.ext (by (repeat (first | exact Ext.refl _ | assumption | refine Ext.alloc ?_ _ | refine Ext.drewN ?_ _ | refine Ext.drew ?_))), by (repeat (first | exact Ext.refl _ | assumption | refine Ext.alloc ?_ _ | refine Ext.drewN ?_ _ | refine Ext.drew ?_))⟩
        · have h0 : la.length = 0 := by omega
          go_wp2
          go_ret
          exact ⟨_, rfl, ho, hx⟩
    · have hF : thenF n la lb = thenTo la lb la.length := by simp [thenF, h1, h2]
      rw [hF]
      obtain ⟨s1, -, -, l5⟩ := rvB_sets h1
      obtain ⟨s2, -, -, -⟩ := rvB_sets h2
      have hll : la.length = lb.length := by have := rvB_len h1; have := rvB_len h2; omega
      have HL := Lib.hid hll
      have S1 := Lib.hid s1
      have S2 := Lib.hid s2
      obtain ⟨b1, o1, p1, q1⟩ := HA.out
      have P1 := Lib.hid p1
      have Q1 := Lib.hid q1
      clear hF s1 s2 hll p1 q1
      go_enter Tryz.func102, Tryz.ntmps102
      go_wp2
      go_loopw [7, 8] (fun v i wr => Hid (∃ k : Nat, k ≤ la.length ∧ i = .int .i64 k ∧ OwnI wr w.heap.size 3 v (thenTo la lb k) ∧ Ext w wr)) (fun _ i _ => la.length - (intOf i).toNat)
      case atStart => exact Lib.hid ⟨0, Nat.zero_le _, rfl, OwnI.empty _ _, (Ext.refl w).alloc _⟩
      case round =>
        obtain ⟨k, hk, rfl, ho, hxr⟩ := hrel.out
        clear hrel
        by_cases hlt : k < la.length
        · have hia := HA.out.ext hxr
          have hib := HB.out.ext hxr
          obtain ⟨rfl, hb1⟩ := P1.out (by omega)
          have hc1 := hxr.cell' (Q1.out k hlt) hb1
          rw [S1.out.eq k hlt] at hc1
          clear P1 Q1 HA HB
          go_wp2_with fail
          refine (sRowsValid_c n _ ca la _ hia (by omega)).mono ?_
          rintro e w1 ⟨rfl, m, rfl⟩
          go_wp2_with fail
          refine (sRowsValid_c n b cb lb _ (hib.ext (by (repeat (first | exact Ext.refl _ | assumption | refine Ext.alloc ?_ _ | refine Ext.drewN ?_ _ | refine Ext.drew ?_)))) (by omega)).mono ?_
          rintro e w1 ⟨rfl, m', rfl⟩
          go_wp2_with (first | (go_at_call 84; refine (l7Image_c _ _ _ _ _ (hib.ext (by (repeat (first | exact Ext.refl _ | assumption | refine Ext.alloc ?_ _ | refine Ext.drewN ?_ _ | refine Ext.drew ?_)))) S2.out (by have := HL.out; omega) (S1.out.lt k hlt)).mono ?_; rintro e w' ⟨rfl, rfl⟩) | (at_builtin; refine append_int rfl _ _ _ rfl w.heap.size 3 Tryz.underlying23 infoInt _ (thenTo la lb k) rfl ?ho _ (((img lb (natAt la k) : Nat) : Int)) rfl ?hc ?c1 ?c2 ?_))
          case ho => exact ho.ext (by (repeat (first | exact Ext.refl _ | assumption | refine Ext.alloc ?_ _ | refine Ext.drewN ?_ _ | refine Ext.drew ?_)))
          case hc => first | exact cell_new0 _ _ _ | simp
          case c1 => rw [thenTo_length]; omega
          case c2 => have := hxr.size; simp; omega
          intro v' w' ho' hg
          go_wp2
          go_roundw
          case rel => exact Lib.hid ⟨k + 1, by omega, by go_num, by rw [thenTo_succ]; exact ho', OwnI.grown (ho.ext (by (repeat (first | exact Ext.refl _ | assumption | refine Ext.alloc ?_ _ | refine Ext.drewN ?_ _ | refine Ext.drew ?_)))) (by (repeat (first | exact Ext.refl _ | assumption | refine Ext.alloc ?_ _ | refine Ext.drewN ?_ _ | refine Ext.drew ?_))) hg⟩
          case measure => simp [intOf]; omega
        · obtain rfl : k = la.length := by omega
          go_wp2
          go_ret
          exact ⟨_, rfl, ho, hxr⟩

set_option maxRecDepth 100000 in
theorem sRowsPlus_c (n : Int) (a b : Option Addr) (ca cb : Nat) (la lb : List Int) (w : World) (ha : IntsAt w a la) (hb : IntsAt w b lb) (hla : la.length ≤ 1048576) (hlb : lb.length ≤ 1048576) :
    Calls Tryz.prog 144 #[.int .i64 n, .slice a la.length ca, .slice b lb.length cb] w (RetI 3 w (plusF n la lb)) := by
  have HA := Lib.hid ha
  have HB := Lib.hid hb
  clear ha hb
  cases h1 : rvB n la
  · have hF : plusF n la lb = [] := by simp [plusF, h1]
    rw [hF]
    clear hF
    go_enter Tryz.func144, Tryz.ntmps144
    go_wp2
    go_loopw [7, 8] (fun v i wr => Hid (v = .slice (some ⟨w.heap.size, 0, none⟩) 0 0 ∧ i = .int .i64 0 ∧ OwnI wr w.heap.size 3 v [] ∧ Ext w wr)) (fun _ _ _ => 0)
    case atStart => exact Lib.hid ⟨rfl, rfl, OwnI.empty _ _, (Ext.refl w).alloc _⟩
    case round =>
      obtain ⟨rfl, rfl, ho, hx⟩ := hrel.out
      clear hrel
      by_cases hlt : 0 < la.length
      · go_wp2_with fail
        refine (sRowsValid_c n a ca la _ (HA.out.ext hx) (by omega)).mono ?_
        rintro e w1 ⟨rfl, m, rfl⟩
        go_wp2
        go_ret
        exact ⟨_, rfl, ho.ext (by (repeat (first | exact Ext.refl _ | assumption | refine Ext.alloc ?_ _ | refine Ext.drewN ?_ _ | refine Ext.drew ?_))), by (repeat (first | exact Ext.refl _ | assumption | refine Ext.alloc ?_ _ | refine Ext.drewN ?_ _ | refine Ext.drew ?_))⟩
      · have h0 : la.length = 0 := by omega
        go_wp2
        go_ret
        exact ⟨_, rfl, ho, hx⟩
  · cases h2 : rvB n lb
    · have hF : plusF n la lb = [] := by simp [plusF, h2]
      rw [hF]
      clear hF
      go_enter Tryz.func144, Tryz.ntmps144
      go_wp2
      go_loopw [7, 8] (fun v i wr => Hid (v = .slice (some ⟨w.heap.size, 0, none⟩) 0 0 ∧ i = .int .i64 0 ∧ OwnI wr w.heap.size 3 v [] ∧ Ext w wr)) (fun _ _ _ => 0)
      case atStart => exact Lib.hid ⟨rfl, rfl, OwnI.empty _ _, (Ext.refl w).alloc _⟩
      case round =>
        obtain ⟨rfl, rfl, ho, hx⟩ := hrel.out
        clear hrel
        by_cases hlt : 0 < la.length
        · go_wp2_with fail
          refine (sRowsValid_c n a ca la _ (HA.out.ext hx) (by omega)).mono ?_
          rintro e w1 ⟨rfl, m, rfl⟩
          go_wp2_with fail
          refine (sRowsValid_c n b cb lb _ (HB.out.ext (by (repeat (first | exact Ext.refl _ | assumption | refine Ext.alloc ?_ _ | refine Ext.drewN ?_ _ | refine Ext.drew ?_)))) (by omega)).mono ?_
          rintro e w1 ⟨rfl, m', rfl⟩
          go_wp2
          go_ret
          exact ⟨_, rfl, ho.ext (by (repeat (first | exact Ext.refl _ | assumption | refine Ext.alloc ?_ _ | refine Ext.drewN ?_ _ | refine Ext.drew ?_))), by (repeat (first | exact Ext.refl _ | assumption | refine Ext.alloc ?_ _ | refine Ext.drewN ?_ _ | refine Ext.drew ?_))⟩
        · have h0 : la.length = 0 := by omega
          go_wp2
          go_ret
          exact ⟨_, rfl, ho, hx⟩
    · have hF : plusF n la lb = plusTo la lb la.length := by simp [plusF, h1, h2]
      rw [hF]
      obtain ⟨s1, -, -, l5⟩ := rvB_sets h1
      obtain ⟨s2, -, -, -⟩ := rvB_sets h2
      have hll : la.length = lb.length := by have := rvB_len h1; have := rvB_len h2; omega
      have HL := Lib.hid hll
      have S1 := Lib.hid s1
      have S2 := Lib.hid s2
      obtain ⟨b1, o1, p1, q1⟩ := HA.out
      have P1 := Lib.hid p1
      have Q1 := Lib.hid q1
      clear hF s1 s2 hll p1 q1
      go_enter Tryz.func144, Tryz.ntmps144
      go_wp2
      go_loopw [7, 8] (fun v i wr => Hid (∃ k : Nat, k ≤ la.length ∧ i = .int .i64 k ∧ OwnI wr w.heap.size 3 v (plusTo la lb k) ∧ Ext w wr)) (fun _ i _ => la.length - (intOf i).toNat)
      case atStart => exact Lib.hid ⟨0, Nat.zero_le _, rfl, OwnI.empty _ _, (Ext.refl w).alloc _⟩
      case round =>
        obtain ⟨k, hk, rfl, ho, hxr⟩ := hrel.out
        clear hrel
        by_cases hlt : k < la.length
        · have hia := HA.out.ext hxr
          have hib := HB.out.ext hxr
          obtain ⟨b2, o2, p2, q2⟩ := HB.out
          obtain ⟨rfl, hb1⟩ := P1.out (by omega)
          have hcw1 := Q1.out k hlt
          have hlt2 : k < lb.length := by have := HL.out; omega
          obtain ⟨rfl, hb2⟩ := p2 (by omega)
          have hcw2 := q2 k hlt2
          rw [S1.out.eq k hlt] at hcw1
          rw [S2.out.eq k hlt2] at hcw2
          have hc1 := hxr.cell' hcw1 hb1
          have hc2 := hxr.cell' hcw2 hb2
          have HW1 := Lib.hid hcw1
          have HW2 := Lib.hid hcw2
          clear hcw1 hcw2
          clear P1 Q1 HA HB p2 q2
          go_wp2_with fail
          refine (sRowsValid_c n _ ca la _ hia (by omega)).mono ?_
          rintro e w1 ⟨rfl, m, rfl⟩
          go_wp2_with fail
          refine (sRowsValid_c n _ cb lb _ (hib.ext (by (repeat (first | exact Ext.refl _ | assumption | refine Ext.alloc ?_ _ | refine Ext.drewN ?_ _ | refine Ext.drew ?_)))) (by omega)).mono ?_
          rintro e w1 ⟨rfl, m', rfl⟩
          go_wp2
          have hlo := S1.out.lt k hlt
          have hlo2 := S2.out.lt k hlt2
          go_region_held3 (fun w' => w'.cell? ⟨b1, o1 + k, none⟩ = some (.int .i64 ((natAt la k : Nat) : Int)) ∧ w'.cell? ⟨b2, o2 + k, none⟩ = some (.int .i64 ((natAt lb k : Nat) : Int)))
            (first
              | go_keep
              | (have hE := OwnI.grown (w0 := w) (ho.ext (by (repeat (first | exact Ext.refl _ | assumption | refine Ext.alloc ?_ _ | refine Ext.drewN ?_ _ | refine Ext.drew ?_)))) (by (repeat (first | exact Ext.refl _ | assumption | refine Ext.alloc ?_ _ | refine Ext.drewN ?_ _ | refine Ext.drew ?_))) hg
                 exact ⟨hE.cell' HW1.out hb1, hE.cell' HW2.out hb2⟩))
            ((first
              | (go_at_call 122; refine (l1Either_c _ _ _ hlo hlo2).mono ?_; rintro e w' ⟨rfl, rfl⟩)
              | (refine step_append_int rfl _ _ _ rfl w.heap.size 3 Tryz.underlying23 infoInt _ (plusTo la lb k) rfl (ho.ext (by (repeat (first | exact Ext.refl _ | assumption | refine Ext.alloc ?_ _ | refine Ext.drewN ?_ _ | refine Ext.drew ?_)))) _ ((orN (natAt la k) (natAt lb k) : Nat) : Int) rfl (by first | exact cell_new0 _ _ _ | simp) (by rw [plusTo_length]; omega) (by have := hxr.size; simp; omega) ?_; intro v' w' ho' hg)))
          go_wp2
          go_roundw
          case rel => exact Lib.hid ⟨k + 1, by omega, by go_num, by rw [plusTo_succ]; exact ho', OwnI.grown (ho.ext (by (repeat (first | exact Ext.refl _ | assumption | refine Ext.alloc ?_ _ | refine Ext.drewN ?_ _ | refine Ext.drew ?_)))) (by (repeat (first | exact Ext.refl _ | assumption | refine Ext.alloc ?_ _ | refine Ext.drewN ?_ _ | refine Ext.drew ?_))) hg⟩
          case measure => simp [intOf]; omega
        · obtain rfl : k = la.length := by omega
          go_wp2
          go_ret
          exact ⟨_, rfl, ho, hxr⟩
end Go.Proofs.YtlaamecfknkmlaaGreat
/- Contracts: rows again and again, and back. -/
namespace Go.Proofs.YtlaamecfknkmlaaGreat
set_option linter.unusedVariables false
open Go.RowKit Go.Kt

/-- RowsStar, RowsBack. -/
def starF (n : Int) (a : List Int) : List Int := if rvB n a then starTo a a.length else []
def backF (n : Int) (a : List Int) : List Int := if rvB n a then backTo a a.length else []

theorem iRowsStar_c (n : Int) (a : Option Addr) (ca : Nat) (la : List Int) (w : World) (ha : IntsAt w a la) (hla : la.length ≤ 1048576) :
    Calls Tryz.prog 153 #[.int .i64 n, .slice a la.length ca] w (RetI 3 w (starF n la)) := by
  cases h1 : rvB n la
  · have hF : starF n la = [] := by simp [starF, h1]
    rw [hF]
    clear hF
    go_enter Tryz.func153, Tryz.ntmps153
    go_wp2_with fail
    refine (iRowsValid_c n a ca la w ha (by omega)).mono ?_
    rintro e w1 ⟨rfl, hx⟩
    go_wp2
    go_ret
    exact ⟨_, rfl, OwnI.nil _ _ _, hx⟩
  · have hF : starF n la = starTo la la.length := by simp [starF, h1]
    rw [hF]
    obtain ⟨s1, sb, -, l5⟩ := rvB_sets h1
    have sb' : ∀ i, i < la.length → natAt la i < 2 ^ 5 := fun i hi => Nat.lt_of_lt_of_le (sb i hi) (by
      have hn : n.toNat ≤ 5 := by have := rvB_len h1; omega
      exact Nat.pow_le_pow_right (by decide) hn)
    have S1 := Lib.hid s1
    have SB := Lib.hid sb'
    have HA := Lib.hid ha
    clear hF s1 sb sb'
    go_enter Tryz.func153, Tryz.ntmps153
    go_wp2_with fail
    refine (iRowsValid_c n a ca la w ha (by omega)).mono ?_
    rintro e w1 ⟨rfl, hx⟩
    clear ha
    go_wp2
    go_loopw [5, 15] (fun v i wr => Hid (∃ k : Nat, k ≤ la.length ∧ i = .int .i64 k ∧ OwnI wr w.heap.size 3 v (starTo la k) ∧ Ext w wr)) (fun _ i _ => la.length - (intOf i).toNat)
    case atStart => exact Lib.hid ⟨0, Nat.zero_le _, rfl, OwnI.nil _ _ _, hx⟩
    case round =>
      obtain ⟨k, hk, rfl, ho, hxr⟩ := hrel.out
      clear hrel
      by_cases hlt : k < la.length
      · have hia := HA.out.ext hxr
        have hpc := pow2_cast k
        have hp1 : pow2 k ≤ 16 := pow2_le k 4 (by omega)
        have hpl : pow2 k < 2 ^ 5 := Nat.lt_of_le_of_lt hp1 (by decide)
        have PL := Lib.hid hpl
        clear hpl
        have e0 : bits .or .i64 ((pow2 k : Nat) : Int) ((img la (pow2 k) : Nat) : Int) = ((stepN la (pow2 k) : Nat) : Int) := i64_orN _ _ (by omega) (Nat.lt_trans (img_lt SB.out _) (by decide))
        go_wp2_with (go_at_call 81; refine (image_c _ _ _ _ _ hia S1.out (by omega) (by omega)).mono ?_; rintro e w' ⟨rfl, rfl⟩)
        go_loop [7, 8] (fun s nx => Hid (∃ i : Nat, i ≤ iterN la (pow2 k) i ∧ s = .int .i64 (iterN la (pow2 k) i : Nat) ∧ nx = .int .i64 (iterN la (pow2 k) (i + 1) : Nat))) (fun s _ => 40 - (intOf s).toNat)
        case atStart => exact Lib.hid ⟨0, Nat.zero_le _, rfl, rfl⟩
        case round =>
          obtain ⟨i, hi, rfl, rfl⟩ := hrel.out
          clear hrel e0
          have l1 : iterN la (pow2 k) i < 32 := iterN_lt SB.out PL.out i
          have l2 : iterN la (pow2 k) (i + 1) < 32 := iterN_lt SB.out PL.out (i + 1)
          have hge : iterN la (pow2 k) i ≤ iterN la (pow2 k) (i + 1) := stepN_ge _ _
          by_cases hf : iterN la (pow2 k) (i + 1) = iterN la (pow2 k) i
          · have hb : (((iterN la (pow2 k) (i + 1) : Nat) : Int) != ((iterN la (pow2 k) i : Nat) : Int)) = false := by simp [hf]
            have HC := Lib.hid (clo_of_fix la (pow2 k) i (by omega) hf)
            clear hf
            go_wp2_with (at_builtin; refine append_int rfl _ _ _ rfl w.heap.size 3 Tryz.underlying23 infoInt _ (starTo la k) rfl ?ho _ (((iterN la (pow2 k) i : Nat) : Int)) rfl ?hc ?c1 ?c2 ?_)
            case ho => exact ho.ext (by (repeat (first | exact Ext.refl _ | assumption | refine Ext.alloc ?_ _ | refine Ext.drewN ?_ _ | refine Ext.drew ?_)))
            try (case hc => first | exact cell_new0 _ _ _ | simp)
            case c1 => rw [starTo_length]; omega
            case c2 => have := hxr.size; simp; omega
            intro v' w' ho' hg
            go_wp2
            go_roundw
            case rel => exact Lib.hid ⟨k + 1, by omega, by go_num, by rw [starTo_succ, HC.out]; exact ho', OwnI.grown (ho.ext (by (repeat (first | exact Ext.refl _ | assumption | refine Ext.alloc ?_ _ | refine Ext.drewN ?_ _ | refine Ext.drew ?_)))) (by (repeat (first | exact Ext.refl _ | assumption | refine Ext.alloc ?_ _ | refine Ext.drewN ?_ _ | refine Ext.drew ?_))) hg⟩
            case measure => simp [intOf]; omega
          · have hb : (((iterN la (pow2 k) (i + 1) : Nat) : Int) != ((iterN la (pow2 k) i : Nat) : Int)) = true := by
              rw [bne_iff_ne]; intro he; exact hf (by exact_mod_cast he)
            have l3 : img la (iterN la (pow2 k) (i + 1)) < 4294967296 := Nat.lt_trans (img_lt SB.out _) (by decide)
            have e1 : bits .or .i64 ((iterN la (pow2 k) (i + 1) : Nat) : Int) ((img la (iterN la (pow2 k) (i + 1)) : Nat) : Int) = ((iterN la (pow2 k) (i + 1 + 1) : Nat) : Int) := i64_orN _ _ (by omega) l3
            have hgt : iterN la (pow2 k) i < iterN la (pow2 k) (i + 1) := by omega
            clear hf
            go_wp2_with (go_at_call 81; refine (image_c _ _ _ _ _ hia S1.out (by omega) (by omega)).mono ?_; rintro e w' ⟨rfl, rfl⟩)
            go_round
            case rel => exact Lib.hid ⟨i + 1, by omega, rfl, rfl⟩
            case measure => simp [intOf]; omega
      · obtain rfl : k = la.length := by omega
        go_wp2
        go_ret
        exact ⟨_, rfl, ho, hxr⟩

theorem sRowsStar_c (n : Int) (a : Option Addr) (ca : Nat) (la : List Int) (w : World) (ha : IntsAt w a la) (hla : la.length ≤ 1048576) :
    Calls Tryz.prog 142 #[.int .i64 n, .slice a la.length ca] w (RetI 3 w (starF n la)) := by
  have HA := Lib.hid ha
  clear ha
  cases h1 : rvB n la
  · have hF : starF n la = [] := by simp [starF, h1]
    rw [hF]
    clear hF
    go_enter Tryz.func142, Tryz.ntmps142
    go_wp2
    go_loopw [5, 6] (fun v i wr => Hid (v = .slice (some ⟨w.heap.size, 0, none⟩) 0 0 ∧ i = .int .i64 0 ∧ OwnI wr w.heap.size 3 v [] ∧ Ext w wr)) (fun _ _ _ => 0)
    case atStart => exact Lib.hid ⟨rfl, rfl, OwnI.empty _ _, (Ext.refl w).alloc _⟩
    case round =>
      obtain ⟨rfl, rfl, ho, hx⟩ := hrel.out
      clear hrel
      by_cases hlt : 0 < la.length
      · go_wp2_with fail
        refine (sRowsValid_c n a ca la _ (HA.out.ext hx) (by omega)).mono ?_
        rintro e w1 ⟨rfl, m, rfl⟩
        go_wp2
        go_ret
        exact ⟨_, rfl, ho.ext (by (repeat (first | exact Ext.refl _ | assumption | refine Ext.alloc ?_ _ | refine Ext.drewN ?_ _ | refine Ext.drew ?_))), by (repeat (first | exact Ext.refl _ | assumption | refine Ext.alloc ?_ _ | refine Ext.drewN ?_ _ | refine Ext.drew ?_))⟩
      · have h0 : la.length = 0 := by omega
        go_wp2
        go_ret
        exact ⟨_, rfl, ho, hx⟩
  · have hF : starF n la = starTo la la.length := by simp [starF, h1]
    rw [hF]
    obtain ⟨s1, sb, -, l5⟩ := rvB_sets h1
    have sb' : ∀ i, i < la.length → natAt la i < 2 ^ 5 := fun i hi => Nat.lt_of_lt_of_le (sb i hi) (by
      have hn : n.toNat ≤ 5 := by have := rvB_len h1; omega
      exact Nat.pow_le_pow_right (by decide) hn)
    have S1 := Lib.hid s1
    have SB := Lib.hid sb'
    clear hF s1 sb sb'
    go_enter Tryz.func142, Tryz.ntmps142
    go_wp2
    go_loopw [5, 6] (fun v i wr => Hid (∃ k : Nat, k ≤ la.length ∧ i = .int .i64 k ∧ OwnI wr w.heap.size 3 v (starTo la k) ∧ Ext w wr)) (fun _ i _ => la.length - (intOf i).toNat)
    case atStart => exact Lib.hid ⟨0, Nat.zero_le _, rfl, OwnI.empty _ _, (Ext.refl w).alloc _⟩
    case round =>
      obtain ⟨k, hk, rfl, ho, hxr⟩ := hrel.out
      clear hrel
      by_cases hlt : k < la.length
      · have hia := HA.out.ext hxr
        have hpc := pow2_cast k
        have hp1 : pow2 k ≤ 16 := pow2_le k 4 (by omega)
        have hpl : pow2 k < 2 ^ 5 := Nat.lt_of_le_of_lt hp1 (by decide)
        have PL := Lib.hid hpl
        clear hpl
        go_wp2_with fail
        refine (sRowsValid_c n _ ca la _ hia (by omega)).mono ?_
        rintro e w1 ⟨rfl, m, rfl⟩
        go_wp2
        go_loop [7] (fun s => Hid (∃ i : Nat, i ≤ iterN la (pow2 k) i ∧ s = .int .i64 (iterN la (pow2 k) i : Nat))) (fun s => 40 - (intOf s).toNat)
        case atStart => exact Lib.hid ⟨0, Nat.zero_le _, rfl⟩
        case round =>
          obtain ⟨i, hi, rfl⟩ := hrel.out
          clear hrel
          have l1 : iterN la (pow2 k) i < 32 := iterN_lt SB.out PL.out i
          have l2 : iterN la (pow2 k) (i + 1) < 32 := iterN_lt SB.out PL.out (i + 1)
          have hge : iterN la (pow2 k) i ≤ iterN la (pow2 k) (i + 1) := stepN_ge _ _
          have l3 : img la (iterN la (pow2 k) i) < 4294967296 := Nat.lt_trans (img_lt SB.out _) (by decide)
          have he : orN (iterN la (pow2 k) i) (img la (iterN la (pow2 k) i)) = iterN la (pow2 k) (i + 1) := rfl
          by_cases hf : iterN la (pow2 k) (i + 1) = iterN la (pow2 k) i
          · have hb : (((iterN la (pow2 k) (i + 1) : Nat) : Int) != ((iterN la (pow2 k) i : Nat) : Int)) = false := by simp [hf]
            have HC := Lib.hid (clo_of_fix la (pow2 k) i (by omega) hf)
            clear hf
            go_wp2_with (first | (go_at_call 84; refine (l7Image_c _ _ _ _ _ (hia.ext (by (repeat (first | exact Ext.refl _ | assumption | refine Ext.alloc ?_ _ | refine Ext.drewN ?_ _ | refine Ext.drew ?_)))) S1.out (by omega) (by omega)).mono ?_; rintro e w' ⟨rfl, rfl⟩) | (go_at_call 122; refine (l1Either_c _ _ _ (by omega) l3).mono ?_; rintro e w' ⟨rfl, rfl⟩) | (at_builtin; refine append_int rfl _ _ _ rfl w.heap.size 3 Tryz.underlying23 infoInt _ (starTo la k) rfl ?ho _ (((iterN la (pow2 k) i : Nat) : Int)) rfl ?hc ?c1 ?c2 ?_))
            case ho => exact ho.ext (by (repeat (first | exact Ext.refl _ | assumption | refine Ext.alloc ?_ _ | refine Ext.drewN ?_ _ | refine Ext.drew ?_)))
            try (case hc => first | exact cell_new0 _ _ _ | simp)
            case c1 => rw [starTo_length]; omega
            case c2 => have := hxr.size; simp; omega
            intro v' w' ho' hg
            go_wp2
            go_roundw
            case rel => exact Lib.hid ⟨k + 1, by omega, by go_num, by rw [starTo_succ, HC.out]; exact ho', OwnI.grown (ho.ext (by (repeat (first | exact Ext.refl _ | assumption | refine Ext.alloc ?_ _ | refine Ext.drewN ?_ _ | refine Ext.drew ?_)))) (by (repeat (first | exact Ext.refl _ | assumption | refine Ext.alloc ?_ _ | refine Ext.drewN ?_ _ | refine Ext.drew ?_))) hg⟩
            case measure => simp [intOf]; omega
          · have hb : (((iterN la (pow2 k) (i + 1) : Nat) : Int) != ((iterN la (pow2 k) i : Nat) : Int)) = true := by
              rw [bne_iff_ne]; intro he; exact hf (by exact_mod_cast he)
            have hgt : iterN la (pow2 k) i < iterN la (pow2 k) (i + 1) := by omega
            clear hf
            go_wp2_with (first | (go_at_call 84; refine (l7Image_c _ _ _ _ _ (hia.ext (by (repeat (first | exact Ext.refl _ | assumption | refine Ext.alloc ?_ _ | refine Ext.drewN ?_ _ | refine Ext.drew ?_)))) S1.out (by omega) (by omega)).mono ?_; rintro e w' ⟨rfl, rfl⟩) | (go_at_call 122; refine (l1Either_c _ _ _ (by omega) l3).mono ?_; rintro e w' ⟨rfl, rfl⟩))
            go_round
            case rel => exact Lib.hid ⟨i + 1, by omega, rfl⟩
            case measure => simp [intOf]; omega
      · obtain rfl : k = la.length := by omega
        go_wp2
        go_ret
        exact ⟨_, rfl, ho, hxr⟩

theorem iRowsBack_c (n : Int) (a : Option Addr) (ca : Nat) (la : List Int) (w : World) (ha : IntsAt w a la) (hla : la.length ≤ 1048576) :
    Calls Tryz.prog 50 #[.int .i64 n, .slice a la.length ca] w (RetI 3 w (backF n la)) := by
  cases h1 : rvB n la
  · have hF : backF n la = [] := by simp [backF, h1]
    rw [hF]
    clear hF
    go_enter Tryz.func50, Tryz.ntmps50
    go_wp2_with fail
    refine (iRowsValid_c n a ca la w ha (by omega)).mono ?_
    rintro e w1 ⟨rfl, hx⟩
    go_wp2
    go_ret
    exact ⟨_, rfl, OwnI.nil _ _ _, hx⟩
  · have hF : backF n la = backTo la la.length := by simp [backF, h1]
    rw [hF]
    obtain ⟨s1, -, -, l5⟩ := rvB_sets h1
    obtain rfl : n = ((la.length : Nat) : Int) := (rvB_len h1).symm
    have S1 := Lib.hid s1
    obtain ⟨b1, o1, p1, q1⟩ := ha
    have P1 := Lib.hid p1
    have Q1 := Lib.hid q1
    have HA : Hid (IntsAt w a la) := ⟨b1, o1, p1, q1⟩
    obtain ⟨i0, hi, hz0, hz1, hz2⟩ := info_parts infoInt
    have Hi := Lib.hid hi
    have Hz0 := Lib.hid hz0
    have Hz1 := Lib.hid hz1
    have Hz2 := Lib.hid hz2
    clear hF s1 p1 q1 hi hz0 hz1 hz2
    go_enter Tryz.func50, Tryz.ntmps50
    go_wp2_with fail
    refine (iRowsValid_c _ a ca la w HA.out (by omega)).mono ?_
    rintro e w1 ⟨rfl, hx⟩
    go_wp2_with (at_make; refine wpList_make_full _ rfl _ _ _ rfl w.heap.size 3 i0 (.int .i64 0) 1 Tryz.underlying23 Hi.out Hz0.out Hz1.out _ _ _ _ la.length rfl rfl rfl rfl (by rw [Hz2.out]; omega) (by unfold maxLen; omega) hx.size ?_)
    intro w2 ho hg
    have hx2 := hx.trans (Ext.of_grown hg)
    have ho2 := own_made ho
    have hls := hx.size
    generalize hg1 : w1.heap.size = g1 at *
    have HG := Lib.hid hg1
    clear ho hg hx HA hg1
    go_wp2
    go_loopw [17] (fun i wr => Hid (∃ k : Nat, k ≤ la.length ∧ i = .int .i64 k ∧ OwnI wr w.heap.size 3 (.slice (some ⟨g1, 0, none⟩) la.length la.length) (backMix la la.length k 0) ∧ Ext w wr)) (fun i _ => la.length - (intOf i).toNat)
    case atStart => exact Lib.hid ⟨0, Nat.zero_le _, rfl, by rw [backMix_zero]; exact ho2, hx2⟩
    case round =>
      obtain ⟨k, hk, rfl, ho, hxr⟩ := hrel.out
      clear hrel ho2 hx2
      by_cases hlt : k < la.length
      · obtain ⟨rfl, hb1⟩ := P1.out (by omega)
        have hcw := Q1.out k hlt
        rw [S1.out.eq k hlt] at hcw
        have hc := hxr.cell' hcw hb1
        have hn := S1.out.lt k hlt
        have hpc := pow2_cast k
        have hp1 : pow2 k ≤ 16 := pow2_le k 4 (by omega)
        go_wp2
        obtain ⟨wo, rfl⟩ : ∃ wo : World, wo = wr := ⟨_, rfl⟩
        clear hc
        go_loopw [23] (fun j wr => Hid (∃ t : Nat, t ≤ la.length ∧ j = .int .i64 t ∧ OwnI wr w.heap.size 3 (.slice (some ⟨g1, 0, none⟩) la.length la.length) (backMix la la.length k t) ∧ Ext w wr)) (fun j _ => la.length - (intOf j).toNat)
        case atStart => exact Lib.hid ⟨0, Nat.zero_le _, rfl, ho, hxr⟩
        case round =>
          obtain ⟨t, ht, rfl, ho1, hxr1⟩ := hrel.out
          clear hrel
          by_cases hlt2 : t < la.length
          · have eb := i64_bit_eq (natAt la k) t (by omega)
            cases hbit : (natAt la k).testBit t
            · rw [hbit] at eb
              go_wp2
              go_roundw
              case rel => exact Lib.hid ⟨t + 1, by omega, by go_num, by rw [backMix_skip la la.length k t hbit]; exact ho1, hxr1⟩
              case measure => simp [intOf]; omega
            · rw [hbit] at eb
              have hml := Lib.hid (backMix_length la la.length k t)
              have ho2 : OwnI wr w.heap.size 3 (.slice (some ⟨g1, 0, none⟩) (backMix la la.length k t).length la.length) (backMix la la.length k t) := by rw [hml.out]; exact ho1
              obtain ⟨g, cap', hv, hB, hgs, hcell, hfz⟩ := ho2.row (by rw [hml.out]; omega)
              obtain ⟨rfl, -⟩ : g1 = g ∧ la.length = cap' := by simpa using hv
              have hc2 := hcell t (by rw [hml.out]; omega)
              rw [backMix_get la la.length k t t hlt2, if_neg (Nat.lt_irrefl t)] at hc2
              have hf2 := hfz t
              have hbl : backSet la t k < 32 := Nat.lt_of_lt_of_le (backSet_lt la t k) (Nat.pow_le_pow_right (by decide) (show k ≤ 5 by omega))
              have eo := i64_orN (backSet la t k) (pow2 k) (by omega) (by omega)
              have hset := Lib.hid (own_len (ho2.set t ((orN (backSet la t k) (pow2 k) : Nat) : Int)) (backMix_set la la.length k t hbit) (backMix_length la la.length k _))
              clear hv hcell hfz ho1 ho2
              go_wp2
              go_region
              go_wp2
              go_roundw
              case rel => exact Lib.hid ⟨t + 1, by omega, by go_num, hset.out.ext (by (repeat (first | exact Ext.refl _ | assumption | refine Ext.alloc ?_ _ | refine Ext.drewN ?_ _ | refine Ext.drew ?_))), (hxr1.setCell hB _).drew⟩
              case measure => simp [intOf]; omega
          · obtain rfl : t = la.length := by omega
            go_wp2
            go_roundw
            case rel => exact Lib.hid ⟨k + 1, by omega, by go_num, by rw [← backMix_next]; exact ho1, hxr1⟩
            case measure => simp [intOf]; omega
      · obtain rfl : k = la.length := by omega
        rw [backMix_end] at ho
        go_wp2
        go_ret
        exact ⟨_, rfl, ho, hxr⟩

theorem backF_len (n : Int) (a : List Int) : (backF n a).length ≤ 5 := by
  unfold backF
  split
  · rename_i h; rw [backTo_length]; exact (rvB_sets h).2.2.2
  · simp
theorem starF_len (n : Int) (a : List Int) : (starF n a).length ≤ 5 := by
  unfold starF
  split
  · rename_i h; rw [starTo_length]; exact (rvB_sets h).2.2.2
  · simp
theorem plusF_len (n : Int) (a b : List Int) : (plusF n a b).length ≤ 5 := by
  unfold plusF
  split
  · rename_i h; rw [plusTo_length]; exact (rvB_sets (Bool.and_eq_true_iff.1 h).1).2.2.2
  · simp
theorem thenF_len (n : Int) (a b : List Int) : (thenF n a b).length ≤ 5 := by
  unfold thenF
  split
  · rename_i h; rw [thenTo_length]; exact (rvB_sets (Bool.and_eq_true_iff.1 h).1).2.2.2
  · simp
end Go.Proofs.YtlaamecfknkmlaaGreat
/- All contracts of models that are there so far, under one name. -/
/- Contracts: the reader that draws arguments from bytes. -/
namespace Go.Proofs.YtlaamecfknkmlaaGreat
set_option linter.unusedVariables false
open Go.RowKit Go.Kt

/-- The block g is a reader over bytes that lie in an older block; it has picked at most m times. -/
structure Rd (w : World) (g m : Nat) : Prop where
  pos : ∃ p : Nat, p ≤ m ∧ w.cell? ⟨g, 1, none⟩ = some (.int .i64 p)
  src : ∃ a cap l b off, w.cell? ⟨g, 0, none⟩ = some (.slice a l.length cap) ∧ l.length ≤ 2000 ∧ (0 < l.length → a = some ⟨b, off, none⟩ ∧ b < g) ∧
    ∀ i, i < l.length → w.cell? ⟨b, off + i, none⟩ = some (.int .u8 (nth l i)) ∧ 0 ≤ nth l i ∧ nth l i ≤ 255
  thaw : Thawed w g
theorem Rd.lt {w : World} {g m : Nat} (h : Rd w g m) : g < w.heap.size := h.thaw.1
theorem Rd.ext {w w' : World} {g m : Nat} (h : Rd w g m) (e : Ext w w') : Rd w' g m := by
  have hg := h.lt
  obtain ⟨p, hp, hc⟩ := h.pos
  obtain ⟨a, cap, l, b, off, h1, h2, h3, h4⟩ := h.src
  exact ⟨⟨p, hp, e.cell' hc hg⟩, ⟨a, cap, l, b, off, e.cell' h1 hg, h2, h3, fun i hi => ⟨e.cell' (h4 i hi).1 (by have := (h3 (by omega)).2; omega), (h4 i hi).2⟩⟩, h.thaw.ext e⟩
theorem Rd.mono {w : World} {g m m' : Nat} (h : Rd w g m) (hm : m ≤ m') : Rd w g m' := by
  obtain ⟨p, hp, hc⟩ := h.pos
  exact ⟨⟨p, by omega, hc⟩, h.src, h.thaw⟩
/-- Blocks behind the reader, or older ones than its bytes, may turn. -/
theorem Rd.untouched {w w' : World} {g m B T : Nat} (h : Rd w g m) (t : Touched w w' B T) (hg : g < B) : Rd w' g m := by
  have hl := h.lt
  have cc : ∀ b o v, b ≤ g → w.cell? ⟨b, o, none⟩ = some v → w'.cell? ⟨b, o, none⟩ = some v := fun b o v hb hv =>
    (World.cell?_of_block (a := ⟨b, o, none⟩) (t.block b (by omega) (.inl (by omega)))).trans hv
  obtain ⟨p, hp, hc⟩ := h.pos
  obtain ⟨a, cap, l, b, off, h1, h2, h3, h4⟩ := h.src
  exact ⟨⟨p, hp, cc _ _ _ (Nat.le_refl _) hc⟩, ⟨a, cap, l, b, off, cc _ _ _ (Nat.le_refl _) h1, h2, h3, fun i hi => ⟨cc _ _ _ (by have := (h3 (by omega)).2; omega) (h4 i hi).1, (h4 i hi).2⟩⟩, h.thaw.untouched t (.inl hg)⟩
/-- The count is set. -/
theorem Rd.set {w : World} {g m : Nat} (h : Rd w g m) (p m' : Nat) (hp : p ≤ m') : Rd (w.setCell ⟨g, 1, none⟩ (.int .i64 p)) g m' := by
  obtain ⟨p0, hp0, hc⟩ := h.pos
  obtain ⟨a, cap, l, b, off, h1, h2, h3, h4⟩ := h.src
  refine ⟨⟨p, hp, by simp [go_sem, hc]⟩, ⟨a, cap, l, b, off, by simp [go_sem, h1], h2, h3, fun i hi => ⟨?_, (h4 i hi).2⟩⟩, h.thaw.setCell _ _⟩
  have := (h3 (by omega)).2
  simp [go_sem, (h4 i hi).1]
/-- What a draw of a number comes to. -/
def Drew (w : World) (g m : Nat) (n : Int) (e : Ending) (w' : World) : Prop :=
  ∃ x : Nat, e = .returned (.int .i64 x) ∧ ((x : Int) < n ∨ (n < 1 ∧ x = 0)) ∧ Rd w' g (m + 1) ∧ Touched w w' g (g + 1)

set_option maxHeartbeats 1000000 in
theorem pick_c (g m : Nat) (n : Int) (w : World) (h : Rd w g m) (hm : m ≤ 1000000) :
    Calls Tryz.prog 54 #[.pointer (some ⟨g, 0, none⟩), .int .i64 n] w (Drew w g m n) := by
  have H := Lib.hid h
  obtain ⟨p, hp, hc⟩ := h.pos
  obtain ⟨a, cap, l, b, off, h1, h2, h3, h4⟩ := h.src
  have hg := h.lt
  have hf := h.thaw.2 1
  have H3 := Lib.hid h3
  have H4 := Lib.hid h4
  have HD : Hid (Rd (w.setCell ⟨g, 1, none⟩ (.int .i64 ((p + 1 : Nat) : Int))) g (m + 1) ∧ Touched w (w.setCell ⟨g, 1, none⟩ (.int .i64 ((p + 1 : Nat) : Int))) g (g + 1)) := ⟨h.set _ _ (by omega), Touched.setCell _ _ _⟩
  have hcast : (((p + 1 : Nat)) : Int) = (p : Int) + 1 := by omega
  rw [hcast] at HD
  clear h h3 h4 hcast
  by_cases hn : n < 1
  · go_enter Tryz.func54, Tryz.ntmps54
    go_wp2
    go_ret
    exact ⟨0, rfl, .inr ⟨hn, rfl⟩, HD.out.1, HD.out.2⟩
  · by_cases hl : l.length = 0
    · go_enter Tryz.func54, Tryz.ntmps54
      go_wp2
      go_ret
      exact ⟨0, rfl, .inl (by omega), HD.out.1, HD.out.2⟩
    · obtain ⟨N, rfl⟩ := Int.eq_ofNat_of_zero_le (show 0 ≤ n by omega)
      have hN : 0 < N := by omega
      obtain ⟨rfl, hbg⟩ := H3.out (by omega)
      have hbne : ¬ b = g := by omega
      by_cases hk : p < l.length
      · obtain ⟨hcb, hb0, hb1⟩ := H4.out p hk
        obtain ⟨B, hB⟩ := Int.eq_ofNat_of_zero_le hb0
        rw [hB] at hcb hb1
        have hB1 : B ≤ 255 := by omega
        have ht : ((B : Int)).tmod (N : Int) = ((B % N : Nat) : Int) := rfl
        have hlt : B % N < N := Nat.mod_lt _ hN
        have hN0 : ((N : Int) == 0) = false := by simp; omega
        clear hB hb0 hb1
        go_enter Tryz.func54, Tryz.ntmps54
        go_wp2
        go_ret
        exact ⟨B % N, rfl, .inl (by omega), HD.out.1, HD.out.2⟩
      · have hL : 0 < l.length := by omega
        have hL0 : ((l.length : Int) == 0) = false := by rw [beq_eq_false_iff_ne]; omega
        have hN0 : ((N : Int) == 0) = false := by simp; omega
        have hi1 : p % l.length < l.length := Nat.mod_lt _ hL
        have hi2 : (p * 7 + 3) % l.length < l.length := Nat.mod_lt _ hL
        have hq : p / l.length ≤ p := Nat.div_le_self _ _
        have e1 : ((p : Int)).tmod (l.length : Int) = ((p % l.length : Nat) : Int) := rfl
        have e2 : ((p : Int) * 7 + 3).tmod (l.length : Int) = (((p * 7 + 3) % l.length : Nat) : Int) := rfl
        have e3 : ((p : Int)).tdiv (l.length : Int) = ((p / l.length : Nat) : Int) := rfl
        obtain ⟨hc1, hb10, hb11⟩ := H4.out _ hi1
        obtain ⟨hc2, hb20, hb21⟩ := H4.out _ hi2
        obtain ⟨X1, hX1⟩ := Int.eq_ofNat_of_zero_le hb10
        obtain ⟨X2, hX2⟩ := Int.eq_ofNat_of_zero_le hb20
        rw [hX1] at hc1 hb11
        rw [hX2] at hc2 hb21
        have hx1 : X1 ≤ 255 := by omega
        have hx2 : X2 ≤ 255 := by omega
        clear hX1 hX2 hb10 hb11 hb20 hb21
        generalize p % l.length = i1 at *
        generalize (p * 7 + 3) % l.length = i2 at *
        generalize p / l.length = q at *
        have f1 : IntKind.i64.wrap ((p : Int) * 7) = (p : Int) * 7 := IntWalk.i64_in _ (by omega)
        have f2 : IntKind.i64.wrap ((p : Int) * 7 + 3) = (p : Int) * 7 + 3 := IntWalk.i64_in _ (by omega)
        have f3 : IntKind.i64.wrap ((X1 : Int) * 131) = (X1 : Int) * 131 := IntWalk.i64_in _ (by omega)
        have f4 : IntKind.i64.wrap ((X2 : Int) * 1117) = (X2 : Int) * 1117 := IntWalk.i64_in _ (by omega)
        have f5 : IntKind.i64.wrap ((X1 : Int) * 131 + (X2 : Int) * 1117) = (X1 : Int) * 131 + (X2 : Int) * 1117 := IntWalk.i64_in _ (by omega)
        have f6 : IntKind.i64.wrap ((p : Int) * 29) = (p : Int) * 29 := IntWalk.i64_in _ (by omega)
        have f7 : IntKind.i64.wrap ((X1 : Int) * 131 + (X2 : Int) * 1117 + (p : Int) * 29) = (X1 : Int) * 131 + (X2 : Int) * 1117 + (p : Int) * 29 := IntWalk.i64_in _ (by omega)
        have f8 : IntKind.i64.wrap ((q : Int) * 53) = (q : Int) * 53 := IntWalk.i64_in _ (by omega)
        obtain ⟨T, hT⟩ : ∃ T : Nat, T = X1 * 131 + X2 * 1117 + p * 29 + q * 53 := ⟨_, rfl⟩
        have f9 : IntKind.i64.wrap ((X1 : Int) * 131 + (X2 : Int) * 1117 + (p : Int) * 29 + (q : Int) * 53) = (T : Int) := by
          rw [IntWalk.i64_in _ (by omega)]; omega
        have hTb : T < 4294967296 := by omega
        have f10 : ((T : Int)).tdiv 64 = ((T / 64 : Nat) : Int) := rfl
        have hTd : T / 64 < 4294967296 := by omega
        have hY : T ^^^ (T / 64) < 4294967296 := Nat.xor_lt_two_pow (n := 32) hTb hTd
        have f11 := i64_xor T (T / 64) (by omega) (by omega)
        generalize T / 64 = T64 at *
        generalize T ^^^ T64 = Y at *
        have f12 : ((Y : Int)).tmod (N : Int) = ((Y % N : Nat) : Int) := rfl
        have hlt : Y % N < N := Nat.mod_lt _ hN
        clear hT
        go_enter Tryz.func54, Tryz.ntmps54
        go_wp2
        go_quiet (fail)
        go_wp2
        go_ret
        exact ⟨Y % N, rfl, .inl (by omega), HD.out.1.ext (by (repeat (first | exact Ext.refl _ | assumption | refine Ext.alloc ?_ _ | refine Ext.drewN ?_ _ | refine Ext.drew ?_))), HD.out.2.trans (Touched.of_ext (by (repeat (first | exact Ext.refl _ | assumption | refine Ext.alloc ?_ _ | refine Ext.drewN ?_ _ | refine Ext.drew ?_))))⟩

/-- What a draw of a truth comes to. -/
def DrewB (w : World) (g m : Nat) (e : Ending) (w' : World) : Prop := ∃ b : Bool, e = .returned (.bool b) ∧ Rd w' g (m + 1) ∧ Touched w w' g (g + 1)
theorem odd_c (g m : Nat) (n : Int) (w : World) (h : Rd w g m) (hm : m ≤ 1000000) :
    Calls Tryz.prog 146 #[.pointer (some ⟨g, 0, none⟩), .int .i64 n] w (DrewB w g m) := by
  by_cases hn : 0 < n
  · go_enter Tryz.func146, Tryz.ntmps146
    go_wp2_with fail
    refine (pick_c g m n w h hm).mono ?_
    rintro e w1 ⟨x, rfl, hx, hr, ht⟩
    by_cases hx2 : (x : Int) = n - 1
    all_goals
      go_wp2
      go_ret
      exact ⟨_, rfl, hr, ht⟩
  · go_enter Tryz.func146, Tryz.ntmps146
    go_wp2
    go_ret
    exact ⟨_, rfl, h.mono (by omega), Touched.refl _ _ _⟩

/-- What opening a reader comes to. -/
def Opened (w : World) (e : Ending) (w' : World) : Prop := ∃ g, e = .returned (.pointer (some ⟨g, 0, none⟩)) ∧ w.heap.size ≤ g ∧ Rd w' g 0 ∧ Ext w w'
theorem l20Open_c (a : Option Addr) (cap : Nat) (l : List Int) (w : World) (h : BytesAt w a l) (hlen : l.length ≤ 1048576) (hcap : l.length ≤ cap) :
    Calls Tryz.prog 51 #[.slice a l.length cap] w (Opened w) := by
  obtain ⟨b, off, h1, h2⟩ := h
  have H1 := Lib.hid h1
  have H2 := Lib.hid h2
  clear h1 h2
  by_cases hl : 2000 < l.length
  · obtain ⟨rfl, hb⟩ := H1.out (by omega)
    go_enter Tryz.func51, Tryz.ntmps51
    go_wp2
    go_ret
    refine ⟨w.heap.size, rfl, Nat.le_refl _, ?_, by (repeat (first | exact Ext.refl _ | assumption | refine Ext.alloc ?_ _ | refine Ext.drewN ?_ _ | refine Ext.drew ?_))⟩
    refine ⟨⟨0, Nat.le_refl _, by simp [go_sem]⟩, ⟨some ⟨b, off, none⟩, cap, l.take 2000, b, off, ?_, ?_, fun _ => ⟨rfl, hb⟩, fun i hi => ?_⟩, ⟨by simp, fun o => by simp [go_sem]⟩⟩
    · simp [go_sem]; omega
    · simp; omega
    · have hi2 : i < l.length := by simp at hi; omega
      have e1 : nth (l.take 2000) i = nth l i := by
        rw [nth_getElem _ _ hi, nth_getElem _ _ hi2]; simp
      rw [e1]
      exact ⟨Ext.cell' ((Ext.refl w).alloc _) (H2.out i hi2).1 hb, (H2.out i hi2).2⟩
  · go_enter Tryz.func51, Tryz.ntmps51
    go_wp2
    go_ret
    refine ⟨w.heap.size, rfl, Nat.le_refl _, ?_, by (repeat (first | exact Ext.refl _ | assumption | refine Ext.alloc ?_ _ | refine Ext.drewN ?_ _ | refine Ext.drew ?_))⟩
    refine ⟨⟨0, Nat.le_refl _, by simp [go_sem]⟩, ⟨a, cap, l, b, off, by simp [go_sem], by omega, fun h0 => H1.out h0, fun i hi => ?_⟩, ⟨by simp, fun o => by simp [go_sem]⟩⟩
    exact ⟨Ext.cell' ((Ext.refl w).alloc _) (H2.out i hi).1 (H1.out (by omega)).2, (H2.out i hi).2⟩
end Go.Proofs.YtlaamecfknkmlaaGreat
/- Contracts: what draws leave alone; tests drawn. -/
namespace Go.Proofs.YtlaamecfknkmlaaGreat
set_option linter.unusedVariables false
open Go.RowKit Go.Kt

theorem cell_new2 (w : World) (x y u : Value) (t : TypeId) (z : Nat) (h : (#[x, y] : Array Value)[z]? = some u) : (w.alloc (.cells #[x, y] t)).cell? ⟨w.heap.size, z, none⟩ = some u := by
  match z, h with
  | 0, h => simp at h; subst h; simp [go_sem]
  | 1, h => simp at h; subst h; simp [go_sem]
  | z + 2, h => simp at h
theorem OwnI.drawn {w w' : World} {B E g : Nat} {v : Value} {l : List Int} (h : OwnI w B E v l) (t : Touched w w' g (g + 1)) (hg : g < B) : OwnI w' B E v l :=
  h.untouched t (fun g' hg' => .inr (by have := (World.ownsRow.lt h g' hg').1; omega))
theorem Touched.row {w wX w' : World} {B T : Nat} {row : Option Nat} (t : Touched w wX B T) (hg : wX.grownBy w' row) (hr : ∀ k, row = some k → w.heap.size ≤ k) : Touched w w' B T :=
  ⟨hg.os.trans t.os, hg.tape.trans t.tape, hg.output.trans t.output, Nat.le_trans t.size hg.size, fun k hk ho => (hg.block k (Nat.lt_of_lt_of_le hk t.size) (fun e => by have := hr k e.symm; omega)).trans (t.block k hk ho)⟩
theorem Rd.row {wX w' : World} {g m : Nat} {row : Option Nat} (h : Rd wX g m) (hg : wX.grownBy w' row) (hr : ∀ k, row = some k → g < k) : Rd w' g m := by
  refine h.untouched (B := g + 1) (T := wX.heap.size + w'.heap.size) ⟨hg.os, hg.tape, hg.output, hg.size, fun k hk ho => hg.block k hk (fun e => ?_)⟩ (by omega)
  have := hr k e.symm
  omega
theorem cell_lit (w : World) (xs : Array Value) (t : TypeId) (z : Nat) : (w.alloc (.cells xs t)).cell? ⟨w.heap.size, z, none⟩ = xs[z]? := by simp [go_sem]
theorem lit2 (a0 a1 : Int) (z : Nat) (hz : z < 2) : ∃ u : Int, (#[Value.int .i64 a0, Value.int .i64 a1] : Array Value)[z]? = some (.int .i64 u) := by
  rcases (show z = 0 ∨ z = 1 by omega) with rfl | rfl <;> exact ⟨_, rfl⟩
theorem lit8 (a0 a1 a2 a3 a4 a5 a6 a7 : Int) (z : Nat) (hz : z < 8) :
    ∃ u : Int, (#[Value.int .i64 a0, Value.int .i64 a1, Value.int .i64 a2, Value.int .i64 a3, Value.int .i64 a4, Value.int .i64 a5, Value.int .i64 a6, Value.int .i64 a7] : Array Value)[z]? = some (.int .i64 u) := by
  rcases (show z = 0 ∨ z = 1 ∨ z = 2 ∨ z = 3 ∨ z = 4 ∨ z = 5 ∨ z = 6 ∨ z = 7 by omega) with rfl | rfl | rfl | rfl | rfl | rfl | rfl | rfl <;> exact ⟨_, rfl⟩
/-- What drawing a test comes to. -/
def DrewT (w : World) (g m : Nat) (e : Ending) (w' : World) : Prop := ∃ t : Int, e = .returned (.int .i64 t) ∧ Rd w' g (m + 10) ∧ Touched w w' g (g + 1)
set_option maxHeartbeats 1000000 in
theorem l20Test_c (g m : Nat) (n : Int) (w : World) (h : Rd w g m) (hm : m ≤ 100000) :
    Calls Tryz.prog 88 #[.pointer (some ⟨g, 0, none⟩), .int .i64 n] w (DrewT w g m) := by
  have hg := h.lt
  have HH := Lib.hid h
  clear h
  go_enter Tryz.func88, Tryz.ntmps88
  go_wp2_with fail
  refine (odd_c g m n _ HH.out (by omega)).mono ?_
  rintro e w1 ⟨b, rfl, hr1, ht1⟩
  have hz1 := ht1.size
  cases b
  · go_wp2_with fail
    refine (pick_c g _ 16 _ (hr1.ext (by (repeat (first | exact Ext.refl _ | assumption | refine Ext.alloc ?_ _ | refine Ext.drewN ?_ _ | refine Ext.drew ?_)))) (by omega)).mono ?_
    rintro e w2 ⟨x, rfl, hx, hr2, ht2⟩
    have hz2 := ht2.size
    replace ht2 := ht1.trans (Touched.trans (Touched.of_ext (by (repeat (first | exact Ext.refl _ | assumption | refine Ext.alloc ?_ _ | refine Ext.drewN ?_ _ | refine Ext.drew ?_)))) ht2)
    clear ht1 hr1
    go_wp2_with fail
    refine (pick_c g _ 16 _ (hr2.ext (by (repeat (first | exact Ext.refl _ | assumption | refine Ext.alloc ?_ _ | refine Ext.drewN ?_ _ | refine Ext.drew ?_)))) (by omega)).mono ?_
    rintro e w3 ⟨y, rfl, hy, hr3, ht3⟩
    have hz3 := ht3.size
    replace ht3 := ht2.trans (Touched.trans (Touched.of_ext (by (repeat (first | exact Ext.refl _ | assumption | refine Ext.alloc ?_ _ | refine Ext.drewN ?_ _ | refine Ext.drew ?_)))) ht3)
    clear ht2 hr2
    go_wp2_with fail
    refine (pick_c g _ 8 _ (hr3.ext (by (repeat (first | exact Ext.refl _ | assumption | refine Ext.alloc ?_ _ | refine Ext.drewN ?_ _ | refine Ext.drew ?_)))) (by omega)).mono ?_
    rintro e w4 ⟨z, rfl, hz, hr4, ht4⟩
    have hz8 : (z : Int) < 8 := by omega
    obtain ⟨u, hu⟩ := lit8 10 12 5 3 x y 15 0 z (by omega)
    have hcz := (World.cell?_of_block (a := ⟨w3.heap.size, z, none⟩) (ht4.block w3.heap.size (by simp) (.inr (by omega)))).trans ((cell_lit w3 _ 3 z).trans hu)
    have ht5 := Lib.hid (ht3.trans (Touched.trans (Touched.of_ext (by (repeat (first | exact Ext.refl _ | assumption | refine Ext.alloc ?_ _ | refine Ext.drewN ?_ _ | refine Ext.drew ?_)))) ht4))
    have HR4 := Lib.hid hr4
    clear ht3 ht4 hu hr4 hr3
    go_wp2
    go_ret
    exact ⟨u, rfl, (HR4.out.ext (by (repeat (first | exact Ext.refl _ | assumption | refine Ext.alloc ?_ _ | refine Ext.drewN ?_ _ | refine Ext.drew ?_)))).mono (by omega), ht5.out.trans (Touched.of_ext (by (repeat (first | exact Ext.refl _ | assumption | refine Ext.alloc ?_ _ | refine Ext.drewN ?_ _ | refine Ext.drew ?_))))⟩
  · go_wp2_with fail
    refine (pick_c g _ 2 _ (hr1.ext (by (repeat (first | exact Ext.refl _ | assumption | refine Ext.alloc ?_ _ | refine Ext.drewN ?_ _ | refine Ext.drew ?_)))) (by omega)).mono ?_
    rintro e w4 ⟨z, rfl, hz, hr4, ht4⟩
    have hz8 : (z : Int) < 2 := by omega
    obtain ⟨u, hu⟩ := lit2 (-1) 16 z (by omega)
    have hcz := (World.cell?_of_block (a := ⟨w1.heap.size, z, none⟩) (ht4.block w1.heap.size (by simp) (.inr (by omega)))).trans ((cell_lit w1 _ 3 z).trans hu)
    have ht5 := Lib.hid (ht1.trans (Touched.trans (Touched.of_ext (by (repeat (first | exact Ext.refl _ | assumption | refine Ext.alloc ?_ _ | refine Ext.drewN ?_ _ | refine Ext.drew ?_)))) ht4))
    have HR4 := Lib.hid hr4
    clear ht1 ht4 hu hr4 hr1
    go_wp2
    go_ret
    exact ⟨u, rfl, (HR4.out.ext (by (repeat (first | exact Ext.refl _ | assumption | refine Ext.alloc ?_ _ | refine Ext.drewN ?_ _ | refine Ext.drew ?_)))).mono (by omega), ht5.out.trans (Touched.of_ext (by (repeat (first | exact Ext.refl _ | assumption | refine Ext.alloc ?_ _ | refine Ext.drewN ?_ _ | refine Ext.drew ?_))))⟩
end Go.Proofs.YtlaamecfknkmlaaGreat
/- Contracts: what is drawn piece by piece: the numbers so far, and the reader. -/
namespace Go.Proofs.YtlaamecfknkmlaaGreat
set_option linter.unusedVariables false
open Go.RowKit Go.Kt

theorem oddN_c (g m : Nat) (n : Int) (w : World) (h : Rd w g m) (hm : m ≤ 1000000) :
    Calls Tryz.prog 146 #[.pointer (some ⟨g, 0, none⟩), .int .i64 n] w fun e w' => (n = 0 → e = .returned (.bool false)) ∧ DrewB w g m e w' := by
  by_cases hn : 0 < n
  · exact (odd_c g m n w h hm).mono fun e w' hh => ⟨fun h0 => by omega, hh⟩
  · go_enter Tryz.func146, Tryz.ntmps146
    go_wp2
    go_ret
    exact ⟨fun _ => rfl, _, rfl, h.mono (by omega), Touched.refl _ _ _⟩
theorem lit8r (a0 a1 a2 a3 a4 a5 a6 a7 : Int) (z : Nat) (hz : z < 8) (h : (0 ≤ a0 ∧ a0 ≤ 15) ∧ (0 ≤ a1 ∧ a1 ≤ 15) ∧ (0 ≤ a2 ∧ a2 ≤ 15) ∧ (0 ≤ a3 ∧ a3 ≤ 15) ∧ (0 ≤ a4 ∧ a4 ≤ 15) ∧ (0 ≤ a5 ∧ a5 ≤ 15) ∧ (0 ≤ a6 ∧ a6 ≤ 15) ∧ (0 ≤ a7 ∧ a7 ≤ 15)) :
    ∃ u : Int, (#[Value.int .i64 a0, Value.int .i64 a1, Value.int .i64 a2, Value.int .i64 a3, Value.int .i64 a4, Value.int .i64 a5, Value.int .i64 a6, Value.int .i64 a7] : Array Value)[z]? = some (.int .i64 u) ∧ 0 ≤ u ∧ u ≤ 15 := by
  obtain ⟨h0, h1, h2, h3, h4, h5, h6, h7⟩ := h
  rcases (show z = 0 ∨ z = 1 ∨ z = 2 ∨ z = 3 ∨ z = 4 ∨ z = 5 ∨ z = 6 ∨ z = 7 by omega) with rfl | rfl | rfl | rfl | rfl | rfl | rfl | rfl
  · exact ⟨_, rfl, h0⟩
  · exact ⟨_, rfl, h1⟩
  · exact ⟨_, rfl, h2⟩
  · exact ⟨_, rfl, h3⟩
  · exact ⟨_, rfl, h4⟩
  · exact ⟨_, rfl, h5⟩
  · exact ⟨_, rfl, h6⟩
  · exact ⟨_, rfl, h7⟩
/-- A valid test drawn. -/
def DrewT0 (w : World) (g m : Nat) (e : Ending) (w' : World) : Prop := ∃ t : Int, e = .returned (.int .i64 t) ∧ (0 ≤ t ∧ t ≤ 15) ∧ Rd w' g (m + 10) ∧ Touched w w' g (g + 1)
set_option maxHeartbeats 1000000 in
theorem l20Test0_c (g m : Nat) (w : World) (h : Rd w g m) (hm : m ≤ 100000) :
    Calls Tryz.prog 88 #[.pointer (some ⟨g, 0, none⟩), .int .i64 0] w (DrewT0 w g m) := by
  have hg := h.lt
  have HH := Lib.hid h
  clear h
  go_enter Tryz.func88, Tryz.ntmps88
  go_wp2_with fail
  refine (oddN_c g m 0 _ HH.out (by omega)).mono ?_
  rintro e w1 ⟨hf, b, -, hr1, ht1⟩
  obtain rfl := hf rfl
  have hz1 := ht1.size
  clear hf
  go_wp2_with fail
  refine (pick_c g _ 16 _ (hr1.ext (by (repeat (first | exact Ext.refl _ | assumption | refine Ext.alloc ?_ _ | refine Ext.drewN ?_ _ | refine Ext.drew ?_)))) (by omega)).mono ?_
  rintro e w2 ⟨x, rfl, hx, hr2, ht2⟩
  have hz2 := ht2.size
  replace ht2 := ht1.trans (Touched.trans (Touched.of_ext (by (repeat (first | exact Ext.refl _ | assumption | refine Ext.alloc ?_ _ | refine Ext.drewN ?_ _ | refine Ext.drew ?_)))) ht2)
  clear ht1 hr1
  go_wp2_with fail
  refine (pick_c g _ 16 _ (hr2.ext (by (repeat (first | exact Ext.refl _ | assumption | refine Ext.alloc ?_ _ | refine Ext.drewN ?_ _ | refine Ext.drew ?_)))) (by omega)).mono ?_
  rintro e w3 ⟨y, rfl, hy, hr3, ht3⟩
  have hz3 := ht3.size
  replace ht3 := ht2.trans (Touched.trans (Touched.of_ext (by (repeat (first | exact Ext.refl _ | assumption | refine Ext.alloc ?_ _ | refine Ext.drewN ?_ _ | refine Ext.drew ?_)))) ht3)
  clear ht2 hr2
  go_wp2_with fail
  refine (pick_c g _ 8 _ (hr3.ext (by (repeat (first | exact Ext.refl _ | assumption | refine Ext.alloc ?_ _ | refine Ext.drewN ?_ _ | refine Ext.drew ?_)))) (by omega)).mono ?_
  rintro e w4 ⟨z, rfl, hz, hr4, ht4⟩
  have hz8 : (z : Int) < 8 := by omega
  obtain ⟨u, hu, hur⟩ := lit8r 10 12 5 3 x y 15 0 z (by omega) (by omega)
  have hcz := (World.cell?_of_block (a := ⟨w3.heap.size, z, none⟩) (ht4.block w3.heap.size (by simp) (.inr (by omega)))).trans ((cell_lit w3 _ 3 z).trans hu)
  have ht5 := Lib.hid (ht3.trans (Touched.trans (Touched.of_ext (by (repeat (first | exact Ext.refl _ | assumption | refine Ext.alloc ?_ _ | refine Ext.drewN ?_ _ | refine Ext.drew ?_)))) ht4))
  have HR4 := Lib.hid hr4
  clear ht3 ht4 hu hr4 hr3
  go_wp2
  go_ret
  exact ⟨u, rfl, hur, (HR4.out.ext (by (repeat (first | exact Ext.refl _ | assumption | refine Ext.alloc ?_ _ | refine Ext.drewN ?_ _ | refine Ext.drew ?_)))).mono (by omega), ht5.out.trans (Touched.of_ext (by (repeat (first | exact Ext.refl _ | assumption | refine Ext.alloc ?_ _ | refine Ext.drewN ?_ _ | refine Ext.drew ?_))))⟩
/-- While a program is drawn: the words so far, and the reader. -/
structure WordSt (w wr : World) (g m : Nat) (v : Value) (L : List Int) : Prop where
  hg : g < w.heap.size
  own : OwnI wr w.heap.size 3 v L
  rd : Rd wr g m
  tch : Touched w wr g (g + 1)
theorem WordSt.ext {w wr w' : World} {g m : Nat} {v : Value} {L : List Int} (h : WordSt w wr g m v L) (e : Ext wr w') : WordSt w w' g m v L := ⟨h.hg, h.own.ext e, h.rd.ext e, h.tch.trans (Touched.of_ext e)⟩
theorem WordSt.mono {w wr : World} {g m m' : Nat} {v : Value} {L : List Int} (h : WordSt w wr g m v L) (e : m ≤ m') : WordSt w wr g m' v L := ⟨h.hg, h.own, h.rd.mono e, h.tch⟩
/-- A call that draws. -/
theorem WordSt.drawn {w wr wx w' : World} {g m m' : Nat} {v : Value} {L : List Int} (h : WordSt w wr g m v L) (e : Ext wr wx) (t : Touched wx w' g (g + 1)) (r : Rd w' g m') : WordSt w w' g m' v L :=
  ⟨h.hg, OwnI.drawn (h.own.ext e) t h.hg, r, h.tch.trans (Touched.trans (Touched.of_ext e) t)⟩
/-- An append to a slice of the call's own. -/
theorem WordSt.more {w wr wx w' : World} {g m : Nat} {v v' vr : Value} {L M N : List Int} (h : WordSt w wr g m v L) (e : Ext wr wx) (ho : OwnI wx w.heap.size 3 vr N) (o : OwnI w' w.heap.size 3 v' M) (hgr : wx.grownBy w' vr.ownBlock) : WordSt w w' g m v' M := by
  have hb := fun k hk' => (World.ownsRow.lt ho k hk').1
  exact ⟨h.hg, o, Rd.row (h.rd.ext e) hgr (fun k hk' => by have := hb k hk'; have := h.hg; omega), Touched.row (h.tch.trans (Touched.of_ext e)) hgr hb⟩
/-- Another slice of the call's own. -/
theorem WordSt.other {w wr wx : World} {g m : Nat} {v v' : Value} {L M : List Int} (h : WordSt w wr g m v L) (e : Ext wr wx) (o : OwnI wx w.heap.size 3 v' M) : WordSt w wx g m v' M :=
  ⟨h.hg, o, h.rd.ext e, h.tch.trans (Touched.of_ext e)⟩
theorem WordSt.shape {w wr : World} {g m : Nat} {v : Value} {L : List Int} (h : WordSt w wr g m v L) : ∃ a c, v = .slice a L.length c := by
  obtain ⟨a, c, h, _⟩ := h.own.shape
  exact ⟨a, c, h⟩
theorem OwnI.lit2 (w : World) (B E : Nat) (x y : Int) (hB : B ≤ w.heap.size) : OwnI (w.alloc (.cells #[.int .i64 x, .int .i64 y] E)) B E (.slice (some ⟨w.heap.size, 0, none⟩) 2 2) [x, y] :=
  World.ownsRow_lit (base := B) (e := E) (size := 1) w #[.int .i64 x, .int .i64 y] 2 hB (by unfold maxLen; omega) rfl
theorem lit4 (a0 a1 a2 a3 : Int) (z : Nat) (hz : z < 4) : ∃ u : Int, (#[Value.int .i64 a0, Value.int .i64 a1, Value.int .i64 a2, Value.int .i64 a3] : Array Value)[z]? = some (.int .i64 u) := by
  rcases (show z = 0 ∨ z = 1 ∨ z = 2 ∨ z = 3 by omega) with rfl | rfl | rfl | rfl <;> exact ⟨_, rfl⟩
theorem namedI (l : List Int) : ∃ L : List Int, Hid (L = l) ∧ L.length = l.length := ⟨l, rfl, rfl⟩
/-- What drawing a list of numbers comes to. -/
def DrewL (w : World) (g m n : Nat) (e : Ending) (w' : World) : Prop := ∃ v L, e = .returned v ∧ OwnI w' w.heap.size 3 v L ∧ L.length ≤ n ∧ Rd w' g m ∧ Touched w w' g (g + 1)
theorem WordSt.drewL {w wr : World} {g m m' n : Nat} {v : Value} {L : List Int} (h : WordSt w wr g m v L) (hL : L.length ≤ n) (hm : m ≤ m') : DrewL w g m' n (.returned v) wr := ⟨v, L, rfl, h.own, hL, h.rd.mono hm, h.tch⟩
end Go.Proofs.YtlaamecfknkmlaaGreat
/- Contracts: rows drawn. (under way: does not build whole yet) -/
namespace Go.Proofs.YtlaamecfknkmlaaGreat
set_option linter.unusedVariables false
open Go.RowKit Go.Kt

/-- What drawing rows comes to. -/
def DrewRows (w : World) (g m s : Nat) (e : Ending) (w' : World) : Prop :=
  ∃ v L, e = .returned v ∧ OwnI w' w.heap.size 3 v L ∧ s ≤ L.length ∧ L.length ≤ s + 1 ∧ Rd w' g (m + 100) ∧ Touched w w' g (g + 1)
theorem DrewRows.stored {w w3 w' : World} {g m s m' gv cv : Nat} {L : List Int} {u : Int} (ho3 : OwnI w3 w.heap.size 3 (.slice (some ⟨gv, 0, none⟩) L.length cv) L) (hL : L.length = s) (hrd : Rd w3 g m') (hm : m' ≤ m + 100)
    (ht : Touched w w3 g (g + 1)) (hg : g < w.heap.size) (hgv : w.heap.size ≤ gv) (hx : Ext (w3.setCell ⟨gv, 0, none⟩ (.int .i64 u)) w') : DrewRows w g m s (.returned (.slice (some ⟨gv, 0, none⟩) s cv)) w' := by
  subst hL
  have hgr : w3.grownBy (w3.setCell ⟨gv, 0, none⟩ (.int .i64 u)) (some gv) := grown_setCell ((Ext.refl w3).grown (some gv)) rfl
  have h1 : OwnI w' w.heap.size 3 (.slice (some ⟨gv, 0, none⟩) L.length cv) (L.set 0 u) := by
    have := OwnI.ext (OwnI.set ho3 0 u) hx
    rw [List.length_set] at this
    exact this
  refine ⟨_, L.set 0 u, rfl, h1, by simp, by simp, ((Rd.row hrd hgr ?_).mono hm).ext hx, (Touched.row ht hgr ?_).trans (Touched.of_ext hx)⟩
  · intro k hk
    obtain rfl := Option.some.inj hk
    omega
  · intro k hk
    obtain rfl := Option.some.inj hk
    exact hgv
set_option maxHeartbeats 1000000 in
theorem l20Rows_c (g m s : Nat) (n : Int) (w : World) (h : Rd w g m) (hm : m ≤ 100000) (hs : s ≤ 6) (hs0 : 1 ≤ s) :
    Calls Tryz.prog 150 #[.pointer (some ⟨g, 0, none⟩), .int .i64 s, .int .i64 n] w (DrewRows w g m s) := by
  have hg := h.lt
  have HH := Lib.hid h
  clear h
  go_enter Tryz.func150, Tryz.ntmps150
  go_wp2
  go_loopw [7, 8] (fun v i wr => Hid (∃ (k : Nat) (L : List Int), k ≤ s ∧ i = .int .i64 k ∧ L.length = k ∧ OwnI wr w.heap.size 3 v L ∧ Rd wr g (m + 2 * k) ∧ Touched w wr g (g + 1))) (fun _ i _ => s - (intOf i).toNat)
  case atStart => exact Lib.hid ⟨0, [], Nat.zero_le _, rfl, rfl, OwnI.empty _ _, HH.out.ext (by (repeat (first | exact Ext.refl _ | assumption | refine Ext.alloc ?_ _ | refine Ext.drewN ?_ _ | refine Ext.drew ?_))), Touched.of_ext (by (repeat (first | exact Ext.refl _ | assumption | refine Ext.alloc ?_ _ | refine Ext.drewN ?_ _ | refine Ext.drew ?_)))⟩
  case round =>
    obtain ⟨k, L, hk, rfl, hL, ho, hrd, ht⟩ := hrel.out
    clear hrel
    by_cases hlt : k < s
    · go_wp2_with fail
      refine (pick_c g _ 3 _ hrd (by omega)).mono ?_
      rintro e w1 ⟨x, rfl, hx, hrd1, ht1⟩
      replace ho := OwnI.drawn (ho.ext (by (repeat (first | exact Ext.refl _ | assumption | refine Ext.alloc ?_ _ | refine Ext.drewN ?_ _ | refine Ext.drew ?_)))) ht1 hg
      have ht2 := ht.trans (Touched.trans (Touched.of_ext (by (repeat (first | exact Ext.refl _ | assumption | refine Ext.alloc ?_ _ | refine Ext.drewN ?_ _ | refine Ext.drew ?_)))) ht1)
      have hpc := pow2_cast s
      have hps : pow2 s ≤ 64 := pow2_le s 6 hs
      clear hrd ht1
      by_cases hx0 : x = 0
      · subst hx0
        go_wp2_with fail
        refine (pick_c g _ _ _ hrd1 (by omega)).mono ?_
        rintro e w2 ⟨y, rfl, hy, hrd2, ht3⟩
        replace ho := OwnI.drawn (ho.ext (by (repeat (first | exact Ext.refl _ | assumption | refine Ext.alloc ?_ _ | refine Ext.drewN ?_ _ | refine Ext.drew ?_)))) ht3 hg
        have ht4 := ht2.trans (Touched.trans (Touched.of_ext (by (repeat (first | exact Ext.refl _ | assumption | refine Ext.alloc ?_ _ | refine Ext.drewN ?_ _ | refine Ext.drew ?_)))) ht3)
        have hz4 := ht4.size
        clear hrd1 ht2 ht ht3
        go_wp2_with (at_builtin; refine append_int rfl _ _ _ rfl w.heap.size 3 Tryz.underlying23 infoInt _ (L) rfl ?ho _ (((y : Nat) : Int)) rfl ?hc ?c1 ?c2 ?_)
        case ho => exact ho.ext (by (repeat (first | exact Ext.refl _ | assumption | refine Ext.alloc ?_ _ | refine Ext.drewN ?_ _ | refine Ext.drew ?_)))
        try (case hc => first | exact cell_new0 _ _ _ | simp)
        case c1 => omega
        case c2 => simp; omega
        intro v' w' ho' hg'
        go_wp2
        go_roundw
        case rel =>
          have hb := fun k hk' => (World.ownsRow.lt ho k hk').1
          exact Lib.hid ⟨k + 1, L ++ [((y : Nat) : Int)], by omega, by go_num, by simp; omega, ho', Rd.row ((hrd2.ext (by (repeat (first | exact Ext.refl _ | assumption | refine Ext.alloc ?_ _ | refine Ext.drewN ?_ _ | refine Ext.drew ?_)))).mono (by omega)) hg' (fun k hk' => by have := hb k hk'; omega), Touched.row (ht4.trans (Touched.of_ext (by (repeat (first | exact Ext.refl _ | assumption | refine Ext.alloc ?_ _ | refine Ext.drewN ?_ _ | refine Ext.drew ?_))))) hg' hb⟩
        case measure => simp [intOf]; omega
      · go_wp2_with fail
        refine (pick_c g _ _ _ hrd1 (by omega)).mono ?_
        rintro e w2 ⟨y, rfl, hy, hrd2, ht3⟩
        replace ho := OwnI.drawn (ho.ext (by (repeat (first | exact Ext.refl _ | assumption | refine Ext.alloc ?_ _ | refine Ext.drewN ?_ _ | refine Ext.drew ?_)))) ht3 hg
        have ht4 := ht2.trans (Touched.trans (Touched.of_ext (by (repeat (first | exact Ext.refl _ | assumption | refine Ext.alloc ?_ _ | refine Ext.drewN ?_ _ | refine Ext.drew ?_)))) ht3)
        have hz4 := ht4.size
        have hpy := pow2_cast y
        have hyl : y ≤ 6 := by omega
        have hp1 : pow2 y ≤ 64 := pow2_le y 6 hyl
        clear hrd1 ht2 ht ht3
        go_wp2_with (at_builtin; refine append_int rfl _ _ _ rfl w.heap.size 3 Tryz.underlying23 infoInt _ (L) rfl ?ho _ (((pow2 y : Nat) : Int)) rfl ?hc ?c1 ?c2 ?_)
        case ho => exact ho.ext (by (repeat (first | exact Ext.refl _ | assumption | refine Ext.alloc ?_ _ | refine Ext.drewN ?_ _ | refine Ext.drew ?_)))
        try (case hc => first | exact cell_new0 _ _ _ | simp)
        case c1 => omega
        case c2 => simp; omega
        intro v' w' ho' hg'
        go_wp2
        go_roundw
        case rel =>
          have hb := fun k hk' => (World.ownsRow.lt ho k hk').1
          exact Lib.hid ⟨k + 1, L ++ [((pow2 y : Nat) : Int)], by omega, by go_num, by simp; omega, ho', Rd.row ((hrd2.ext (by (repeat (first | exact Ext.refl _ | assumption | refine Ext.alloc ?_ _ | refine Ext.drewN ?_ _ | refine Ext.drew ?_)))).mono (by omega)) hg' (fun k hk' => by have := hb k hk'; omega), Touched.row (ht4.trans (Touched.of_ext (by (repeat (first | exact Ext.refl _ | assumption | refine Ext.alloc ?_ _ | refine Ext.drewN ?_ _ | refine Ext.drew ?_))))) hg' hb⟩
        case measure => simp [intOf]; omega
    · obtain rfl : k = s := by omega
      go_wp2_with fail
      refine (odd_c g _ n _ hrd (by omega)).mono ?_
      rintro e w1 ⟨b, rfl, hrd1, ht1⟩
      replace ho := OwnI.drawn (ho.ext (by (repeat (first | exact Ext.refl _ | assumption | refine Ext.alloc ?_ _ | refine Ext.drewN ?_ _ | refine Ext.drew ?_)))) ht1 hg
      have ht2 := ht.trans (Touched.trans (Touched.of_ext (by (repeat (first | exact Ext.refl _ | assumption | refine Ext.alloc ?_ _ | refine Ext.drewN ?_ _ | refine Ext.drew ?_)))) ht1)
      clear hrd ht ht1
      cases b
      · go_wp2
        go_ret
        exact ⟨_, _, rfl, ho, by omega, by omega, hrd1.mono (by omega), ht2⟩
      · go_wp2_with fail
        refine (pick_c g _ 2 _ hrd1 (by omega)).mono ?_
        rintro e w2 ⟨y, rfl, hy, hrd2, ht3⟩
        replace ho := OwnI.drawn (ho.ext (by (repeat (first | exact Ext.refl _ | assumption | refine Ext.alloc ?_ _ | refine Ext.drewN ?_ _ | refine Ext.drew ?_)))) ht3 hg
        have ht4 := ht2.trans (Touched.trans (Touched.of_ext (by (repeat (first | exact Ext.refl _ | assumption | refine Ext.alloc ?_ _ | refine Ext.drewN ?_ _ | refine Ext.drew ?_)))) ht3)
        have hz4 := ht4.size
        have hpc := pow2_cast k
        have hps : pow2 k ≤ 64 := pow2_le k 6 hs
        clear hrd1 ht2 ht3
        by_cases hy0 : y = 0
        · subst hy0
          go_wp2_with (at_builtin; refine append_int rfl _ _ _ rfl w.heap.size 3 Tryz.underlying23 infoInt _ (L) rfl ?ho _ (0) rfl ?hc ?c1 ?c2 ?_)
          case ho => exact ho.ext (by (repeat (first | exact Ext.refl _ | assumption | refine Ext.alloc ?_ _ | refine Ext.drewN ?_ _ | refine Ext.drew ?_)))
          try (case hc => first | exact cell_new0 _ _ _ | simp)
          case c1 => omega
          case c2 => simp; omega
          intro v' w' ho' hg'
          have hb := fun k hk' => (World.ownsRow.lt ho k hk').1
          have HR2 := Lib.hid (Rd.row ((hrd2.ext (by (repeat (first | exact Ext.refl _ | assumption | refine Ext.alloc ?_ _ | refine Ext.drewN ?_ _ | refine Ext.drew ?_)))).mono (m' := m + 100) (by omega)) hg' (fun k hk' => by have := hb k hk'; omega))
          have HT2 := Lib.hid (Touched.row (ht4.trans (Touched.of_ext (by (repeat (first | exact Ext.refl _ | assumption | refine Ext.alloc ?_ _ | refine Ext.drewN ?_ _ | refine Ext.drew ?_))))) hg' hb)
          clear hb hrd2 ht4 hg'
          go_wp2
          go_ret
          exact ⟨_, _, rfl, ho', by simp; omega, by simp; omega, HR2.out, HT2.out⟩
        · obtain ⟨gv, cv, rfl, hz5, hcl⟩ := OwnI.row ho (by omega)
          go_wp2
          have hk0 : 0 < k := by omega
          have hwr : IntKind.i64.wrap ((pow2 k : Nat) : Int) = ((pow2 k : Nat) : Int) := IntWalk.i64_in _ (by omega)
          go_region_law ((first
            | (go_simp; go_at_call 54; refine (pick_c g _ 2 _ (hrd2.ext (by (repeat (first | exact Ext.refl _ | assumption | refine Ext.alloc ?_ _ | refine Ext.drewN ?_ _ | refine Ext.drew ?_)))) (by omega)).mono ?_; rintro e w3 ⟨z, rfl, hz, hrd3, ht5⟩
               have hz2 : (z : Int) < 2 := by omega
               obtain ⟨u, hu⟩ : ∃ u : Int, (#[Value.int .i64 (-1), Value.int .i64 ((pow2 k : Nat) : Int)] : Array Value)[z]? = some (.int .i64 u) := by
                 rcases (show z = 0 ∨ z = 1 by omega) with rfl | rfl
                 · exact ⟨-1, rfl⟩
                 · exact ⟨_, rfl⟩
               first
                 | (have hcz : w3.cell? ⟨w2.heap.size, z, none⟩ = some (.int .i64 u) := (World.cell?_of_block (a := ⟨w2.heap.size, z, none⟩) (ht5.block w2.heap.size (by simp) (.inr (by have := hrd2.lt; omega)))).trans (cell_new2 _ _ _ _ _ _ hu))
                 | (have hcz : (w3.alloc (.cells #[Value.int .i64 (-1), Value.int .i64 ((pow2 k : Nat) : Int)] 3)).cell? ⟨w3.heap.size, z, none⟩ = some (.int .i64 u) := cell_new2 _ _ _ _ _ _ hu)
               have ho3 := OwnI.drawn (OwnI.ext ho (by (repeat (first | exact Ext.refl _ | assumption | refine Ext.alloc ?_ _ | refine Ext.drewN ?_ _ | refine Ext.drew ?_)))) ht5 hg
               obtain ⟨gw, cw, hve, hz6, hgs, hcl3, hfr3⟩ := OwnI.row ho3 (by omega)
               obtain ⟨rfl, rfl⟩ : gv = gw ∧ cv = cw := by simpa using hve
               have hc0 := hcl3 0 (by omega)
               have hf0 := hfr3 0
               have ht6 := ht4.trans (Touched.trans (Touched.of_ext (by (repeat (first | exact Ext.refl _ | assumption | refine Ext.alloc ?_ _ | refine Ext.drewN ?_ _ | refine Ext.drew ?_)))) ht5)
               clear hve hcl3 hfr3)))
          all_goals
            go_wp2
            go_ret
            exact DrewRows.stored ho3 hL hrd3 (by omega) ht6 hg hz6 (by (repeat (first | exact Ext.refl _ | assumption | refine Ext.alloc ?_ _ | refine Ext.drewN ?_ _ | refine Ext.drew ?_)))
end Go.Proofs.YtlaamecfknkmlaaGreat
/- Contracts: the draws of rows. -/
namespace Go.Proofs.YtlaamecfknkmlaaGreat
set_option linter.unusedVariables false
open Go.RowKit Go.Kt

/-- What drawing a number of states and two rows comes to. -/
def Drew2 (w : World) (g m : Nat) (e : Ending) (w' : World) : Prop :=
  ∃ (s : Nat) (v1 v2 : Value) (L1 L2 : List Int), e = .returned (.tuple #[.int .i64 s, v1, v2]) ∧ s ≤ 5 ∧ OwnI w' w.heap.size 3 v1 L1 ∧ OwnI w' w.heap.size 3 v2 L2 ∧ L1.length ≤ 6 ∧ L2.length ≤ 6 ∧ Rd w' g (m + 300) ∧ Touched w w' g (g + 1)
/-- What drawing rows from bytes comes to. -/
def DrewR (w : World) (e : Ending) (w' : World) : Prop :=
  ∃ (s : Nat) (v : Value) (L : List Int), e = .returned (.tuple #[.int .i64 s, v]) ∧ s ≤ 6 ∧ OwnI w' w.heap.size 3 v L ∧ L.length ≤ 7 ∧ Ext w w'
def DrewRR (w : World) (e : Ending) (w' : World) : Prop :=
  ∃ (s : Nat) (v1 v2 : Value) (L1 L2 : List Int), e = .returned (.tuple #[.int .i64 s, v1, v2]) ∧ s ≤ 5 ∧ OwnI w' w.heap.size 3 v1 L1 ∧ OwnI w' w.heap.size 3 v2 L2 ∧ L1.length ≤ 6 ∧ L2.length ≤ 6 ∧ Ext w w'
end Go.Proofs.YtlaamecfknkmlaaGreat
/- Contracts: the laws' own helpers over sets; and the plain laws of rows as the walks want them. -/
namespace Go.Proofs.YtlaamecfknkmlaaGreat
set_option linter.unusedVariables false
open Go.RowKit Go.Kt

theorem alive_c (w : World) : Calls Tryz.prog 13 #[] w fun e w' => e = .returned (.bool true) ∧ w = w' := by
  have h1 : notF 0 = 15 := by decide
  have h2 : notF 15 = 0 := by decide
  go_enter Tryz.func13, Tryz.ntmps13
  go_wp2_with fail
  refine (iTestNot_c 0 _).mono ?_
  rw [h1]
  rintro e w1 ⟨rfl, rfl⟩
  go_wp2_with fail
  refine (iTestNot_c 15 _).mono ?_
  rw [h2]
  rintro e w1 ⟨rfl, rfl⟩
  go_wp2
  go_ret
  exact ⟨rfl, rfl⟩
theorem both_c (a b : Nat) (w : World) (ha : a < 4294967296) (hb : b < 4294967296) :
    Calls Tryz.prog 25 #[.int .i64 a, .int .i64 b] w fun e w' => e = .returned (.int .i64 (andN a b : Nat)) ∧ w = w' := by
  have hfin := Lib.hid (andTo_end a b 40 (.inl (by omega)))
  go_enter Tryz.func25, Tryz.ntmps25
  go_wp2
  go_loop [5, 6] (fun o i => Hid (∃ k : Nat, k ≤ 40 ∧ i = .int .i64 k ∧ o = .int .i64 (andTo a b k))) (fun _ i => 40 - (intOf i).toNat)
  case atStart => exact Lib.hid ⟨0, by omega, rfl, by rw [andTo_zero]; rfl⟩
  case round =>
    obtain ⟨k, hk, rfl, rfl⟩ := hrel.out
    clear hrel
    have hle := andTo_le a b k
    have hs := Lib.hid (andTo_succ a b k)
    by_cases h : k < 40
    · have hA0 := tmod_bit a k
      have hB0 := tmod_bit b k
      have hp := pow_le_big k 40 (by omega)
      have hq := pow_pos' k
      cases hA : a.testBit k
      all_goals cases hB : b.testBit k
      all_goals
        rw [hA] at hA0
        rw [hB] at hB0
        simp only [Bool.toNat_true, Bool.toNat_false] at hA0 hB0
        go_wp2
        go_round
        case rel => exact Lib.hid ⟨k + 1, by omega, by go_num, by rw [hs.out, hA, hB]; simp⟩
        case measure => simp [intOf]; omega
    · obtain rfl : k = 40 := by omega
      go_wp2
      go_ret
      exact ⟨by rw [hfin.out]; rfl, rfl⟩
theorem under_c (a b : Option Addr) (ca cb : Nat) (la lb : List Int) (w : World) (ha : IntsAt w a la) (hb : IntsAt w b lb) (hla : la.length ≤ 32) (hl : la.length = lb.length) (sa : Sets la) (sb : Sets lb) (hs : ∀ i, i < la.length → Sub (natAt la i) (natAt lb i)) :
    Calls Tryz.prog 35 #[.slice a la.length ca, .slice b lb.length cb] w fun e w' => e = .returned (.bool true) ∧ Ext w w' := by
  obtain ⟨ba, oa, h1, h2⟩ := ha
  obtain ⟨bb, ob, h3, h4⟩ := hb
  have H1 := Lib.hid h1
  have H2 := Lib.hid h2
  have H3 := Lib.hid h3
  have H4 := Lib.hid h4
  have HL := Lib.hid hl
  have SA := Lib.hid sa
  have SB := Lib.hid sb
  have HS := Lib.hid hs
  have hlb : lb.length ≤ 32 := by omega
  have hlq : ((la.length : Int) == (lb.length : Int)) = true := by rw [hl]; simp
  clear h1 h2 h3 h4 hl sa sb hs
  go_enter Tryz.func35, Tryz.ntmps35
  go_wp2
  go_loopw [5] (fun i wr => Hid (∃ k : Nat, k ≤ la.length ∧ i = .int .i64 k ∧ ∃ m, wr = w.drewN m)) (fun i _ => la.length - (intOf i).toNat)
  case atStart => exact Lib.hid ⟨0, Nat.zero_le _, rfl, 0, rfl⟩
  case round =>
    obtain ⟨k, hk, rfl, m, rfl⟩ := hrel.out
    clear hrel
    by_cases hlt : k < la.length
    · have hltb : k < lb.length := by rw [← HL.out]; exact hlt
      obtain ⟨rfl, z1⟩ := H1.out (by omega)
      obtain ⟨rfl, z3⟩ := H3.out (by omega)
      have ka := H2.out k hlt
      have kb := H4.out k hltb
      obtain ⟨sa0, sa1⟩ := SA.out k hlt
      obtain ⟨sb0, sb1⟩ := SB.out k hltb
      have hand := andN_of_sub (HS.out k hlt)
      unfold natAt at hand
      obtain ⟨x, hx⟩ := Int.eq_ofNat_of_zero_le sa0
      obtain ⟨y, hy⟩ := Int.eq_ofNat_of_zero_le sb0
      rw [hx, hy] at hand
      simp only [Int.toNat_natCast] at hand
      rw [hx] at ka sa1
      rw [hy] at kb sb1
      clear hx hy sa0 sb0
      have hboth : ∀ w0 : World, Calls Tryz.prog 25 #[.int .i64 x, .int .i64 y] w0 fun e w' => e = .returned (.int .i64 x) ∧ w0 = w' := fun w0 => (both_c x y w0 (by omega) (by omega)).mono fun e w' h => by rw [hand] at h; exact h
      clear hand
      go_wp2
      go_quiet ((go_at_call 25; exact quiet_same_add (hboth _)))
      go_wp2
      go_roundw
      case rel => exact Lib.hid ⟨k + 1, by omega, by go_num, _, rfl⟩
      case measure => simp [intOf]; omega
    · obtain rfl : k = la.length := by omega
      go_wp2
      go_ret
      exact ⟨rfl, by (repeat (first | exact Ext.refl _ | assumption | refine Ext.alloc ?_ _ | refine Ext.drewN ?_ _ | refine Ext.drew ?_))⟩
/-! plain laws of rows -/
theorem rvB_rel {s : Nat} {l : List Int} (h1 : 1 ≤ s) (h5 : s ≤ 5) (h : Rel s l) : rvB s l = true := by
  simp only [rvB, decide_eq_true_eq, Int.toNat_natCast]
  refine ⟨by omega, by omega, by rw [h.len], fun x hx => ?_⟩
  obtain ⟨i, hi, rfl⟩ := List.getElem_of_mem hx
  have h0 := (h.sets i hi).1
  have h2 := h.lt' i hi
  unfold natAt at h2
  rw [nth_getElem l i hi] at h0 h2
  refine ⟨h0, ?_⟩
  have : (l[i].toNat : Int) < ((2 ^ s : Nat) : Int) := by exact_mod_cast h2
  rw [Int.toNat_of_nonneg h0] at this
  simpa using this
theorem rel_rvB {s : Nat} {l : List Int} (h : rvB s l = true) : 1 ≤ s ∧ s ≤ 5 ∧ Rel s l := by
  obtain ⟨hs, hlt, h1, h5⟩ := rvB_sets h
  have hl := rvB_len h
  have hls : l.length = s := by omega
  exact ⟨by omega, by omega, hls, by omega, hs, fun i hi => by have := hlt i (by omega); simpa using this⟩
theorem backF_laws {s : Nat} {a : List Int} (h : rvB s a = true) : rvB s (backF s a) = true ∧ backF s (backF s a) = a ∧ 1 ≤ (backF s a).length := by
  obtain ⟨h1, h5, hr⟩ := rel_rvB h
  have e : backF s a = backTo a a.length := by simp [backF, h]
  have h2 := rvB_rel h1 h5 hr.backTo
  rw [e]
  refine ⟨h2, ?_, by rw [hr.backTo.len]; exact h1⟩
  simp only [backF, h2, if_true]
  exact back_back hr
theorem plusF_laws {s : Nat} {a b : List Int} (h : rvB s a = true) (k : rvB s b = true) :
    rvB s (plusF s a b) = true ∧ plusF s b a = plusF s a b ∧ 1 ≤ (plusF s a b).length ∧ (plusF s a b).length = a.length ∧ (plusF s a b).length = b.length ∧
      (∀ i, i < a.length → Sub (natAt a i) (natAt (plusF s a b) i)) ∧ (∀ i, i < b.length → Sub (natAt b i) (natAt (plusF s a b) i)) := by
  obtain ⟨h1, h5, ha⟩ := rel_rvB h
  obtain ⟨-, -, hb⟩ := rel_rvB k
  have e : plusF s a b = plusTo a b a.length := by simp [plusF, h, k]
  have e2 : plusF s b a = plusTo b a b.length := by simp [plusF, h, k]
  have hp := ha.plusTo hb
  rw [e, e2]
  refine ⟨rvB_rel h1 h5 hp, plus_comm' ha hb, by rw [hp.len]; exact h1, by rw [hp.len, ha.len], by rw [hp.len, hb.len], fun i hi => ?_, fun i hi => ?_⟩
  · rw [natAt_plus a b _ i hi]
    intro t ht
    rw [testBit_orN, ht]; rfl
  · rw [natAt_plus a b _ i (by rw [ha.len, ← hb.len]; exact hi)]
    intro t ht
    rw [testBit_orN, ht, Bool.or_true]
theorem plusF_bad {s : Nat} {a b : List Int} (h : (rvB s a && rvB s b) = false) : plusF s a b = [] := by simp [plusF, h]
theorem thenF_bad {s : Nat} {a b : List Int} (h : (rvB s a && rvB s b) = false) : thenF s a b = [] := by simp [thenF, h]
theorem thenF_rv {s : Nat} {a b : List Int} (h : rvB s a = true) (k : rvB s b = true) : rvB s (thenF s a b) = true := by
  obtain ⟨h1, h5, ha⟩ := rel_rvB h
  obtain ⟨-, -, hb⟩ := rel_rvB k
  have e : thenF s a b = thenTo a b a.length := by simp [thenF, h, k]
  rw [e]
  exact rvB_rel h1 h5 (ha.thenTo hb)
theorem thenF_val {s : Nat} {a b : List Int} (h : rvB s a = true) (k : rvB s b = true) : thenF s a b = thenTo a b a.length := by unfold thenF; rw [h, k]; rfl
theorem backF_val {s : Nat} {a : List Int} (h : rvB s a = true) : backF s a = backTo a a.length := by unfold backF; rw [h]; rfl
theorem thenF_assoc {s : Nat} {a b c : List Int} (h : rvB s a = true) (k : rvB s b = true) (l : rvB s c = true) : thenF s (thenF s a b) c = thenF s a (thenF s b c) := by
  have h1 := thenF_rv h k
  have h2 := thenF_rv k l
  have e1 : thenF s a b = thenTo a b a.length := by simp [thenF, h, k]
  have e2 : thenF s b c = thenTo b c b.length := by simp [thenF, k, l]
  have e3 := thenF_val h1 l
  have e4 := thenF_val h h2
  rw [e3, e4, e1, e2]
  exact then_assoc (rel_rvB h).2.2 (rel_rvB k).2.2 (rel_rvB l).2.2
theorem thenF_back {s : Nat} {a b : List Int} (h : rvB s a = true) (k : rvB s b = true) : backF s (thenF s a b) = thenF s (backF s b) (backF s a) := by
  have h1 := thenF_rv h k
  have h2 := (backF_laws h).1
  have h3 := (backF_laws k).1
  have e1 : thenF s a b = thenTo a b a.length := by simp [thenF, h, k]
  have e2 := backF_val h1
  have e3 := thenF_val h3 h2
  have e4 : backF s a = backTo a a.length := by simp [backF, h]
  have e5 : backF s b = backTo b b.length := by simp [backF, k]
  rw [e2, e3, e1, e4, e5]
  exact back_then (rel_rvB h).2.2 (rel_rvB k).2.2
theorem starF_laws {s : Nat} {a : List Int} (h : rvB s a = true) :
    rvB s (starF s a) = true ∧ thenF s (starF s a) (starF s a) = starF s a ∧ starF s (starF s a) = starF s a ∧ 1 ≤ (starF s a).length ∧ (starF s a).length = a.length ∧
      (∀ i, i < a.length → Sub (natAt a i) (natAt (starF s a) i)) ∧ ∀ i, i < (starF s a).length → (natAt (starF s a) i).testBit i = true := by
  obtain ⟨h1, h5, ha⟩ := rel_rvB h
  have e : starF s a = starTo a a.length := by simp [starF, h]
  have hs := rvB_rel h1 h5 ha.starTo
  rw [e]
  refine ⟨hs, ?_, ?_, by rw [ha.starTo.len]; exact h1, by rw [ha.starTo.len, ha.len], fun i hi => star_above ha h5 i (by rw [← ha.len]; exact hi), fun i hi => star_self ha i (by rw [ha.starTo.len] at hi; exact hi)⟩
  · simp only [thenF, hs, Bool.and_self, if_true]
    exact star_then ha h5
  · simp only [starF, hs, if_true]
    exact star_star ha h5
theorem rvB_zeros {s : Nat} {l : List Int} (h : rvB s l = true) : rvB s (List.replicate l.length 0) = true := by
  obtain ⟨h1, h5, hr⟩ := rel_rvB h
  simp only [rvB, decide_eq_true_eq, Int.toNat_natCast, List.length_replicate]
  refine ⟨by omega, by omega, by rw [hr.len], fun x hx => ?_⟩
  rw [List.eq_of_mem_replicate hx]
  have := pow_pos' s
  exact ⟨by omega, by omega⟩
theorem rvB_more {s : Nat} {l : List Int} (x : Int) (h : rvB s l = true) : rvB s (l ++ [x]) = false := by
  obtain ⟨h1, h5, hr⟩ := rel_rvB h
  have := hr.len
  simp [rvB]
  omega
end Go.Proofs.YtlaamecfknkmlaaGreat
/- Contracts: models back. -/
namespace Go.Proofs.YtlaamecfknkmlaaGreat
set_option linter.unusedVariables false
open Go.RowKit Go.Kt

/-- ModelBack. -/
def mbI (st p q : Int) (ll : List (List Int)) (x : Int) : Int := if mvB st p q ll then x else 0
def mbL (st p q : Int) (ll : List (List Int)) : List (List Int) := if mvB st p q ll then mapRows (backF st) ll ll.length else []

theorem mbL_len (st p q : Int) (ll : List (List Int)) : (mbL st p q ll).length ≤ 3 := by
  unfold mbL
  split
  · rename_i h; obtain ⟨_, _, _, _, _, _, _, _, _, _, _, _, h3, _⟩ := mvB_bounds h; rw [mapRows_length]; omega
  · simp
theorem totTo_bound (ll : List (List Int)) (b : Nat) (h : ∀ i, i < ll.length → (rowI ll i).length ≤ b) : ∀ k, k ≤ ll.length → totTo ll k ≤ k * b
  | 0, _ => Nat.zero_le _
  | k + 1, hk => by
    have := totTo_bound ll b h k (by omega)
    have h2 := h k (by omega)
    simp only [totTo]
    rw [Nat.add_mul]; omega
theorem mbL_tot (st p q : Int) (ll : List (List Int)) : totTo (mbL st p q ll) (mbL st p q ll).length ≤ 15 := by
  have hl := mbL_len st p q ll
  refine Nat.le_trans (totTo_bound _ 5 (fun i hi => ?_) _ (Nat.le_refl _)) (by omega)
  unfold mbL at hi ⊢
  split at hi
  · rename_i h
    simp only [h, if_true]
    rw [mapRows_length] at hi
    rw [mapRows_row _ _ _ _ hi]
    unfold backF
    split
    · rename_i h2; rw [backTo_length]; exact (rvB_sets h2).2.2.2
    · simp
  · simp at hi

set_option maxRecDepth 100000 in
set_option maxHeartbeats 1000000 in
theorem iModelBack_c (st p q : Int) (a : Option Addr) (cap : Nat) (ll : List (List Int)) (w : World) (hr : RowsAt w a ll) (hlen : ll.length ≤ 4194304) (hm : ∀ i, i < ll.length → (rowI ll i).length ≤ 4194304) :
    Calls Tryz.prog 48 #[modelV st p q a ll.length cap] w (RetM 3 23 w (mbI st p q ll st) (mbI st p q ll p) (mbI st p q ll q) (mbL st p q ll)) := by
  have HR := Lib.hid hr
  have HM := Lib.hid hm
  clear hr hm
  cases hv : mvB st p q ll
  · simp only [mbI, mbL, hv, Bool.false_eq_true, if_false]
    go_enter Tryz.func48, Tryz.ntmps48
    go_wp2_with fail
    refine (iModelValid_c st p q a cap ll _ (HR.out.ext (by (repeat (first | exact Ext.refl _ | assumption | refine Ext.alloc ?_ _ | refine Ext.drewN ?_ _ | refine Ext.drew ?_)))) hlen HM.out).mono ?_
    rw [hv]
    rintro e w1 ⟨rfl, y⟩
    have HX := Lib.hid y
    obtain ⟨hc, hf⟩ := y.cells
    have hz := y.size
    simp only [World.size_alloc] at hz
    clear y
    go_wp2
    refine bodyPost_ret (v := .agg #[.int .i64 0, .int .i64 0, .int .i64 0, .slice none 0 0]) (by simp [results, Tryz.results48, go_sem, hc]) rfl ⟨_, rfl, ?_, ?_⟩
    · refine OwnR.mono (OwnR.nil _ _ _) ?_ (Nat.le_refl _) (Nat.le_refl _)
      simp; omega
    · repeat (refine Ext.setCell ?_ (by simp; try omega) _)
      exact Ext.trans (by (repeat (first | exact Ext.refl _ | assumption | refine Ext.alloc ?_ _ | refine Ext.drewN ?_ _ | refine Ext.drew ?_))) HX.out
  · obtain ⟨s, P, Q, rfl, rfl, rfl, h1, h5, hP, hQ, hPb, hQb, h3, hrv⟩ := mvB_bounds hv
    have HV := Lib.hid hv
    simp only [mbI, mbL, hv, if_true]
    have HRV := Lib.hid hrv
    have H3 := Lib.hid h3
    clear hv hrv hP hQ h3
    go_enter Tryz.func48, Tryz.ntmps48
    go_wp2_with fail
    refine (iModelValid_c s P Q a cap ll _ (HR.out.ext (by (repeat (first | exact Ext.refl _ | assumption | refine Ext.alloc ?_ _ | refine Ext.drewN ?_ _ | refine Ext.drew ?_)))) hlen HM.out).mono ?_
    rw [HV.out]
    rintro e w1 ⟨rfl, y⟩
    have hb : BoxM w1 w.heap.size s P Q (.slice a ll.length cap) := BoxM.ext (by simp [BoxM, go_sem]) y
    have hr2 : BoxM w1 (w.heap.size + 1) 0 0 0 (.slice none 0 0) := BoxM.ext (by simp [BoxM, go_sem]) y
    have ht2 : Thawed w1 (w.heap.size + 1) := Thawed.ext ⟨by simp, fun o => by simp [go_sem]⟩ y
    have hx : Ext w w1 := Ext.trans (by (repeat (first | exact Ext.refl _ | assumption | refine Ext.alloc ?_ _ | refine Ext.drewN ?_ _ | refine Ext.drew ?_))) y
    have hzw : w.heap.size + 2 ≤ w1.heap.size := by have := y.size; simp at this; omega
    clear y
    have kb := hb.out
    have zb := hb.lt
    go_wp2
    go_loopw [20] (fun i wr => Hid (∃ (k : Nat) (v : Value), k ≤ ll.length ∧ i = .int .i64 k ∧ OwnR wr (w1.heap.size + 1) wr.heap.size 3 23 v (mapRows (backF s) ll k) ∧ BoxM wr w1.heap.size s P Q v ∧ Thawed wr w1.heap.size ∧ BoxM wr w.heap.size s P Q (.slice a ll.length cap) ∧ BoxM wr (w.heap.size + 1) 0 0 0 (.slice none 0 0) ∧ Thawed wr (w.heap.size + 1) ∧ Ext w wr)) (fun i _ => ll.length - (intOf i).toNat)
    case atStart =>
      refine Lib.hid ⟨0, .slice none 0 0, Nat.zero_le _, rfl, ?_, ?_, ?_, ?_, ?_, ?_, ?_⟩
      · exact OwnR.mono (OwnR.nil _ _ _) (by simp) (by simp) (by simp)
      · simp [BoxM, go_sem]
      · exact ⟨by simp, fun o => by simp [go_sem]⟩
      · repeat (refine BoxM.setOther ?_ (by omega))
        exact hb.ext (by (repeat (first | exact Ext.refl _ | assumption | refine Ext.alloc ?_ _ | refine Ext.drewN ?_ _ | refine Ext.drew ?_)))
      · repeat (refine BoxM.setOther ?_ (by omega))
        exact hr2.ext (by (repeat (first | exact Ext.refl _ | assumption | refine Ext.alloc ?_ _ | refine Ext.drewN ?_ _ | refine Ext.drew ?_)))
      · repeat (refine Thawed.setCell ?_ _ _)
        exact ht2.ext (by (repeat (first | exact Ext.refl _ | assumption | refine Ext.alloc ?_ _ | refine Ext.drewN ?_ _ | refine Ext.drew ?_)))
      · repeat (refine Ext.setCell ?_ (by simp; try omega) _)
        (repeat (first | exact Ext.refl _ | assumption | refine Ext.alloc ?_ _ | refine Ext.drewN ?_ _ | refine Ext.drew ?_))
    case round =>
      obtain ⟨k, v, hk, rfl, ho, hbo, hto, hbp, hbr, htr, hxr⟩ := hrel.out
      clear hrel hb hr2 ht2 kb zb
      obtain ⟨av, cv, rfl⟩ := ho.shape
      by_cases hlt : k < ll.length
      · have hvk := HRV.out k (by rw [← H3.out]; exact hlt)
        have hrl := rvB_len hvk
        obtain ⟨b1, o1, p1, q1⟩ := HR.out.ext hxr
        obtain ⟨rfl, hz1⟩ := p1 (by omega)
        obtain ⟨ai, ci, hc, hi⟩ := q1 k (by omega)
        have HI := Lib.hid hi
        clear p1 q1 hi hvk
        have ko := hbo.out
        have kp := hbp.out
        have zo := hbo.lt
        have zp := hbp.lt
        have HO := Lib.hid ho
        have HBO := Lib.hid hbo
        have HBP := Lib.hid hbp
        have HTO := Lib.hid hto
        have HBR := Lib.hid hbr
        have HTR := Lib.hid htr
        have kf := hto.2 3
        clear ho hbo hbp hto hbr htr
        go_wp2
        go_region_law
          ((first
            | (go_simp; go_at_call 50; refine (iRowsBack_c s _ ci (rowI ll k) _ (HI.out.ext (by (repeat (first | exact Ext.refl _ | assumption | refine Ext.alloc ?_ _ | refine Ext.drewN ?_ _ | refine Ext.drew ?_ | refine Ext.setCell ?_ (by simp; try omega) _)))) (by omega)).mono ?_; rintro e wk ⟨vk, rfl, ok, yk⟩; obtain ⟨ak, ck, rfl, -⟩ := ok.shape
               have yk2 : Ext wr wk := Ext.trans (by (repeat (first | exact Ext.refl _ | assumption | refine Ext.alloc ?_ _ | refine Ext.drewN ?_ _ | refine Ext.drew ?_ | refine Ext.setCell ?_ (by simp; try omega) _))) yk
               have OK : Hid (OwnI wk wr.heap.size 3 (.slice ak (backF s (rowI ll k)).length ck) (backF s (rowI ll k))) := by simpa [Hid] using ok
               have hbok := Lib.hid (HBO.out.ext yk2)
               have hbpk := Lib.hid (HBP.out.ext yk2)
               have htok := Lib.hid (HTO.out.ext yk2)
               have kok := hbok.out.out
               have kfk := htok.out.2 3
               have zok := hbok.out.lt
               clear ok yk)
            | (refine step_append_row rfl _ _ _ rfl (w1.heap.size + 1) wr.heap.size 3 23 (by decide) Tryz.underlying24 infoInts _ (mapRows (backF s) ll k) rfl (HO.out.ext (Ext.trans yk2 (by (repeat (first | exact Ext.refl _ | assumption | refine Ext.alloc ?_ _ | refine Ext.drewN ?_ _ | refine Ext.drew ?_ | refine Ext.setCell ?_ (by simp; try omega) _))))) _ _ (backF s (rowI ll k)) (OwnI.ext OK.out (by (repeat (first | exact Ext.refl _ | assumption | refine Ext.alloc ?_ _ | refine Ext.drewN ?_ _ | refine Ext.drew ?_ | refine Ext.setCell ?_ (by simp; try omega) _)))) rfl (by first | exact cell_new0 _ _ _ | simp) (by rw [mapRows_length]; omega) ?_; intro v' w' ho' hg; obtain ⟨av', cv', rfl⟩ := ho'.shape
               have ht := OwnR.touched (HO.out.ext (Ext.trans yk2 (by (repeat (first | exact Ext.refl _ | assumption | refine Ext.alloc ?_ _ | refine Ext.drewN ?_ _ | refine Ext.drew ?_ | refine Ext.setCell ?_ (by simp; try omega) _))))) hg
               have hbo1 := Lib.hid ((hbok.out.ext (by (repeat (first | exact Ext.refl _ | assumption | refine Ext.alloc ?_ _ | refine Ext.drewN ?_ _ | refine Ext.drew ?_ | refine Ext.setCell ?_ (by simp; try omega) _)))).untouched ht (by omega))
               have hbp1 := Lib.hid ((hbpk.out.ext (by (repeat (first | exact Ext.refl _ | assumption | refine Ext.alloc ?_ _ | refine Ext.drewN ?_ _ | refine Ext.drew ?_ | refine Ext.setCell ?_ (by simp; try omega) _)))).untouched ht (by omega))
               have hto1 := Lib.hid ((htok.out.ext (by (repeat (first | exact Ext.refl _ | assumption | refine Ext.alloc ?_ _ | refine Ext.drewN ?_ _ | refine Ext.drew ?_ | refine Ext.setCell ?_ (by simp; try omega) _)))).untouched ht (by omega))
               have hbr1 := Lib.hid ((HBR.out.ext (Ext.trans yk2 (by (repeat (first | exact Ext.refl _ | assumption | refine Ext.alloc ?_ _ | refine Ext.drewN ?_ _ | refine Ext.drew ?_ | refine Ext.setCell ?_ (by simp; try omega) _))))).untouched ht (by omega))
               have htr1 := Lib.hid ((HTR.out.ext (Ext.trans yk2 (by (repeat (first | exact Ext.refl _ | assumption | refine Ext.alloc ?_ _ | refine Ext.drewN ?_ _ | refine Ext.drew ?_ | refine Ext.setCell ?_ (by simp; try omega) _))))).untouched ht (by omega))
               have hx1 := Lib.hid (ht.ext (hxr.trans (Ext.trans yk2 (by (repeat (first | exact Ext.refl _ | assumption | refine Ext.alloc ?_ _ | refine Ext.drewN ?_ _ | refine Ext.drew ?_ | refine Ext.setCell ?_ (by simp; try omega) _))))) (by omega))
               have HO1 := Lib.hid ho'
               have kf1 := hto1.out.2 3
               have ko1 := hbo1.out.out
               have zo1 := hbo1.out.lt
               clear ho' hg ht)))
        all_goals
          go_wp2
          go_roundw
          case rel =>
            refine Lib.hid ⟨k + 1, .slice av' (mapRows (backF s) ll k ++ [backF s (rowI ll k)]).length cv', by omega, by go_num, ?_, ?_, ?_, ?_, ?_, ?_, ?_⟩
            · rw [mapRows_succ]; exact HO1.out.stored (by simp) _
            · rw [List.length_append]; exact hbo1.out.setRow
            · exact hto1.out.setCell _ _
            · exact hbp1.out.setOther (by omega)
            · exact hbr1.out.setOther (by omega)
            · exact htr1.out.setCell _ _
            · exact hx1.out.setCell (by simp; try omega) _
          case measure => simp [intOf]; omega
      · obtain rfl : k = ll.length := by omega
        have ko := hbo.out
        have kr := hbr.out
        have zo := hbo.lt
        have kt := htr.2
        have zt := htr.1
        have HO := Lib.hid ho
        have HX := Lib.hid hxr
        clear ho hxr
        go_wp2
        refine bodyPost_ret (v := .agg #[.int .i64 s, .int .i64 P, .int .i64 Q, .slice av (mapRows (backF s) ll ll.length).length cv]) (by simp [results, Tryz.results48, go_sem, kr]) rfl ⟨_, rfl, ?_, ?_⟩
        · refine OwnR.mono (B := w1.heap.size + 1) (T := wr.heap.size) ?_ (by omega) (by simp) (Nat.le_refl _)
          repeat (refine OwnR.setOld ?_ (by simp; try omega) _)
          exact HO.out
        · repeat (refine Ext.setCell ?_ (by simp; try omega) _)
          exact HX.out
end Go.Proofs.YtlaamecfknkmlaaGreat
/- Plain laws of models, as the walks want them. No program in sight. -/
namespace Go.Proofs.YtlaamecfknkmlaaGreat
set_option linter.unusedVariables false
open Go.RowKit Go.Kt

theorem mvB_zero {st p q : Int} {ll : List (List Int)} (h : mvB st p q ll = true) : mvB st 0 0 ll = true := by
  simp only [mvB, decide_eq_true_eq] at h ⊢
  obtain ⟨h1, h2, h3, h4, h5, h6⟩ := h
  have := pow_pos' st.toNat
  exact ⟨h1, h2, ⟨by omega, by omega⟩, ⟨by omega, by omega⟩, h5, h6⟩
theorem mvB_short {st p q : Int} {ll : List (List Int)} (h : mvB st p q ll = true) : mvB st 0 0 (ll.drop 1) = false := by
  simp only [mvB, decide_eq_true_eq] at h
  simp only [mvB, decide_eq_false_iff_not]
  rintro ⟨-, -, -, -, e, -⟩
  obtain ⟨-, -, -, -, h5, -⟩ := h
  rw [List.length_drop] at e
  omega
theorem rowI_drop (ll : List (List Int)) (i : Nat) (h : i < (ll.drop 1).length) : rowI (ll.drop 1) i = rowI ll (i + 1) := by
  have h2 : i + 1 < ll.length := by rw [List.length_drop] at h; omega
  rw [rowI_getElem _ _ h, rowI_getElem _ _ h2]; simp
theorem mvB_nat {st p q : Int} {ll : List (List Int)} (h : mvB st p q ll = true) :
    ∃ (s P Q : Nat), st = s ∧ p = P ∧ q = Q ∧ 1 ≤ s ∧ s ≤ 5 ∧ P < 2 ^ s ∧ Q < 2 ^ s := by
  obtain ⟨s, P, Q, h1, h2, h3, h4, h5, h6, h7, _⟩ := mvB_bounds h
  exact ⟨s, P, Q, h1, h2, h3, h4, h5, h6, h7⟩
theorem not_bit (t a : Nat) (ht : t ≤ 15) (ha : a ≤ 3) : (15 - t).testBit a = !t.testBit a := by
  have h : ∀ t, t < 16 → ∀ a, a < 4 → (15 - t).testBit a = !t.testBit a := by decide
  exact h t (by omega) a (by omega)
theorem ts_not (p q : Int) (t : Nat) (ht : t ≤ 15) : ∀ k, tsTo p q t k + tsTo p q (15 - t) k + 1 = pow2 k
  | 0 => by simp [tsTo, pow2]
  | k + 1 => by
    have ih := ts_not p q t ht k
    have e : pow2 (k + 1) = pow2 k * 2 := Nat.pow_succ _ _
    rw [tsTo_succ, tsTo_succ, not_bit t _ ht (atomI_le p q k), e]
    cases t.testBit (atomI p q k) <;> simp <;> omega
theorem bit10 (b c : Bool) : (10 : Nat).testBit (b.toNat + 2 * c.toNat) = b := by cases b <;> cases c <;> decide
theorem bit12 (b c : Bool) : (12 : Nat).testBit (b.toNat + 2 * c.toNat) = c := by cases b <;> cases c <;> decide
theorem ts_10 (P Q s : Nat) (h : P < 2 ^ s) : tsTo P Q 10 s = P := by
  apply Nat.eq_of_testBit_eq
  intro i
  rw [Bool.eq_iff_iff, testBit_tsTo]
  unfold atomI
  rw [bit10, Int.toNat_natCast]
  exact ⟨fun h => h.2, fun hb => ⟨testBit_lt h hb, hb⟩⟩
theorem ts_12 (P Q s : Nat) (h : Q < 2 ^ s) : tsTo P Q 12 s = Q := by
  apply Nat.eq_of_testBit_eq
  intro i
  rw [Bool.eq_iff_iff, testBit_tsTo]
  unfold atomI
  rw [bit12, Int.toNat_natCast]
  exact ⟨fun h => h.2, fun hb => ⟨testBit_lt h hb, hb⟩⟩
theorem mbL_val {st p q : Int} {ll : List (List Int)} (h : mvB st p q ll = true) : mbL st p q ll = mapRows (backF st) ll ll.length := by unfold mbL; rw [h]; rfl
/-- Twice back a model is as before. -/
theorem mb_back {st p q : Int} {ll : List (List Int)} (h : mvB st p q ll = true) :
    mbI st p q ll st = st ∧ mbI st p q ll p = p ∧ mbI st p q ll q = q ∧ mvB st p q (mbL st p q ll) = true ∧ mbL st p q (mbL st p q ll) = ll := by
  obtain ⟨s, P, Q, rfl, rfl, rfl, h1, h5, hP, hQ, -, -, h3, hr⟩ := mvB_bounds h
  have hL := mbL_val h
  have hv : mvB s P Q (mbL s P Q ll) = true := by
    rw [hL]
    simp only [mvB, decide_eq_true_eq]
    refine ⟨by omega, by omega, ⟨by omega, by rw [Int.toNat_natCast]; exact_mod_cast hP⟩, ⟨by omega, by rw [Int.toNat_natCast]; exact_mod_cast hQ⟩, by rw [mapRows_length, h3], fun r hm => ?_⟩
    obtain ⟨i, hi, rfl⟩ := List.getElem_of_mem hm
    rw [mapRows_length] at hi
    rw [← rowI_getElem, mapRows_row _ _ _ _ hi]
    exact (backF_laws (hr i (by omega))).1
  refine ⟨by simp [mbI, h], by simp [mbI, h], by simp [mbI, h], hv, ?_⟩
  have hL2 := mbL_val hv
  rw [hL2, hL, mapRows_length]
  apply ext_rowI
  · rw [mapRows_length]
  · intro j hj
    rw [mapRows_length] at hj
    rw [mapRows_row _ _ _ _ hj, mapRows_row _ _ _ _ hj]
    exact (backF_laws (hr j (by omega))).2.1
end Go.Proofs.YtlaamecfknkmlaaGreat
