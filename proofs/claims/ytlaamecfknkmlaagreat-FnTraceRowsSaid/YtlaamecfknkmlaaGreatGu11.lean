/- Merged texts: contracts and plain lemmas (Jn). -/
import Derived.Test.YtlaamecfknkmlaaGreatGu4
import Derived.Test.YtlaamecfknkmlaaGreatGu8
import Derived.Test.YtlaamecfknkmlaaGreatGu10
/- Contracts: expressions put together, in the reference. -/
namespace Go.Proofs.YtlaamecfknkmlaaGreat
set_option linter.unusedVariables false
open Go.RowKit Go.Kt

theorem kTestNot_s (t : Int) (w : World) (h : 0 ≤ t ∧ t ≤ 15) : Calls Tryz.prog 148 #[.int .i64 t] w fun e w' => e = .returned (.int .i64 (15 - t)) ∧ w = w' := by
  have h0 := h.1
  have h1 := h.2
  have hv : inB t 0 15 = true := by simp [inB]; omega
  clear h
  go_enter Tryz.func148, Tryz.ntmps148
  go_wp2_with fail
  refine (sTestValid_c _ _).mono ?_
  rw [hv]
  rintro e w' ⟨rfl, rfl⟩
  go_wp2
  go_ret
  exact ⟨rfl, rfl⟩
theorem named (l : List Int) : ∃ L : List Int, Hid (L = l) ∧ L.length = l.length := ⟨l, rfl, rfl⟩
theorem l2Join_c (a b : Option Addr) (ca cb : Nat) (la lb : List Int) (s : Int) (w : World) (ha : IntsAt w a la) (hb : IntsAt w b lb) (hla : la.length ≤ 1048576) (hlb : lb.length ≤ 1048576) :
    Calls Tryz.prog 113 #[.slice a la.length ca, .slice b lb.length cb, .int .i64 s] w (RetI 3 w (la ++ lb ++ [s])) := by
  have HA := Lib.hid ha
  have HB := Lib.hid hb
  clear ha hb
  go_enter Tryz.func113, Tryz.ntmps113
  go_wp2_with (at_builtin; refine any_append_ints (by rfl) _ _ _ rfl (w.heap.size) 3 Tryz.underlying23 infoInt _ ([]) rfl (by first | exact OwnI.empty _ _ | exact (OwnI.empty _ _).ext (by (repeat (first | exact Ext.refl _ | assumption | refine Ext.alloc ?_ _ | refine Ext.drewN ?_ _ | refine Ext.drew ?_)))) _ _ (la) rfl (HA.out.ext (by (repeat (first | exact Ext.refl _ | assumption | refine Ext.alloc ?_ _ | refine Ext.drewN ?_ _ | refine Ext.drew ?_)))) (by first | omega | (simp; omega)) (by first | omega | (simp; done) | (simp; omega)) ?_)
  intro v1 w1 o1 g1
  have hx1 := Lib.hid (Ext.rowOf (w0 := w) (show Ext w _ by (repeat (first | exact Ext.refl _ | assumption | refine Ext.alloc ?_ _ | refine Ext.drewN ?_ _ | refine Ext.drew ?_))) g1 (Nat.le_refl _))
  obtain ⟨a1, c1, rfl, -⟩ := o1.shape
  have O1 := Lib.hid o1
  have hz1 := hx1.out.size
  clear o1 g1
  go_wp2_with (at_builtin; refine any_append_ints (by rfl) _ _ _ rfl (w.heap.size) 3 Tryz.underlying23 infoInt _ (_) rfl (O1.out.ext (by (repeat (first | exact Ext.refl _ | assumption | refine Ext.alloc ?_ _ | refine Ext.drewN ?_ _ | refine Ext.drew ?_)))) _ _ (lb) rfl (HB.out.ext (by first | exact hx1.out | exact hx1.out.trans (by (repeat (first | exact Ext.refl _ | assumption | refine Ext.alloc ?_ _ | refine Ext.drewN ?_ _ | refine Ext.drew ?_))))) (by first | omega | (simp; omega)) (by first | omega | (simp; done) | (simp; omega)) ?_)
  intro v2 w2 o2 g2
  have hx2 := Lib.hid (Ext.row (hx1.out.trans (by (repeat (first | exact Ext.refl _ | assumption | refine Ext.alloc ?_ _ | refine Ext.drewN ?_ _ | refine Ext.drew ?_)))) g2 (fun k hk => (World.ownsRow.lt O1.out k hk).1))
  obtain ⟨L2, hL2, hl2⟩ := named (la ++ lb)
  rw [← hL2.out] at o2
  rw [List.length_append] at hl2
  have hl2' : L2.length ≤ 2097152 := by omega
  clear hl2
  obtain ⟨a2, c2, rfl, -⟩ := o2.shape
  have O2 := Lib.hid o2
  have hz2 := hx2.out.size
  clear o2 g2
  go_wp2_with (at_builtin; refine any_append_ints (by rfl) _ _ _ rfl (w.heap.size) 3 Tryz.underlying23 infoInt _ (_) rfl (O2.out.ext (by (repeat (first | exact Ext.refl _ | assumption | refine Ext.alloc ?_ _ | refine Ext.drewN ?_ _ | refine Ext.drew ?_)))) _ _ ([s]) rfl (by first | exact (OwnI.lit1 _ _ _ _ (Nat.le_refl _)).ints | exact ((OwnI.lit1 _ _ _ _ (Nat.le_refl _)).ints).ext (by (repeat (first | exact Ext.refl _ | assumption | refine Ext.alloc ?_ _ | refine Ext.drewN ?_ _ | refine Ext.drew ?_)))) (by first | omega | (simp; omega)) (by first | omega | (simp; done) | (simp; omega)) ?_)
  intro v3 w3 o3 g3
  have hx3 := Lib.hid (Ext.row (hx2.out.trans (by (repeat (first | exact Ext.refl _ | assumption | refine Ext.alloc ?_ _ | refine Ext.drewN ?_ _ | refine Ext.drew ?_)))) g3 (fun k hk => (World.ownsRow.lt O2.out k hk).1))
  obtain ⟨L3, hL3, -⟩ := named (L2 ++ [s])
  rw [← hL3.out] at o3
  obtain ⟨a3, c3, rfl, -⟩ := o3.shape
  have O3 := Lib.hid o3
  clear o3 g3
  go_wp2
  go_ret
  exact ⟨_, rfl, by rw [← hL2.out, ← hL3.out]; exact O3.out, hx3.out.trans (by (repeat (first | exact Ext.refl _ | assumption | refine Ext.alloc ?_ _ | refine Ext.drewN ?_ _ | refine Ext.drew ?_)))⟩
/-- What a call that makes an expression, and a truth, comes to. -/
def RetIB (w : World) (l : List Int) (ok : Bool) (e : Ending) (w' : World) : Prop := ∃ v, e = .returned (.tuple #[v, .bool ok]) ∧ OwnI w' w.heap.size 3 v l ∧ Ext w w'
/-- An expression, and whether it is valid; no expression if it is not. -/
def keepL (b : Bool) (l : List Int) : List Int := if b then l else []
theorem keepL_len (b : Bool) (l : List Int) (h : b = true → l.length ≤ 40) : (keepL b l).length ≤ 40 := by
  cases b
  · simp [keepL]
  · simpa [keepL] using h rfl
def RetV (w : World) (b : Bool) (l : List Int) (e : Ending) (w' : World) : Prop := RetIB w (keepL b l) b e w'
theorem RetV.yes {w w' : World} {l : List Int} {e : Ending} {v : Value} (he : e = .returned (.tuple #[v, .bool true])) (ho : OwnI w' w.heap.size 3 v l) (hx : Ext w w') : RetV w true l e w' := ⟨v, he, ho, hx⟩
theorem RetV.no {w w' : World} {l : List Int} {e : Ending} {v : Value} (he : e = .returned (.tuple #[v, .bool false])) (ho : OwnI w' w.heap.size 3 v []) (hx : Ext w w') : RetV w false l e w' := ⟨v, he, ho, hx⟩
set_option maxRecDepth 100000 in
set_option maxHeartbeats 1000000 in
theorem sKatThen_c (a b : Option Addr) (ca cb : Nat) (la lb : List Int) (w : World) (ha : IntsAt w a la) (hb : IntsAt w b lb) (hla : la.length ≤ 1048576) (hlb : lb.length ≤ 1048576) :
    Calls Tryz.prog 181 #[.slice a la.length ca, .slice b lb.length cb] w (RetV w (kvB la && kvB lb && kvB (la ++ lb ++ [19])) (la ++ lb ++ [19])) := by
  have HA := Lib.hid ha
  have HB := Lib.hid hb
  clear ha hb
  obtain ⟨L, hL, hl⟩ := named (la ++ lb ++ [19])
  simp only [List.length_append, List.length_cons, List.length_nil] at hl
  have hL2 : L.length ≤ 4194304 := by omega
  have J : Hid (∀ w', Ext w w' → Calls Tryz.prog 113 #[.slice a la.length ca, .slice b lb.length cb, .int .i64 19] w' (RetI 3 w' L)) := fun w' hx => by
    rw [hL.out]; exact l2Join_c a b ca cb la lb 19 w' (HA.out.ext hx) (HB.out.ext hx) hla hlb
  rw [← hL.out]
  clear hl hL
  cases ka : kvB la
  all_goals cases kb : kvB lb
  all_goals cases kl : kvB L
  all_goals
    have KA := Lib.hid ka
    have KB := Lib.hid kb
    have KL := Lib.hid kl
    clear ka kb kl
    go_enter Tryz.func181, Tryz.ntmps181
    go_wp2_with fail
    refine (J.out _ (by (repeat (first | exact Ext.refl _ | assumption | refine Ext.alloc ?_ _ | refine Ext.drewN ?_ _ | refine Ext.drew ?_)))).mono ?_
    rintro e w1 ⟨v1, rfl, o1, y⟩
    have HX := Lib.hid y
    obtain ⟨a1, c1, rfl, i1⟩ := o1.shape
    have O1 := Lib.hid o1
    have I1 := Lib.hid i1
    have hz := HX.out.size
    clear o1 i1 y
    go_wp2_with (first
      | (go_at_call 83; with_reducible refine (sKatValid_c a ca la _ (HA.out.ext HX.out) (by omega)).mono ?_; rw [KA.out]; rintro e w' ⟨rfl, rfl⟩)
      | (go_at_call 83; with_reducible refine (sKatValid_c b cb lb _ (HB.out.ext HX.out) (by omega)).mono ?_; rw [KB.out]; rintro e w' ⟨rfl, rfl⟩)
      | (go_at_call 83; with_reducible refine (sKatValid_c a1 c1 L _ I1.out hL2).mono ?_; rw [KL.out]; rintro e w' ⟨rfl, rfl⟩))
    go_ret2
    first
      | exact RetV.yes rfl O1.out HX.out
      | exact RetV.no rfl ((OwnI.empty _ _).mono hz) (HX.out.trans (by (repeat (first | exact Ext.refl _ | assumption | refine Ext.alloc ?_ _ | refine Ext.drewN ?_ _ | refine Ext.drew ?_))))
set_option maxRecDepth 100000 in
set_option maxHeartbeats 1000000 in
theorem sKatPlus_c (a b : Option Addr) (ca cb : Nat) (la lb : List Int) (w : World) (ha : IntsAt w a la) (hb : IntsAt w b lb) (hla : la.length ≤ 1048576) (hlb : lb.length ≤ 1048576) :
    Calls Tryz.prog 95 #[.slice a la.length ca, .slice b lb.length cb] w (RetV w (kvB la && kvB lb && kvB (la ++ lb ++ [20])) (la ++ lb ++ [20])) := by
  have HA := Lib.hid ha
  have HB := Lib.hid hb
  clear ha hb
  obtain ⟨L, hL, hl⟩ := named (la ++ lb ++ [20])
  simp only [List.length_append, List.length_cons, List.length_nil] at hl
  have hL2 : L.length ≤ 4194304 := by omega
  have J : Hid (∀ w', Ext w w' → Calls Tryz.prog 113 #[.slice a la.length ca, .slice b lb.length cb, .int .i64 20] w' (RetI 3 w' L)) := fun w' hx => by
    rw [hL.out]; exact l2Join_c a b ca cb la lb 20 w' (HA.out.ext hx) (HB.out.ext hx) hla hlb
  rw [← hL.out]
  clear hl hL
  cases ka : kvB la
  all_goals cases kb : kvB lb
  all_goals cases kl : kvB L
  all_goals
    have KA := Lib.hid ka
    have KB := Lib.hid kb
    have KL := Lib.hid kl
    clear ka kb kl
    go_enter Tryz.func95, Tryz.ntmps95
    go_wp2_with fail
    refine (J.out _ (by (repeat (first | exact Ext.refl _ | assumption | refine Ext.alloc ?_ _ | refine Ext.drewN ?_ _ | refine Ext.drew ?_)))).mono ?_
    rintro e w1 ⟨v1, rfl, o1, y⟩
    have HX := Lib.hid y
    obtain ⟨a1, c1, rfl, i1⟩ := o1.shape
    have O1 := Lib.hid o1
    have I1 := Lib.hid i1
    have hz := HX.out.size
    clear o1 i1 y
    go_wp2_with (first
      | (go_at_call 83; with_reducible refine (sKatValid_c a ca la _ (HA.out.ext HX.out) (by omega)).mono ?_; rw [KA.out]; rintro e w' ⟨rfl, rfl⟩)
      | (go_at_call 83; with_reducible refine (sKatValid_c b cb lb _ (HB.out.ext HX.out) (by omega)).mono ?_; rw [KB.out]; rintro e w' ⟨rfl, rfl⟩)
      | (go_at_call 83; with_reducible refine (sKatValid_c a1 c1 L _ I1.out hL2).mono ?_; rw [KL.out]; rintro e w' ⟨rfl, rfl⟩))
    go_ret2
    first
      | exact RetV.yes rfl O1.out HX.out
      | exact RetV.no rfl ((OwnI.empty _ _).mono hz) (HX.out.trans (by (repeat (first | exact Ext.refl _ | assumption | refine Ext.alloc ?_ _ | refine Ext.drewN ?_ _ | refine Ext.drew ?_))))
set_option maxRecDepth 100000 in
set_option maxHeartbeats 2000000 in
theorem sKatWhile_c (t : Int) (a : Option Addr) (ca : Nat) (la : List Int) (w : World) (ha : IntsAt w a la) (hla : la.length ≤ 1048576) :
    Calls Tryz.prog 114 #[.int .i64 t, .slice a la.length ca] w (RetV w (inB t 0 15 && kvB la && kvB ([t] ++ la ++ [19] ++ [21] ++ [15 - t] ++ [19])) ([t] ++ la ++ [19] ++ [21] ++ [15 - t] ++ [19])) := by
  have HA := Lib.hid ha
  clear ha
  cases kt : inB t 0 15
  · have KT := Lib.hid kt
    clear kt
    go_enter Tryz.func114, Tryz.ntmps114
    go_wp2_with fail
    refine (sTestValid_c _ _).mono ?_
    rw [KT.out]
    rintro e w' ⟨rfl, rfl⟩
    go_wp2
    go_ret2
    exact RetV.no rfl (OwnI.empty _ _) (by (repeat (first | exact Ext.refl _ | assumption | refine Ext.alloc ?_ _ | refine Ext.drewN ?_ _ | refine Ext.drew ?_)))
  · have ht15 : 0 ≤ t ∧ t ≤ 15 := by simpa [inB] using kt
    have KT := Lib.hid kt
    cases ka : kvB la
    · have KA := Lib.hid ka
      clear kt ka ht15
      go_enter Tryz.func114, Tryz.ntmps114
      go_wp2_with fail
      refine (sTestValid_c _ _).mono ?_
      rw [KT.out]
      rintro e w' ⟨rfl, rfl⟩
      go_wp2_with fail
      refine (sKatValid_c a ca la _ (HA.out.ext (by (repeat (first | exact Ext.refl _ | assumption | refine Ext.alloc ?_ _ | refine Ext.drewN ?_ _ | refine Ext.drew ?_)))) (by omega)).mono ?_
      rw [KA.out]
      rintro e w' ⟨rfl, rfl⟩
      go_wp2
      go_ret2
      exact RetV.no rfl (OwnI.empty _ _) (by (repeat (first | exact Ext.refl _ | assumption | refine Ext.alloc ?_ _ | refine Ext.drewN ?_ _ | refine Ext.drew ?_)))
    · have KA := Lib.hid ka
      obtain ⟨-, hla40⟩ := kvB_len ka
      obtain ⟨L, hL, hl⟩ := named ([t] ++ la ++ [19] ++ [21] ++ [15 - t] ++ [19])
      obtain ⟨L1, hL1, hl1⟩ := named ([t] ++ la ++ [19])
      obtain ⟨L2, hL2', hl2⟩ := named (L1 ++ [21])
      simp only [List.length_append, List.length_cons, List.length_nil] at hl hl1 hl2
      have hL2 : L.length ≤ 4194304 := by omega
      have hl1' : L1.length ≤ 50 := by omega
      have hl2' : L2.length ≤ 51 := by omega
      have hLL : Hid (L2 ++ [15 - t] ++ [19] = L) := by unfold Hid; rw [hL2'.out, hL1.out, hL.out]
      have J1 : Hid (∀ w' g, Ext w w' → IntsAt w' (some ⟨g, 0, none⟩) [t] → Calls Tryz.prog 113 #[.slice (some ⟨g, 0, none⟩) 1 1, .slice a la.length ca, .int .i64 19] w' (RetI 3 w' L1)) := fun w' g hx hi => by
        rw [hL1.out]; exact l2Join_c (some ⟨g, 0, none⟩) a 1 ca [t] la 19 w' hi (HA.out.ext hx) (by simp) hla
      have J2 : Hid (∀ w' a2 c2 g, IntsAt w' a2 L2 → IntsAt w' (some ⟨g, 0, none⟩) [15 - t] → Calls Tryz.prog 113 #[.slice a2 L2.length c2, .slice (some ⟨g, 0, none⟩) 1 1, .int .i64 19] w' (RetI 3 w' L)) := fun w' a2 c2 g hi hj => by
        rw [← hLL.out]; exact l2Join_c a2 (some ⟨g, 0, none⟩) c2 1 L2 [15 - t] 19 w' hi hj (by omega) (by simp)
      have C1 : Hid (∀ w', Calls Tryz.prog 148 #[.int .i64 t] w' fun e w'' => e = .returned (.int .i64 (15 - t)) ∧ w' = w'') := fun w' => kTestNot_s t w' ht15
      have ht0 := ht15.1
      have ht5 := ht15.2
      rw [← hL.out]
      clear kt ka hl hl1 hl2 ht15 hLL hL hL1
      cases kl : kvB L
      all_goals
        have KL := Lib.hid kl
        clear kl
        go_enter Tryz.func114, Tryz.ntmps114
        go_wp2_with fail
        refine (sTestValid_c _ _).mono ?_
        rw [KT.out]
        rintro e w' ⟨rfl, rfl⟩
        go_wp2_with fail
        refine (sKatValid_c a ca la _ (HA.out.ext (by (repeat (first | exact Ext.refl _ | assumption | refine Ext.alloc ?_ _ | refine Ext.drewN ?_ _ | refine Ext.drew ?_)))) (by omega)).mono ?_
        rw [KA.out]
        rintro e w' ⟨rfl, rfl⟩
        go_wp2_with fail
        refine (J1.out _ _ (by (repeat (first | exact Ext.refl _ | assumption | refine Ext.alloc ?_ _ | refine Ext.drewN ?_ _ | refine Ext.drew ?_))) ((OwnI.lit1 _ _ _ _ (Nat.le_refl _)).ints)).mono ?_
        rintro e w1 ⟨v1, rfl, o1, y⟩
        have hx1 := Lib.hid (Ext.trans (show Ext w _ by (repeat (first | exact Ext.refl _ | assumption | refine Ext.alloc ?_ _ | refine Ext.drewN ?_ _ | refine Ext.drew ?_))) y)
        have O1 := Lib.hid (o1.mono (B' := w.heap.size) (by simp))
        obtain ⟨a1, c1, rfl, -⟩ := o1.shape
        have hz1 := hx1.out.size
        clear o1 y
        go_wp2_with (at_builtin; refine any_append_ints (by rfl) _ _ _ rfl (w.heap.size) 3 Tryz.underlying23 infoInt _ (_) rfl (O1.out.ext (by (repeat (first | exact Ext.refl _ | assumption | refine Ext.alloc ?_ _ | refine Ext.drewN ?_ _ | refine Ext.drew ?_)))) _ _ ([21]) rfl (by first | exact (OwnI.lit1 _ _ _ _ (Nat.le_refl _)).ints | exact ((OwnI.lit1 _ _ _ _ (Nat.le_refl _)).ints).ext (by (repeat (first | exact Ext.refl _ | assumption | refine Ext.alloc ?_ _ | refine Ext.drewN ?_ _ | refine Ext.drew ?_)))) (by first | omega | (simp; omega)) (by first | omega | (simp; done) | (simp; omega)) ?_)
        intro v2 w2 o2 g2
        have hx2 := Lib.hid (Ext.row (hx1.out.trans (by (repeat (first | exact Ext.refl _ | assumption | refine Ext.alloc ?_ _ | refine Ext.drewN ?_ _ | refine Ext.drew ?_)))) g2 (fun k hk => (World.ownsRow.lt O1.out k hk).1))
        rw [← hL2'.out] at o2
        obtain ⟨a2, c2, rfl, -⟩ := o2.shape
        have O2 := Lib.hid o2
        have hz2 := hx2.out.size
        clear o2 g2
        go_wp2_with fail
        refine (C1.out _).mono ?_
        rintro e w' ⟨rfl, rfl⟩
        go_wp2_with fail
        refine (J2.out _ _ _ _ (O2.out.ints.ext (by (repeat (first | exact Ext.refl _ | assumption | refine Ext.alloc ?_ _ | refine Ext.drewN ?_ _ | refine Ext.drew ?_)))) ((OwnI.lit1 _ _ _ _ (Nat.le_refl _)).ints)).mono ?_
        rintro e w3 ⟨v3, rfl, o3, y⟩
        have hx3 := Lib.hid (hx2.out.trans (Ext.trans (by (repeat (first | exact Ext.refl _ | assumption | refine Ext.alloc ?_ _ | refine Ext.drewN ?_ _ | refine Ext.drew ?_))) y))
        have O3 := Lib.hid (o3.mono (B' := w.heap.size) (by first | omega | (simp; omega)))
        obtain ⟨a3, c3, rfl, -⟩ := o3.shape
        have hz3 := hx3.out.size
        clear o3 y
        go_wp2_with fail
        refine (sKatValid_c a3 c3 L _ (O3.out.ints.ext (by (repeat (first | exact Ext.refl _ | assumption | refine Ext.alloc ?_ _ | refine Ext.drewN ?_ _ | refine Ext.drew ?_)))) hL2).mono ?_
        rw [KL.out]
        rintro e w' ⟨rfl, rfl⟩
        go_wp2
        go_ret2
        first
          | exact RetV.yes rfl O3.out hx3.out
          | exact RetV.no rfl ((OwnI.empty _ _).mono hz3) (hx3.out.trans (by (repeat (first | exact Ext.refl _ | assumption | refine Ext.alloc ?_ _ | refine Ext.drewN ?_ _ | refine Ext.drew ?_))))
set_option maxRecDepth 100000 in
set_option maxHeartbeats 2000000 in
theorem sKatIf_c (t : Int) (a b : Option Addr) (ca cb : Nat) (la lb : List Int) (w : World) (ha : IntsAt w a la) (hb : IntsAt w b lb) (hla : la.length ≤ 1048576) (hlb : lb.length ≤ 1048576) :
    Calls Tryz.prog 180 #[.int .i64 t, .slice a la.length ca, .slice b lb.length cb] w (RetV w (inB t 0 15 && kvB la && kvB lb && kvB (([t] ++ la ++ [19]) ++ ([15 - t] ++ lb ++ [19]) ++ [20])) (([t] ++ la ++ [19]) ++ ([15 - t] ++ lb ++ [19]) ++ [20])) := by
  have HA := Lib.hid ha
  have HB := Lib.hid hb
  clear ha hb
  cases kt : inB t 0 15
  · have KT := Lib.hid kt
    clear kt
    go_enter Tryz.func180, Tryz.ntmps180
    go_wp2_with fail
    refine (sTestValid_c _ _).mono ?_
    rw [KT.out]
    rintro e w' ⟨rfl, rfl⟩
    go_wp2
    go_ret2
    exact RetV.no rfl (OwnI.empty _ _) (by (repeat (first | exact Ext.refl _ | assumption | refine Ext.alloc ?_ _ | refine Ext.drewN ?_ _ | refine Ext.drew ?_)))
  · have ht15 : 0 ≤ t ∧ t ≤ 15 := by simpa [inB] using kt
    have KT := Lib.hid kt
    cases ka : kvB la
    · have KA := Lib.hid ka
      clear kt ka ht15
      go_enter Tryz.func180, Tryz.ntmps180
      go_wp2_with fail
      refine (sTestValid_c _ _).mono ?_
      rw [KT.out]
      rintro e w' ⟨rfl, rfl⟩
      go_wp2_with fail
      refine (sKatValid_c a ca la _ (HA.out.ext (by (repeat (first | exact Ext.refl _ | assumption | refine Ext.alloc ?_ _ | refine Ext.drewN ?_ _ | refine Ext.drew ?_)))) (by omega)).mono ?_
      rw [KA.out]
      rintro e w' ⟨rfl, rfl⟩
      go_wp2
      go_ret2
      exact RetV.no rfl (OwnI.empty _ _) (by (repeat (first | exact Ext.refl _ | assumption | refine Ext.alloc ?_ _ | refine Ext.drewN ?_ _ | refine Ext.drew ?_)))
    · have KA := Lib.hid ka
      obtain ⟨-, hla40⟩ := kvB_len ka
      cases kb : kvB lb
      · have KB := Lib.hid kb
        clear kt ka kb ht15
        go_enter Tryz.func180, Tryz.ntmps180
        go_wp2_with fail
        refine (sTestValid_c _ _).mono ?_
        rw [KT.out]
        rintro e w' ⟨rfl, rfl⟩
        go_wp2_with fail
        refine (sKatValid_c a ca la _ (HA.out.ext (by (repeat (first | exact Ext.refl _ | assumption | refine Ext.alloc ?_ _ | refine Ext.drewN ?_ _ | refine Ext.drew ?_)))) (by omega)).mono ?_
        rw [KA.out]
        rintro e w' ⟨rfl, rfl⟩
        go_wp2_with fail
        refine (sKatValid_c b cb lb _ (HB.out.ext (by (repeat (first | exact Ext.refl _ | assumption | refine Ext.alloc ?_ _ | refine Ext.drewN ?_ _ | refine Ext.drew ?_)))) (by omega)).mono ?_
        rw [KB.out]
        rintro e w' ⟨rfl, rfl⟩
        go_wp2
        go_ret2
        exact RetV.no rfl (OwnI.empty _ _) (by (repeat (first | exact Ext.refl _ | assumption | refine Ext.alloc ?_ _ | refine Ext.drewN ?_ _ | refine Ext.drew ?_)))
      · have KB := Lib.hid kb
        obtain ⟨-, hlb40⟩ := kvB_len kb
        obtain ⟨L, hL, hl⟩ := named (([t] ++ la ++ [19]) ++ ([15 - t] ++ lb ++ [19]) ++ [20])
        obtain ⟨L1, hL1, hl1⟩ := named ([t] ++ la ++ [19])
        obtain ⟨L2, hL2', hl2⟩ := named ([15 - t] ++ lb ++ [19])
        simp only [List.length_append, List.length_cons, List.length_nil] at hl hl1 hl2
        have hL2 : L.length ≤ 4194304 := by omega
        have hl1' : L1.length ≤ 50 := by omega
        have hl2' : L2.length ≤ 50 := by omega
        have hLL : Hid (L1 ++ L2 ++ [20] = L) := by unfold Hid; rw [hL2'.out, hL1.out, hL.out]
        have J1 : Hid (∀ w' g, Ext w w' → IntsAt w' (some ⟨g, 0, none⟩) [t] → Calls Tryz.prog 113 #[.slice (some ⟨g, 0, none⟩) 1 1, .slice a la.length ca, .int .i64 19] w' (RetI 3 w' L1)) := fun w' g hx hi => by
          rw [hL1.out]; exact l2Join_c (some ⟨g, 0, none⟩) a 1 ca [t] la 19 w' hi (HA.out.ext hx) (by simp) hla
        have J2 : Hid (∀ w' g, Ext w w' → IntsAt w' (some ⟨g, 0, none⟩) [15 - t] → Calls Tryz.prog 113 #[.slice (some ⟨g, 0, none⟩) 1 1, .slice b lb.length cb, .int .i64 19] w' (RetI 3 w' L2)) := fun w' g hx hi => by
          rw [hL2'.out]; exact l2Join_c (some ⟨g, 0, none⟩) b 1 cb [15 - t] lb 19 w' hi (HB.out.ext hx) (by simp) hlb
        have J3 : Hid (∀ w' a1 c1 a2 c2, IntsAt w' a1 L1 → IntsAt w' a2 L2 → Calls Tryz.prog 113 #[.slice a1 L1.length c1, .slice a2 L2.length c2, .int .i64 20] w' (RetI 3 w' L)) := fun w' a1 c1 a2 c2 hi hj => by
          rw [← hLL.out]; exact l2Join_c a1 a2 c1 c2 L1 L2 20 w' hi hj (by omega) (by omega)
        have C1 : Hid (∀ w', Calls Tryz.prog 148 #[.int .i64 t] w' fun e w'' => e = .returned (.int .i64 (15 - t)) ∧ w' = w'') := fun w' => kTestNot_s t w' ht15
        have ht0 := ht15.1
        have ht5 := ht15.2
        rw [← hL.out]
        clear kt ka kb hl hl1 hl2 ht15 hLL hL hL1 hL2'
        cases kl : kvB L
        all_goals
          have KL := Lib.hid kl
          clear kl
          go_enter Tryz.func180, Tryz.ntmps180
          go_wp2_with fail
          refine (sTestValid_c _ _).mono ?_
          rw [KT.out]
          rintro e w' ⟨rfl, rfl⟩
          go_wp2_with fail
          refine (sKatValid_c a ca la _ (HA.out.ext (by (repeat (first | exact Ext.refl _ | assumption | refine Ext.alloc ?_ _ | refine Ext.drewN ?_ _ | refine Ext.drew ?_)))) (by omega)).mono ?_
          rw [KA.out]
          rintro e w' ⟨rfl, rfl⟩
          go_wp2_with fail
          refine (sKatValid_c b cb lb _ (HB.out.ext (by (repeat (first | exact Ext.refl _ | assumption | refine Ext.alloc ?_ _ | refine Ext.drewN ?_ _ | refine Ext.drew ?_)))) (by omega)).mono ?_
          rw [KB.out]
          rintro e w' ⟨rfl, rfl⟩
          go_wp2_with fail
          refine (J1.out _ _ (by (repeat (first | exact Ext.refl _ | assumption | refine Ext.alloc ?_ _ | refine Ext.drewN ?_ _ | refine Ext.drew ?_))) ((OwnI.lit1 _ _ _ _ (Nat.le_refl _)).ints)).mono ?_
          rintro e w1 ⟨v1, rfl, o1, y⟩
          have hx1 := Lib.hid (Ext.trans (show Ext w _ by (repeat (first | exact Ext.refl _ | assumption | refine Ext.alloc ?_ _ | refine Ext.drewN ?_ _ | refine Ext.drew ?_))) y)
          obtain ⟨a1, c1, rfl, -⟩ := o1.shape
          have O1 := Lib.hid o1.ints
          have hz1 := hx1.out.size
          clear o1 y
          go_wp2_with fail
          refine (C1.out _).mono ?_
          rintro e w' ⟨rfl, rfl⟩
          go_wp2_with fail
          refine (J2.out _ _ (hx1.out.trans (by (repeat (first | exact Ext.refl _ | assumption | refine Ext.alloc ?_ _ | refine Ext.drewN ?_ _ | refine Ext.drew ?_)))) ((OwnI.lit1 _ _ _ _ (Nat.le_refl _)).ints)).mono ?_
          rintro e w2 ⟨v2, rfl, o2, y⟩
          have hx2 := Lib.hid (hx1.out.trans (Ext.trans (by (repeat (first | exact Ext.refl _ | assumption | refine Ext.alloc ?_ _ | refine Ext.drewN ?_ _ | refine Ext.drew ?_))) y))
          have O1' := Lib.hid (O1.out.ext (Ext.trans (by (repeat (first | exact Ext.refl _ | assumption | refine Ext.alloc ?_ _ | refine Ext.drewN ?_ _ | refine Ext.drew ?_))) y))
          obtain ⟨a2, c2, rfl, -⟩ := o2.shape
          have O2 := Lib.hid o2.ints
          have hz2 := hx2.out.size
          clear o2 y
          go_wp2_with fail
          refine (J3.out _ _ _ _ _ (O1'.out.ext (by (repeat (first | exact Ext.refl _ | assumption | refine Ext.alloc ?_ _ | refine Ext.drewN ?_ _ | refine Ext.drew ?_)))) (O2.out.ext (by (repeat (first | exact Ext.refl _ | assumption | refine Ext.alloc ?_ _ | refine Ext.drewN ?_ _ | refine Ext.drew ?_))))).mono ?_
          rintro e w3 ⟨v3, rfl, o3, y⟩
          have hx3 := Lib.hid (hx2.out.trans (Ext.trans (by (repeat (first | exact Ext.refl _ | assumption | refine Ext.alloc ?_ _ | refine Ext.drewN ?_ _ | refine Ext.drew ?_))) y))
          have O3 := Lib.hid (o3.mono (B' := w.heap.size) (by first | omega | (simp; omega)))
          obtain ⟨a3, c3, rfl, -⟩ := o3.shape
          have hz3 := hx3.out.size
          clear o3 y
          go_wp2_with fail
          refine (sKatValid_c a3 c3 L _ (O3.out.ints.ext (by (repeat (first | exact Ext.refl _ | assumption | refine Ext.alloc ?_ _ | refine Ext.drewN ?_ _ | refine Ext.drew ?_)))) hL2).mono ?_
          rw [KL.out]
          rintro e w' ⟨rfl, rfl⟩
          go_wp2
          go_ret2
          first
            | exact RetV.yes rfl O3.out hx3.out
            | exact RetV.no rfl ((OwnI.empty _ _).mono hz3) (hx3.out.trans (by (repeat (first | exact Ext.refl _ | assumption | refine Ext.alloc ?_ _ | refine Ext.drewN ?_ _ | refine Ext.drew ?_))))
end Go.Proofs.YtlaamecfknkmlaaGreat
