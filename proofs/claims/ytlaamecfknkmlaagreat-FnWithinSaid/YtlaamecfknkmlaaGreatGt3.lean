/- Merged texts: contracts and plain lemmas (Ca, Cb, Jn, D, E, J, R, Rh, S, T, U, Wd). -/
import Derived.Test.YtlaamecfknkmlaaGreatGt2
import Derived.Test.YtlaamecfknkmlaaGreatGt1
import Derived.Deep.RegionLaw
import Derived.StillTailTactics
import Derived.RegionTactic
import Derived.Deep.RegionHeld3
import Derived.IntWalk
import Derived.BigQuiet
namespace Go.Proofs.YtlaamecfknkmlaaGreat
set_option linter.unusedVariables false
open Go.RowKit Go.Kt

end Go.Proofs.YtlaamecfknkmlaaGreat
namespace Go.Proofs.YtlaamecfknkmlaaGreat
set_option linter.unusedVariables false
open Go.RowKit Go.Kt

end Go.Proofs.YtlaamecfknkmlaaGreat
namespace Go.Proofs.YtlaamecfknkmlaaGreat
set_option linter.unusedVariables false
open Go.RowKit Go.Kt

theorem kTestNot_s (t : Int) (w : World) (h : 0 ≤ t ∧ t ≤ 15) : Calls Tryz.prog 148 #[.int .i64 t] w fun e w' => e = .returned (.int .i64 (15 - t)) ∧ w = w' := by
  have h0 := h.1
  have h1 := h.2
  have hv : inB t 0 15 = true := by simp [inB]; omega
  clear h
  go_enter Tryz.func148, Tryz.ntmps148
  go_wp2_with fail
  refine (sTestValid_c _ _).mono ?_
  rw [hv]
  rintro e w' ⟨rfl, rfl⟩
  go_wp2
  go_ret
  exact ⟨rfl, rfl⟩
theorem named (l : List Int) : ∃ L : List Int, Hid (L = l) ∧ L.length = l.length := ⟨l, rfl, rfl⟩
theorem l2Join_c (a b : Option Addr) (ca cb : Nat) (la lb : List Int) (s : Int) (w : World) (ha : IntsAt w a la) (hb : IntsAt w b lb) (hla : la.length ≤ 1048576) (hlb : lb.length ≤ 1048576) :
    Calls Tryz.prog 113 #[.slice a la.length ca, .slice b lb.length cb, .int .i64 s] w (RetI 3 w (la ++ lb ++ [s])) := by
  have HA := Lib.hid ha
  have HB := Lib.hid hb
  clear ha hb
  go_enter Tryz.func113, Tryz.ntmps113
  go_wp2_with (at_builtin; refine any_append_ints (by rfl) _ _ _ rfl (w.heap.size) 3 Tryz.underlying23 infoInt _ ([]) rfl (by first | exact OwnI.empty _ _ | exact (OwnI.empty _ _).ext (by (repeat (first | exact Ext.refl _ | assumption | refine Ext.alloc ?_ _ | refine Ext.drewN ?_ _ | refine Ext.drew ?_)))) _ _ (la) rfl (HA.out.ext (by (repeat (first | exact Ext.refl _ | assumption | refine Ext.alloc ?_ _ | refine Ext.drewN ?_ _ | refine Ext.drew ?_)))) (by first | omega | (simp; omega)) (by first | omega | (simp; done) | (simp; omega)) ?_)
  intro v1 w1 o1 g1
  have hx1 := Lib.hid (Ext.rowOf (w0 := w) (show Ext w _ by (repeat (first | exact Ext.refl _ | assumption | refine Ext.alloc ?_ _ | refine Ext.drewN ?_ _ | refine Ext.drew ?_))) g1 (Nat.le_refl _))
  obtain ⟨a1, c1, rfl, -⟩ := o1.shape
  have O1 := Lib.hid o1
  have hz1 := hx1.out.size
  clear o1 g1
  go_wp2_with (at_builtin; refine any_append_ints (by rfl) _ _ _ rfl (w.heap.size) 3 Tryz.underlying23 infoInt _ (_) rfl (O1.out.ext (by (repeat (first | exact Ext.refl _ | assumption | refine Ext.alloc ?_ _ | refine Ext.drewN ?_ _ | refine Ext.drew ?_)))) _ _ (lb) rfl (HB.out.ext (by first | exact hx1.out | exact hx1.out.trans (by (repeat (first | exact Ext.refl _ | assumption | refine Ext.alloc ?_ _ | refine Ext.drewN ?_ _ | refine Ext.drew ?_))))) (by first | omega | (simp; omega)) (by first | omega | (simp; done) | (simp; omega)) ?_)
  intro v2 w2 o2 g2
  have hx2 := Lib.hid (Ext.row (hx1.out.trans (by (repeat (first | exact Ext.refl _ | assumption | refine Ext.alloc ?_ _ | refine Ext.drewN ?_ _ | refine Ext.drew ?_)))) g2 (fun k hk => (World.ownsRow.lt O1.out k hk).1))
  obtain ⟨L2, hL2, hl2⟩ := named (la ++ lb)
  rw [← hL2.out] at o2
  rw [List.length_append] at hl2
  have hl2' : L2.length ≤ 2097152 := by omega
  clear hl2
  obtain ⟨a2, c2, rfl, -⟩ := o2.shape
  have O2 := Lib.hid o2
  have hz2 := hx2.out.size
  clear o2 g2
  go_wp2_with (at_builtin; refine any_append_ints (by rfl) _ _ _ rfl (w.heap.size) 3 Tryz.underlying23 infoInt _ (_) rfl (O2.out.ext (by (repeat (first | exact Ext.refl _ | assumption | refine Ext.alloc ?_ _ | refine Ext.drewN ?_ _ | refine Ext.drew ?_)))) _ _ ([s]) rfl (by first | exact (OwnI.lit1 _ _ _ _ (Nat.le_refl _)).ints | exact ((OwnI.lit1 _ _ _ _ (Nat.le_refl _)).ints).ext (by (repeat (first | exact Ext.refl _ | assumption | refine Ext.alloc ?_ _ | refine Ext.drewN ?_ _ | refine Ext.drew ?_)))) (by first | omega | (simp; omega)) (by first | omega | (simp; done) | (simp; omega)) ?_)
  intro v3 w3 o3 g3
  have hx3 := Lib.hid (Ext.row (hx2.out.trans (by (repeat (first | exact Ext.refl _ | assumption | refine Ext.alloc ?_ _ | refine Ext.drewN ?_ _ | refine Ext.drew ?_)))) g3 (fun k hk => (World.ownsRow.lt O2.out k hk).1))
  obtain ⟨L3, hL3, -⟩ := named (L2 ++ [s])
  rw [← hL3.out] at o3
  obtain ⟨a3, c3, rfl, -⟩ := o3.shape
  have O3 := Lib.hid o3
  clear o3 g3
  go_wp2
  go_ret
  exact ⟨_, rfl, by rw [← hL2.out, ← hL3.out]; exact O3.out, hx3.out.trans (by (repeat (first | exact Ext.refl _ | assumption | refine Ext.alloc ?_ _ | refine Ext.drewN ?_ _ | refine Ext.drew ?_)))⟩
/-- What a call that makes an expression, and a truth, comes to. -/
def RetIB (w : World) (l : List Int) (ok : Bool) (e : Ending) (w' : World) : Prop := ∃ v, e = .returned (.tuple #[v, .bool ok]) ∧ OwnI w' w.heap.size 3 v l ∧ Ext w w'
/-- An expression, and whether it is valid; no expression if it is not. -/
def keepL (b : Bool) (l : List Int) : List Int := if b then l else []
def RetV (w : World) (b : Bool) (l : List Int) (e : Ending) (w' : World) : Prop := RetIB w (keepL b l) b e w'
theorem RetV.yes {w w' : World} {l : List Int} {e : Ending} {v : Value} (he : e = .returned (.tuple #[v, .bool true])) (ho : OwnI w' w.heap.size 3 v l) (hx : Ext w w') : RetV w true l e w' := ⟨v, he, ho, hx⟩
theorem RetV.no {w w' : World} {l : List Int} {e : Ending} {v : Value} (he : e = .returned (.tuple #[v, .bool false])) (ho : OwnI w' w.heap.size 3 v []) (hx : Ext w w') : RetV w false l e w' := ⟨v, he, ho, hx⟩
set_option maxRecDepth 100000 in
set_option maxHeartbeats 1000000 in
theorem sKatThen_c (a b : Option Addr) (ca cb : Nat) (la lb : List Int) (w : World) (ha : IntsAt w a la) (hb : IntsAt w b lb) (hla : la.length ≤ 1048576) (hlb : lb.length ≤ 1048576) :
    Calls Tryz.prog 181 #[.slice a la.length ca, .slice b lb.length cb] w (RetV w (kvB la && kvB lb && kvB (la ++ lb ++ [19])) (la ++ lb ++ [19])) := by
  have HA := Lib.hid ha
  have HB := Lib.hid hb
  clear ha hb
  obtain ⟨L, hL, hl⟩ := named (la ++ lb ++ [19])
  simp only [List.length_append, List.length_cons, List.length_nil] at hl
  have hL2 : L.length ≤ 4194304 := by omega
  have J : Hid (∀ w', Ext w w' → Calls Tryz.prog 113 #[.slice a la.length ca, .slice b lb.length cb, .int .i64 19] w' (RetI 3 w' L)) := fun w' hx => by
    rw [hL.out]; exact l2Join_c a b ca cb la lb 19 w' (HA.out.ext hx) (HB.out.ext hx) hla hlb
  rw [← hL.out]
  clear hl hL
  cases ka : kvB la
  all_goals cases kb : kvB lb
  all_goals cases kl : kvB L
  all_goals
    have KA := Lib.hid ka
    have KB := Lib.hid kb
    have KL := Lib.hid kl
    clear ka kb kl
    go_enter Tryz.func181, Tryz.ntmps181
    go_wp2_with fail
    refine (J.out _ (by (repeat (first | exact Ext.refl _ | assumption | refine Ext.alloc ?_ _ | refine Ext.drewN ?_ _ | refine Ext.drew ?_)))).mono ?_
    rintro e w1 ⟨v1, rfl, o1, y⟩
    have HX := Lib.hid y
    obtain ⟨a1, c1, rfl, i1⟩ := o1.shape
    have O1 := Lib.hid o1
    have I1 := Lib.hid i1
    have hz := HX.out.size
    clear o1 i1 y
    go_wp2_with (first
      | (go_at_call 83; with_reducible refine (sKatValid_c a ca la _ (HA.out.ext HX.out) (by omega)).mono ?_; rw [KA.out]; rintro e w' ⟨rfl, rfl⟩)
      | (go_at_call 83; with_reducible refine (sKatValid_c b cb lb _ (HB.out.ext HX.out) (by omega)).mono ?_; rw [KB.out]; rintro e w' ⟨rfl, rfl⟩)
      | (go_at_call 83; with_reducible refine (sKatValid_c a1 c1 L _ I1.out hL2).mono ?_; rw [KL.out]; rintro e w' ⟨rfl, rfl⟩))
    go_ret2
    first
      | exact RetV.yes rfl O1.out HX.out
      | exact RetV.no rfl ((OwnI.empty _ _).mono hz) (HX.out.trans (by (repeat (first | exact Ext.refl _ | assumption | refine Ext.alloc ?_ _ | refine Ext.drewN ?_ _ | refine Ext.drew ?_))))
set_option maxRecDepth 100000 in
set_option maxHeartbeats 1000000 in
theorem sKatPlus_c (a b : Option Addr) (ca cb : Nat) (la lb : List Int) (w : World) (ha : IntsAt w a la) (hb : IntsAt w b lb) (hla : la.length ≤ 1048576) (hlb : lb.length ≤ 1048576) :
    Calls Tryz.prog 95 #[.slice a la.length ca, .slice b lb.length cb] w (RetV w (kvB la && kvB lb && kvB (la ++ lb ++ [20])) (la ++ lb ++ [20])) := by
  have HA := Lib.hid ha
  have HB := Lib.hid hb
  clear ha hb
  obtain ⟨L, hL, hl⟩ := named (la ++ lb ++ [20])
  simp only [List.length_append, List.length_cons, List.length_nil] at hl
  have hL2 : L.length ≤ 4194304 := by omega
  have J : Hid (∀ w', Ext w w' → Calls Tryz.prog 113 #[.slice a la.length ca, .slice b lb.length cb, .int .i64 20] w' (RetI 3 w' L)) := fun w' hx => by
    rw [hL.out]; exact l2Join_c a b ca cb la lb 20 w' (HA.out.ext hx) (HB.out.ext hx) hla hlb
  rw [← hL.out]
  clear hl hL
  cases ka : kvB la
  all_goals cases kb : kvB lb
  all_goals cases kl : kvB L
  all_goals
    have KA := Lib.hid ka
    have KB := Lib.hid kb
    have KL := Lib.hid kl
    clear ka kb kl
    go_enter Tryz.func95, Tryz.ntmps95
    go_wp2_with fail
    refine (J.out _ (by (repeat (first | exact Ext.refl _ | assumption | refine Ext.alloc ?_ _ | refine Ext.drewN ?_ _ | refine Ext.drew ?_)))).mono ?_
    rintro e w1 ⟨v1, rfl, o1, y⟩
    have HX := Lib.hid y
    obtain ⟨a1, c1, rfl, i1⟩ := o1.shape
    have O1 := Lib.hid o1
    have I1 := Lib.hid i1
    have hz := HX.out.size
    clear o1 i1 y
    go_wp2_with (first
      | (go_at_call 83; with_reducible refine (sKatValid_c a ca la _ (HA.out.ext HX.out) (by omega)).mono ?_; rw [KA.out]; rintro e w' ⟨rfl, rfl⟩)
      | (go_at_call 83; with_reducible refine (sKatValid_c b cb lb _ (HB.out.ext HX.out) (by omega)).mono ?_; rw [KB.out]; rintro e w' ⟨rfl, rfl⟩)
      | (go_at_call 83; with_reducible refine (sKatValid_c a1 c1 L _ I1.out hL2).mono ?_; rw [KL.out]; rintro e w' ⟨rfl, rfl⟩))
    go_ret2
    first
      | exact RetV.yes rfl O1.out HX.out
      | exact RetV.no rfl ((OwnI.empty _ _).mono hz) (HX.out.trans (by (repeat (first | exact Ext.refl _ | assumption | refine Ext.alloc ?_ _ | refine Ext.drewN ?_ _ | refine Ext.drew ?_))))
set_option maxRecDepth 100000 in
set_option maxHeartbeats 2000000 in
theorem sKatWhile_c (t : Int) (a : Option Addr) (ca : Nat) (la : List Int) (w : World) (ha : IntsAt w a la) (hla : la.length ≤ 1048576) :
    Calls Tryz.prog 114 #[.int .i64 t, .slice a la.length ca] w (RetV w (inB t 0 15 && kvB la && kvB ([t] ++ la ++ [19] ++ [21] ++ [15 - t] ++ [19])) ([t] ++ la ++ [19] ++ [21] ++ [15 - t] ++ [19])) := by
  have HA := Lib.hid ha
  clear ha
  cases kt : inB t 0 15
  · have KT := Lib.hid kt
    clear kt
    go_enter Tryz.func114, Tryz.ntmps114
    go_wp2_with fail
    refine (sTestValid_c _ _).mono ?_
    rw [KT.out]
    rintro e w' ⟨rfl, rfl⟩
    go_wp2
    go_ret2
    exact RetV.no rfl (OwnI.empty _ _) (by (repeat (first | exact Ext.refl _ | assumption | refine Ext.alloc ?_ _ | refine Ext.drewN ?_ _ | refine Ext.drew ?_)))
  · have ht15 : 0 ≤ t ∧ t ≤ 15 := by simpa [inB] using kt
    have KT := Lib.hid kt
    cases ka : kvB la
    · have KA := Lib.hid ka
      clear kt ka ht15
      go_enter Tryz.func114, Tryz.ntmps114
      go_wp2_with fail
      refine (sTestValid_c _ _).mono ?_
      rw [KT.out]
      rintro e w' ⟨rfl, rfl⟩
      go_wp2_with fail
      refine (sKatValid_c a ca la _ (HA.out.ext (by (repeat (first | exact Ext.refl _ | assumption | refine Ext.alloc ?_ _ | refine Ext.drewN ?_ _ | refine Ext.drew ?_)))) (by omega)).mono ?_
      rw [KA.out]
      rintro e w' ⟨rfl, rfl⟩
      go_wp2
      go_ret2
      exact RetV.no rfl (OwnI.empty _ _) (by (repeat (first | exact Ext.refl _ | assumption | refine Ext.alloc ?_ _ | refine Ext.drewN ?_ _ | refine Ext.drew ?_)))
    · have KA := Lib.hid ka
      obtain ⟨-, hla40⟩ := kvB_len ka
      obtain ⟨L, hL, hl⟩ := named ([t] ++ la ++ [19] ++ [21] ++ [15 - t] ++ [19])
      obtain ⟨L1, hL1, hl1⟩ := named ([t] ++ la ++ [19])
      obtain ⟨L2, hL2', hl2⟩ := named (L1 ++ [21])
      simp only [List.length_append, List.length_cons, List.length_nil] at hl hl1 hl2
      have hL2 : L.length ≤ 4194304 := by omega
      have hl1' : L1.length ≤ 50 := by omega
      have hl2' : L2.length ≤ 51 := by omega
      have hLL : Hid (L2 ++ [15 - t] ++ [19] = L) := by unfold Hid; rw [hL2'.out, hL1.out, hL.out]
      have J1 : Hid (∀ w' g, Ext w w' → IntsAt w' (some ⟨g, 0, none⟩) [t] → Calls Tryz.prog 113 #[.slice (some ⟨g, 0, none⟩) 1 1, .slice a la.length ca, .int .i64 19] w' (RetI 3 w' L1)) := fun w' g hx hi => by
        rw [hL1.out]; exact l2Join_c (some ⟨g, 0, none⟩) a 1 ca [t] la 19 w' hi (HA.out.ext hx) (by simp) hla
      have J2 : Hid (∀ w' a2 c2 g, IntsAt w' a2 L2 → IntsAt w' (some ⟨g, 0, none⟩) [15 - t] → Calls Tryz.prog 113 #[.slice a2 L2.length c2, .slice (some ⟨g, 0, none⟩) 1 1, .int .i64 19] w' (RetI 3 w' L)) := fun w' a2 c2 g hi hj => by
        rw [← hLL.out]; exact l2Join_c a2 (some ⟨g, 0, none⟩) c2 1 L2 [15 - t] 19 w' hi hj (by omega) (by simp)
      have C1 : Hid (∀ w', Calls Tryz.prog 148 #[.int .i64 t] w' fun e w'' => e = .returned (.int .i64 (15 - t)) ∧ w' = w'') := fun w' => kTestNot_s t w' ht15
      have ht0 := ht15.1
      have ht5 := ht15.2
      rw [← hL.out]
      clear kt ka hl hl1 hl2 ht15 hLL hL hL1
      cases kl : kvB L
      all_goals
        have KL := Lib.hid kl
        clear kl
        go_enter Tryz.func114, Tryz.ntmps114
        go_wp2_with fail
        refine (sTestValid_c _ _).mono ?_
        rw [KT.out]
        rintro e w' ⟨rfl, rfl⟩
        go_wp2_with fail
        refine (sKatValid_c a ca la _ (HA.out.ext (by (repeat (first | exact Ext.refl _ | assumption | refine Ext.alloc ?_ _ | refine Ext.drewN ?_ _ | refine Ext.drew ?_)))) (by omega)).mono ?_
        rw [KA.out]
        rintro e w' ⟨rfl, rfl⟩
        go_wp2_with fail
        refine (J1.out _ _ (by (repeat (first | exact Ext.refl _ | assumption | refine Ext.alloc ?_ _ | refine Ext.drewN ?_ _ | refine Ext.drew ?_))) ((OwnI.lit1 _ _ _ _ (Nat.le_refl _)).ints)).mono ?_
        rintro e w1 ⟨v1, rfl, o1, y⟩
        have hx1 := Lib.hid (Ext.trans (show Ext w _ by (repeat (first | exact Ext.refl _ | assumption | refine Ext.alloc ?_ _ | refine Ext.drewN ?_ _ | refine Ext.drew ?_))) y)
        have O1 := Lib.hid (o1.mono (B' := w.heap.size) (by simp))
        obtain ⟨a1, c1, rfl, -⟩ := o1.shape
        have hz1 := hx1.out.size
        clear o1 y
        go_wp2_with (at_builtin; refine any_append_ints (by rfl) _ _ _ rfl (w.heap.size) 3 Tryz.underlying23 infoInt _ (_) rfl (O1.out.ext (by (repeat (first | exact Ext.refl _ | assumption | refine Ext.alloc ?_ _ | refine Ext.drewN ?_ _ | refine Ext.drew ?_)))) _ _ ([21]) rfl (by first | exact (OwnI.lit1 _ _ _ _ (Nat.le_refl _)).ints | exact ((OwnI.lit1 _ _ _ _ (Nat.le_refl _)).ints).ext (by (repeat (first | exact Ext.refl _ | assumption | refine Ext.alloc ?_ _ | refine Ext.drewN ?_ _ | refine Ext.drew ?_)))) (by first | omega | (simp; omega)) (by first | omega | (simp; done) | (simp; omega)) ?_)
        intro v2 w2 o2 g2
        have hx2 := Lib.hid (Ext.row (hx1.out.trans (by (repeat (first | exact Ext.refl _ | assumption | refine Ext.alloc ?_ _ | refine Ext.drewN ?_ _ | refine Ext.drew ?_)))) g2 (fun k hk => (World.ownsRow.lt O1.out k hk).1))
        rw [← hL2'.out] at o2
        obtain ⟨a2, c2, rfl, -⟩ := o2.shape
        have O2 := Lib.hid o2
        have hz2 := hx2.out.size
        clear o2 g2
        go_wp2_with fail
        refine (C1.out _).mono ?_
        rintro e w' ⟨rfl, rfl⟩
        go_wp2_with fail
        refine (J2.out _ _ _ _ (O2.out.ints.ext (by (repeat (first | exact Ext.refl _ | assumption | refine Ext.alloc ?_ _ | refine Ext.drewN ?_ _ | refine Ext.drew ?_)))) ((OwnI.lit1 _ _ _ _ (Nat.le_refl _)).ints)).mono ?_
        rintro e w3 ⟨v3, rfl, o3, y⟩
        have hx3 := Lib.hid (hx2.out.trans (Ext.trans (by (repeat (first | exact Ext.refl _ | assumption | refine Ext.alloc ?_ _ | refine Ext.drewN ?_ _ | refine Ext.drew ?_))) y))
        have O3 := Lib.hid (o3.mono (B' := w.heap.size) (by first | omega | (simp; omega)))
        obtain ⟨a3, c3, rfl, -⟩ := o3.shape
        have hz3 := hx3.out.size
        clear o3 y
        go_wp2_with fail
        refine (sKatValid_c a3 c3 L _ (O3.out.ints.ext (by (repeat (first | exact Ext.refl _ | assumption | refine Ext.alloc ?_ _ | refine Ext.drewN ?_ _ | refine Ext.drew ?_)))) hL2).mono ?_
        rw [KL.out]
        rintro e w' ⟨rfl, rfl⟩
        go_wp2
        go_ret2
        first
          | exact RetV.yes rfl O3.out hx3.out
          | exact RetV.no rfl ((OwnI.empty _ _).mono hz3) (hx3.out.trans (by (repeat (first | exact Ext.refl _ | assumption | refine Ext.alloc ?_ _ | refine Ext.drewN ?_ _ | refine Ext.drew ?_))))
set_option maxRecDepth 100000 in
set_option maxHeartbeats 2000000 in
theorem sKatIf_c (t : Int) (a b : Option Addr) (ca cb : Nat) (la lb : List Int) (w : World) (ha : IntsAt w a la) (hb : IntsAt w b lb) (hla : la.length ≤ 1048576) (hlb : lb.length ≤ 1048576) :
    Calls Tryz.prog 180 #[.int .i64 t, .slice a la.length ca, .slice b lb.length cb] w (RetV w (inB t 0 15 && kvB la && kvB lb && kvB (([t] ++ la ++ [19]) ++ ([15 - t] ++ lb ++ [19]) ++ [20])) (([t] ++ la ++ [19]) ++ ([15 - t] ++ lb ++ [19]) ++ [20])) := by
  have HA := Lib.hid ha
  have HB := Lib.hid hb
  clear ha hb
  cases kt : inB t 0 15
  · have KT := Lib.hid kt
    clear kt
    go_enter Tryz.func180, Tryz.ntmps180
    go_wp2_with fail
    refine (sTestValid_c _ _).mono ?_
    rw [KT.out]
    rintro e w' ⟨rfl, rfl⟩
    go_wp2
    go_ret2
    exact RetV.no rfl (OwnI.empty _ _) (by (repeat (first | exact Ext.refl _ | assumption | refine Ext.alloc ?_ _ | refine Ext.drewN ?_ _ | refine Ext.drew ?_)))
  · have ht15 : 0 ≤ t ∧ t ≤ 15 := by simpa [inB] using kt
    have KT := Lib.hid kt
    cases ka : kvB la
    · have KA := Lib.hid ka
      clear kt ka ht15
      go_enter Tryz.func180, Tryz.ntmps180
      go_wp2_with fail
      refine (sTestValid_c _ _).mono ?_
      rw [KT.out]
      rintro e w' ⟨rfl, rfl⟩
      go_wp2_with fail
      refine (sKatValid_c a ca la _ (HA.out.ext (by (repeat (first | exact Ext.refl _ | assumption | refine Ext.alloc ?_ _ | refine Ext.drewN ?_ _ | refine Ext.drew ?_)))) (by omega)).mono ?_
      rw [KA.out]
      rintro e w' ⟨rfl, rfl⟩
      go_wp2
      go_ret2
      exact RetV.no rfl (OwnI.empty _ _) (by (repeat (first | exact Ext.refl _ | assumption | refine Ext.alloc ?_ _ | refine Ext.drewN ?_ _ | refine Ext.drew ?_)))
    · have KA := Lib.hid ka
      obtain ⟨-, hla40⟩ := kvB_len ka
      cases kb : kvB lb
      · have KB := Lib.hid kb
        clear kt ka kb ht15
        go_enter Tryz.func180, Tryz.ntmps180
        go_wp2_with fail
        refine (sTestValid_c _ _).mono ?_
        rw [KT.out]
        rintro e w' ⟨rfl, rfl⟩
        go_wp2_with fail
        refine (sKatValid_c a ca la _ (HA.out.ext (by (repeat (first | exact Ext.refl _ | assumption | refine Ext.alloc ?_ _ | refine Ext.drewN ?_ _ | refine Ext.drew ?_)))) (by omega)).mono ?_
        rw [KA.out]
        rintro e w' ⟨rfl, rfl⟩
        go_wp2_with fail
        refine (sKatValid_c b cb lb _ (HB.out.ext (by (repeat (first | exact Ext.refl _ | assumption | refine Ext.alloc ?_ _ | refine Ext.drewN ?_ _ | refine Ext.drew ?_)))) (by omega)).mono ?_
        rw [KB.out]
        rintro e w' ⟨rfl, rfl⟩
        go_wp2
        go_ret2
        exact RetV.no rfl (OwnI.empty _ _) (by (repeat (first | exact Ext.refl _ | assumption | refine Ext.alloc ?_ _ | refine Ext.drewN ?_ _ | refine Ext.drew ?_)))
      · have KB := Lib.hid kb
        obtain ⟨-, hlb40⟩ := kvB_len kb
        obtain ⟨L, hL, hl⟩ := named (([t] ++ la ++ [19]) ++ ([15 - t] ++ lb ++ [19]) ++ [20])
        obtain ⟨L1, hL1, hl1⟩ := named ([t] ++ la ++ [19])
        obtain ⟨L2, hL2', hl2⟩ := named ([15 - t] ++ lb ++ [19])
        simp only [List.length_append, List.length_cons, List.length_nil] at hl hl1 hl2
        have hL2 : L.length ≤ 4194304 := by omega
        have hl1' : L1.length ≤ 50 := by omega
        have hl2' : L2.length ≤ 50 := by omega
        have hLL : Hid (L1 ++ L2 ++ [20] = L) := by unfold Hid; rw [hL2'.out, hL1.out, hL.out]
        have J1 : Hid (∀ w' g, Ext w w' → IntsAt w' (some ⟨g, 0, none⟩) [t] → Calls Tryz.prog 113 #[.slice (some ⟨g, 0, none⟩) 1 1, .slice a la.length ca, .int .i64 19] w' (RetI 3 w' L1)) := fun w' g hx hi => by
          rw [hL1.out]; exact l2Join_c (some ⟨g, 0, none⟩) a 1 ca [t] la 19 w' hi (HA.out.ext hx) (by simp) hla
        have J2 : Hid (∀ w' g, Ext w w' → IntsAt w' (some ⟨g, 0, none⟩) [15 - t] → Calls Tryz.prog 113 #[.slice (some ⟨g, 0, none⟩) 1 1, .slice b lb.length cb, .int .i64 19] w' (RetI 3 w' L2)) := fun w' g hx hi => by
          rw [hL2'.out]; exact l2Join_c (some ⟨g, 0, none⟩) b 1 cb [15 - t] lb 19 w' hi (HB.out.ext hx) (by simp) hlb
        have J3 : Hid (∀ w' a1 c1 a2 c2, IntsAt w' a1 L1 → IntsAt w' a2 L2 → Calls Tryz.prog 113 #[.slice a1 L1.length c1, .slice a2 L2.length c2, .int .i64 20] w' (RetI 3 w' L)) := fun w' a1 c1 a2 c2 hi hj => by
          rw [← hLL.out]; exact l2Join_c a1 a2 c1 c2 L1 L2 20 w' hi hj (by omega) (by omega)
        have C1 : Hid (∀ w', Calls Tryz.prog 148 #[.int .i64 t] w' fun e w'' => e = .returned (.int .i64 (15 - t)) ∧ w' = w'') := fun w' => kTestNot_s t w' ht15
        have ht0 := ht15.1
        have ht5 := ht15.2
        rw [← hL.out]
        clear kt ka kb hl hl1 hl2 ht15 hLL hL hL1 hL2'
        cases kl : kvB L
        all_goals
          have KL := Lib.hid kl
          clear kl
          go_enter Tryz.func180, Tryz.ntmps180
          go_wp2_with fail
          refine (sTestValid_c _ _).mono ?_
          rw [KT.out]
          rintro e w' ⟨rfl, rfl⟩
          go_wp2_with fail
          refine (sKatValid_c a ca la _ (HA.out.ext (by (repeat (first | exact Ext.refl _ | assumption | refine Ext.alloc ?_ _ | refine Ext.drewN ?_ _ | refine Ext.drew ?_)))) (by omega)).mono ?_
          rw [KA.out]
          rintro e w' ⟨rfl, rfl⟩
          go_wp2_with fail
          refine (sKatValid_c b cb lb _ (HB.out.ext (by (repeat (first | exact Ext.refl _ | assumption | refine Ext.alloc ?_ _ | refine Ext.drewN ?_ _ | refine Ext.drew ?_)))) (by omega)).mono ?_
          rw [KB.out]
          rintro e w' ⟨rfl, rfl⟩
          go_wp2_with fail
          refine (J1.out _ _ (by (repeat (first | exact Ext.refl _ | assumption | refine Ext.alloc ?_ _ | refine Ext.drewN ?_ _ | refine Ext.drew ?_))) ((OwnI.lit1 _ _ _ _ (Nat.le_refl _)).ints)).mono ?_
          rintro e w1 ⟨v1, rfl, o1, y⟩
          have hx1 := Lib.hid (Ext.trans (show Ext w _ by (repeat (first | exact Ext.refl _ | assumption | refine Ext.alloc ?_ _ | refine Ext.drewN ?_ _ | refine Ext.drew ?_))) y)
          obtain ⟨a1, c1, rfl, -⟩ := o1.shape
          have O1 := Lib.hid o1.ints
          have hz1 := hx1.out.size
          clear o1 y
          go_wp2_with fail
          refine (C1.out _).mono ?_
          rintro e w' ⟨rfl, rfl⟩
          go_wp2_with fail
          refine (J2.out _ _ (hx1.out.trans (by (repeat (first | exact Ext.refl _ | assumption | refine Ext.alloc ?_ _ | refine Ext.drewN ?_ _ | refine Ext.drew ?_)))) ((OwnI.lit1 _ _ _ _ (Nat.le_refl _)).ints)).mono ?_
          rintro e w2 ⟨v2, rfl, o2, y⟩
          have hx2 := Lib.hid (hx1.out.trans (Ext.trans (by (repeat (first | exact Ext.refl _ | assumption | refine Ext.alloc ?_ _ | refine Ext.drewN ?_ _ | refine Ext.drew ?_))) y))
          have O1' := Lib.hid (O1.out.ext (Ext.trans (by (repeat (first | exact Ext.refl _ | assumption | refine Ext.alloc ?_ _ | refine Ext.drewN ?_ _ | refine Ext.drew ?_))) y))
          obtain ⟨a2, c2, rfl, -⟩ := o2.shape
          have O2 := Lib.hid o2.ints
          have hz2 := hx2.out.size
          clear o2 y
          go_wp2_with fail
          refine (J3.out _ _ _ _ _ (O1'.out.ext (by (repeat (first | exact Ext.refl _ | assumption | refine Ext.alloc ?_ _ | refine Ext.drewN ?_ _ | refine Ext.drew ?_)))) (O2.out.ext (by (repeat (first | exact Ext.refl _ | assumption | refine Ext.alloc ?_ _ | refine Ext.drewN ?_ _ | refine Ext.drew ?_))))).mono ?_
          rintro e w3 ⟨v3, rfl, o3, y⟩
          have hx3 := Lib.hid (hx2.out.trans (Ext.trans (by (repeat (first | exact Ext.refl _ | assumption | refine Ext.alloc ?_ _ | refine Ext.drewN ?_ _ | refine Ext.drew ?_))) y))
          have O3 := Lib.hid (o3.mono (B' := w.heap.size) (by first | omega | (simp; omega)))
          obtain ⟨a3, c3, rfl, -⟩ := o3.shape
          have hz3 := hx3.out.size
          clear o3 y
          go_wp2_with fail
          refine (sKatValid_c a3 c3 L _ (O3.out.ints.ext (by (repeat (first | exact Ext.refl _ | assumption | refine Ext.alloc ?_ _ | refine Ext.drewN ?_ _ | refine Ext.drew ?_)))) hL2).mono ?_
          rw [KL.out]
          rintro e w' ⟨rfl, rfl⟩
          go_wp2
          go_ret2
          first
            | exact RetV.yes rfl O3.out hx3.out
            | exact RetV.no rfl ((OwnI.empty _ _).mono hz3) (hx3.out.trans (by (repeat (first | exact Ext.refl _ | assumption | refine Ext.alloc ?_ _ | refine Ext.drewN ?_ _ | refine Ext.drew ?_))))
end Go.Proofs.YtlaamecfknkmlaaGreat
namespace Go.Proofs.YtlaamecfknkmlaaGreat
set_option linter.unusedVariables false
open Go.RowKit Go.Kt

end Go.Proofs.YtlaamecfknkmlaaGreat
namespace Go.Proofs.YtlaamecfknkmlaaGreat
set_option linter.unusedVariables false
open Go.RowKit Go.Kt

end Go.Proofs.YtlaamecfknkmlaaGreat

namespace Go.Proofs.YtlaamecfknkmlaaGreat
set_option linter.unusedVariables false
open Go.RowKit Go.Kt

/-- The block g is a reader over bytes that lie in an older block; it has picked at most m times. -/
structure Rd (w : World) (g m : Nat) : Prop where
  pos : ∃ p : Nat, p ≤ m ∧ w.cell? ⟨g, 1, none⟩ = some (.int .i64 p)
  src : ∃ a cap l b off, w.cell? ⟨g, 0, none⟩ = some (.slice a l.length cap) ∧ l.length ≤ 2000 ∧ (0 < l.length → a = some ⟨b, off, none⟩ ∧ b < g) ∧
    ∀ i, i < l.length → w.cell? ⟨b, off + i, none⟩ = some (.int .u8 (nth l i)) ∧ 0 ≤ nth l i ∧ nth l i ≤ 255
  thaw : Thawed w g
theorem Rd.lt {w : World} {g m : Nat} (h : Rd w g m) : g < w.heap.size := h.thaw.1
theorem Rd.ext {w w' : World} {g m : Nat} (h : Rd w g m) (e : Ext w w') : Rd w' g m := by
  have hg := h.lt
  obtain ⟨p, hp, hc⟩ := h.pos
  obtain ⟨a, cap, l, b, off, h1, h2, h3, h4⟩ := h.src
  exact ⟨⟨p, hp, e.cell' hc hg⟩, ⟨a, cap, l, b, off, e.cell' h1 hg, h2, h3, fun i hi => ⟨e.cell' (h4 i hi).1 (by have := (h3 (by omega)).2; omega), (h4 i hi).2⟩⟩, h.thaw.ext e⟩
theorem Rd.mono {w : World} {g m m' : Nat} (h : Rd w g m) (hm : m ≤ m') : Rd w g m' := by
  obtain ⟨p, hp, hc⟩ := h.pos
  exact ⟨⟨p, by omega, hc⟩, h.src, h.thaw⟩
/-- Blocks behind the reader, or older ones than its bytes, may turn. -/
theorem Rd.untouched {w w' : World} {g m B T : Nat} (h : Rd w g m) (t : Touched w w' B T) (hg : g < B) : Rd w' g m := by
  have hl := h.lt
  have cc : ∀ b o v, b ≤ g → w.cell? ⟨b, o, none⟩ = some v → w'.cell? ⟨b, o, none⟩ = some v := fun b o v hb hv =>
    (World.cell?_of_block (a := ⟨b, o, none⟩) (t.block b (by omega) (.inl (by omega)))).trans hv
  obtain ⟨p, hp, hc⟩ := h.pos
  obtain ⟨a, cap, l, b, off, h1, h2, h3, h4⟩ := h.src
  exact ⟨⟨p, hp, cc _ _ _ (Nat.le_refl _) hc⟩, ⟨a, cap, l, b, off, cc _ _ _ (Nat.le_refl _) h1, h2, h3, fun i hi => ⟨cc _ _ _ (by have := (h3 (by omega)).2; omega) (h4 i hi).1, (h4 i hi).2⟩⟩, h.thaw.untouched t (.inl hg)⟩
/-- The count is set. -/
theorem Rd.set {w : World} {g m : Nat} (h : Rd w g m) (p m' : Nat) (hp : p ≤ m') : Rd (w.setCell ⟨g, 1, none⟩ (.int .i64 p)) g m' := by
  obtain ⟨p0, hp0, hc⟩ := h.pos
  obtain ⟨a, cap, l, b, off, h1, h2, h3, h4⟩ := h.src
  refine ⟨⟨p, hp, by simp [go_sem, hc]⟩, ⟨a, cap, l, b, off, by simp [go_sem, h1], h2, h3, fun i hi => ⟨?_, (h4 i hi).2⟩⟩, h.thaw.setCell _ _⟩
  have := (h3 (by omega)).2
  simp [go_sem, (h4 i hi).1]
/-- What a draw of a number comes to. -/
def Drew (w : World) (g m : Nat) (n : Int) (e : Ending) (w' : World) : Prop :=
  ∃ x : Nat, e = .returned (.int .i64 x) ∧ ((x : Int) < n ∨ (n < 1 ∧ x = 0)) ∧ Rd w' g (m + 1) ∧ Touched w w' g (g + 1)

set_option maxHeartbeats 1000000 in
theorem pick_c (g m : Nat) (n : Int) (w : World) (h : Rd w g m) (hm : m ≤ 1000000) :
    Calls Tryz.prog 54 #[.pointer (some ⟨g, 0, none⟩), .int .i64 n] w (Drew w g m n) := by
  have H := Lib.hid h
  obtain ⟨p, hp, hc⟩ := h.pos
  obtain ⟨a, cap, l, b, off, h1, h2, h3, h4⟩ := h.src
  have hg := h.lt
  have hf := h.thaw.2 1
  have H3 := Lib.hid h3
  have H4 := Lib.hid h4
  have HD : Hid (Rd (w.setCell ⟨g, 1, none⟩ (.int .i64 ((p + 1 : Nat) : Int))) g (m + 1) ∧ Touched w (w.setCell ⟨g, 1, none⟩ (.int .i64 ((p + 1 : Nat) : Int))) g (g + 1)) := ⟨h.set _ _ (by omega), Touched.setCell _ _ _⟩
  have hcast : (((p + 1 : Nat)) : Int) = (p : Int) + 1 := by omega
  rw [hcast] at HD
  clear h h3 h4 hcast
  by_cases hn : n < 1
  · go_enter Tryz.func54, Tryz.ntmps54
    go_wp2
    go_ret
    exact ⟨0, rfl, .inr ⟨hn, rfl⟩, HD.out.1, HD.out.2⟩
  · by_cases hl : l.length = 0
    · go_enter Tryz.func54, Tryz.ntmps54
      go_wp2
      go_ret
      exact ⟨0, rfl, .inl (by omega), HD.out.1, HD.out.2⟩
    · obtain ⟨N, rfl⟩ := Int.eq_ofNat_of_zero_le (show 0 ≤ n by omega)
      have hN : 0 < N := by omega
      obtain ⟨rfl, hbg⟩ := H3.out (by omega)
      have hbne : ¬ b = g := by omega
      by_cases hk : p < l.length
      · obtain ⟨hcb, hb0, hb1⟩ := H4.out p hk
        obtain ⟨B, hB⟩ := Int.eq_ofNat_of_zero_le hb0
        rw [hB] at hcb hb1
        have hB1 : B ≤ 255 := by omega
        have ht : ((B : Int)).tmod (N : Int) = ((B % N : Nat) : Int) := rfl
        have hlt : B % N < N := Nat.mod_lt _ hN
        have hN0 : ((N : Int) == 0) = false := by simp; omega
        clear hB hb0 hb1
        go_enter Tryz.func54, Tryz.ntmps54
        go_wp2
        go_ret
        exact ⟨B % N, rfl, .inl (by omega), HD.out.1, HD.out.2⟩
      · have hL : 0 < l.length := by omega
        have hL0 : ((l.length : Int) == 0) = false := by rw [beq_eq_false_iff_ne]; omega
        have hN0 : ((N : Int) == 0) = false := by simp; omega
        have hi1 : p % l.length < l.length := Nat.mod_lt _ hL
        have hi2 : (p * 7 + 3) % l.length < l.length := Nat.mod_lt _ hL
        have hq : p / l.length ≤ p := Nat.div_le_self _ _
        have e1 : ((p : Int)).tmod (l.length : Int) = ((p % l.length : Nat) : Int) := rfl
        have e2 : ((p : Int) * 7 + 3).tmod (l.length : Int) = (((p * 7 + 3) % l.length : Nat) : Int) := rfl
        have e3 : ((p : Int)).tdiv (l.length : Int) = ((p / l.length : Nat) : Int) := rfl
        obtain ⟨hc1, hb10, hb11⟩ := H4.out _ hi1
        obtain ⟨hc2, hb20, hb21⟩ := H4.out _ hi2
        obtain ⟨X1, hX1⟩ := Int.eq_ofNat_of_zero_le hb10
        obtain ⟨X2, hX2⟩ := Int.eq_ofNat_of_zero_le hb20
        rw [hX1] at hc1 hb11
        rw [hX2] at hc2 hb21
        have hx1 : X1 ≤ 255 := by omega
        have hx2 : X2 ≤ 255 := by omega
        clear hX1 hX2 hb10 hb11 hb20 hb21
        generalize p % l.length = i1 at *
        generalize (p * 7 + 3) % l.length = i2 at *
        generalize p / l.length = q at *
        have f1 : IntKind.i64.wrap ((p : Int) * 7) = (p : Int) * 7 := IntWalk.i64_in _ (by omega)
        have f2 : IntKind.i64.wrap ((p : Int) * 7 + 3) = (p : Int) * 7 + 3 := IntWalk.i64_in _ (by omega)
        have f3 : IntKind.i64.wrap ((X1 : Int) * 131) = (X1 : Int) * 131 := IntWalk.i64_in _ (by omega)
        have f4 : IntKind.i64.wrap ((X2 : Int) * 1117) = (X2 : Int) * 1117 := IntWalk.i64_in _ (by omega)
        have f5 : IntKind.i64.wrap ((X1 : Int) * 131 + (X2 : Int) * 1117) = (X1 : Int) * 131 + (X2 : Int) * 1117 := IntWalk.i64_in _ (by omega)
        have f6 : IntKind.i64.wrap ((p : Int) * 29) = (p : Int) * 29 := IntWalk.i64_in _ (by omega)
        have f7 : IntKind.i64.wrap ((X1 : Int) * 131 + (X2 : Int) * 1117 + (p : Int) * 29) = (X1 : Int) * 131 + (X2 : Int) * 1117 + (p : Int) * 29 := IntWalk.i64_in _ (by omega)
        have f8 : IntKind.i64.wrap ((q : Int) * 53) = (q : Int) * 53 := IntWalk.i64_in _ (by omega)
        obtain ⟨T, hT⟩ : ∃ T : Nat, T = X1 * 131 + X2 * 1117 + p * 29 + q * 53 := ⟨_, rfl⟩
        have f9 : IntKind.i64.wrap ((X1 : Int) * 131 + (X2 : Int) * 1117 + (p : Int) * 29 + (q : Int) * 53) = (T : Int) := by
          rw [IntWalk.i64_in _ (by omega)]; omega
        have hTb : T < 4294967296 := by omega
        have f10 : ((T : Int)).tdiv 64 = ((T / 64 : Nat) : Int) := rfl
        have hTd : T / 64 < 4294967296 := by omega
        have hY : T ^^^ (T / 64) < 4294967296 := Nat.xor_lt_two_pow (n := 32) hTb hTd
        have f11 := i64_xor T (T / 64) (by omega) (by omega)
        generalize T / 64 = T64 at *
        generalize T ^^^ T64 = Y at *
        have f12 : ((Y : Int)).tmod (N : Int) = ((Y % N : Nat) : Int) := rfl
        have hlt : Y % N < N := Nat.mod_lt _ hN
        clear hT
        go_enter Tryz.func54, Tryz.ntmps54
        go_wp2
        go_quiet (fail)
        go_wp2
        go_ret
        exact ⟨Y % N, rfl, .inl (by omega), HD.out.1.ext (by (repeat (first | exact Ext.refl _ | assumption | refine Ext.alloc ?_ _ | refine Ext.drewN ?_ _ | refine Ext.drew ?_))), HD.out.2.trans (Touched.of_ext (by (repeat (first | exact Ext.refl _ | assumption | refine Ext.alloc ?_ _ | refine Ext.drewN ?_ _ | refine Ext.drew ?_))))⟩

/-- What a draw of a truth comes to. -/
def DrewB (w : World) (g m : Nat) (e : Ending) (w' : World) : Prop := ∃ b : Bool, e = .returned (.bool b) ∧ Rd w' g (m + 1) ∧ Touched w w' g (g + 1)
theorem odd_c (g m : Nat) (n : Int) (w : World) (h : Rd w g m) (hm : m ≤ 1000000) :
    Calls Tryz.prog 146 #[.pointer (some ⟨g, 0, none⟩), .int .i64 n] w (DrewB w g m) := by
  by_cases hn : 0 < n
  · go_enter Tryz.func146, Tryz.ntmps146
    go_wp2_with fail
    refine (pick_c g m n w h hm).mono ?_
    rintro e w1 ⟨x, rfl, hx, hr, ht⟩
    by_cases hx2 : (x : Int) = n - 1
    all_goals
      go_wp2
      go_ret
      exact ⟨_, rfl, hr, ht⟩
  · go_enter Tryz.func146, Tryz.ntmps146
    go_wp2
    go_ret
    exact ⟨_, rfl, h.mono (by omega), Touched.refl _ _ _⟩

/-- What opening a reader comes to. -/
def Opened (w : World) (e : Ending) (w' : World) : Prop := ∃ g, e = .returned (.pointer (some ⟨g, 0, none⟩)) ∧ w.heap.size ≤ g ∧ Rd w' g 0 ∧ Ext w w'
theorem l20Open_c (a : Option Addr) (cap : Nat) (l : List Int) (w : World) (h : BytesAt w a l) (hlen : l.length ≤ 1048576) (hcap : l.length ≤ cap) :
    Calls Tryz.prog 51 #[.slice a l.length cap] w (Opened w) := by
  obtain ⟨b, off, h1, h2⟩ := h
  have H1 := Lib.hid h1
  have H2 := Lib.hid h2
  clear h1 h2
  by_cases hl : 2000 < l.length
  · obtain ⟨rfl, hb⟩ := H1.out (by omega)
    go_enter Tryz.func51, Tryz.ntmps51
    go_wp2
    go_ret
    refine ⟨w.heap.size, rfl, Nat.le_refl _, ?_, by (repeat (first | exact Ext.refl _ | assumption | refine Ext.alloc ?_ _ | refine Ext.drewN ?_ _ | refine Ext.drew ?_))⟩
    refine ⟨⟨0, Nat.le_refl _, by simp [go_sem]⟩, ⟨some ⟨b, off, none⟩, cap, l.take 2000, b, off, ?_, ?_, fun _ => ⟨rfl, hb⟩, fun i hi => ?_⟩, ⟨by simp, fun o => by simp [go_sem]⟩⟩
    · simp [go_sem]; omega
    · simp; omega
    · have hi2 : i < l.length := by simp at hi; omega
      have e1 : nth (l.take 2000) i = nth l i := by
        rw [nth_getElem _ _ hi, nth_getElem _ _ hi2]; simp
      rw [e1]
      exact ⟨Ext.cell' ((Ext.refl w).alloc _) (H2.out i hi2).1 hb, (H2.out i hi2).2⟩
  · go_enter Tryz.func51, Tryz.ntmps51
    go_wp2
    go_ret
    refine ⟨w.heap.size, rfl, Nat.le_refl _, ?_, by (repeat (first | exact Ext.refl _ | assumption | refine Ext.alloc ?_ _ | refine Ext.drewN ?_ _ | refine Ext.drew ?_))⟩
    refine ⟨⟨0, Nat.le_refl _, by simp [go_sem]⟩, ⟨a, cap, l, b, off, by simp [go_sem], by omega, fun h0 => H1.out h0, fun i hi => ?_⟩, ⟨by simp, fun o => by simp [go_sem]⟩⟩
    exact ⟨Ext.cell' ((Ext.refl w).alloc _) (H2.out i hi).1 (H1.out (by omega)).2, (H2.out i hi).2⟩
end Go.Proofs.YtlaamecfknkmlaaGreat
namespace Go.Proofs.YtlaamecfknkmlaaGreat
set_option linter.unusedVariables false
open Go.RowKit Go.Kt

theorem OwnI.drawn {w w' : World} {B E g : Nat} {v : Value} {l : List Int} (h : OwnI w B E v l) (t : Touched w w' g (g + 1)) (hg : g < B) : OwnI w' B E v l :=
  h.untouched t (fun g' hg' => .inr (by have := (World.ownsRow.lt h g' hg').1; omega))
theorem Touched.row {w wX w' : World} {B T : Nat} {row : Option Nat} (t : Touched w wX B T) (hg : wX.grownBy w' row) (hr : ∀ k, row = some k → w.heap.size ≤ k) : Touched w w' B T :=
  ⟨hg.os.trans t.os, hg.tape.trans t.tape, hg.output.trans t.output, Nat.le_trans t.size hg.size, fun k hk ho => (hg.block k (Nat.lt_of_lt_of_le hk t.size) (fun e => by have := hr k e.symm; omega)).trans (t.block k hk ho)⟩
theorem Rd.row {wX w' : World} {g m : Nat} {row : Option Nat} (h : Rd wX g m) (hg : wX.grownBy w' row) (hr : ∀ k, row = some k → g < k) : Rd w' g m := by
  refine h.untouched (B := g + 1) (T := wX.heap.size + w'.heap.size) ⟨hg.os, hg.tape, hg.output, hg.size, fun k hk ho => hg.block k hk (fun e => ?_)⟩ (by omega)
  have := hr k e.symm
  omega
theorem cell_lit (w : World) (xs : Array Value) (t : TypeId) (z : Nat) : (w.alloc (.cells xs t)).cell? ⟨w.heap.size, z, none⟩ = xs[z]? := by simp [go_sem]
theorem lit2 (a0 a1 : Int) (z : Nat) (hz : z < 2) : ∃ u : Int, (#[Value.int .i64 a0, Value.int .i64 a1] : Array Value)[z]? = some (.int .i64 u) := by
  rcases (show z = 0 ∨ z = 1 by omega) with rfl | rfl <;> exact ⟨_, rfl⟩
end Go.Proofs.YtlaamecfknkmlaaGreat
namespace Go.Proofs.YtlaamecfknkmlaaGreat
set_option linter.unusedVariables false
open Go.RowKit Go.Kt

/-- What drawing rows comes to. -/
def DrewRows (w : World) (g m s : Nat) (e : Ending) (w' : World) : Prop :=
  ∃ v L, e = .returned v ∧ OwnI w' w.heap.size 3 v L ∧ s ≤ L.length ∧ L.length ≤ s + 1 ∧ Rd w' g (m + 100) ∧ Touched w w' g (g + 1)
theorem DrewRows.stored {w w3 w' : World} {g m s m' gv cv : Nat} {L : List Int} {u : Int} (ho3 : OwnI w3 w.heap.size 3 (.slice (some ⟨gv, 0, none⟩) L.length cv) L) (hL : L.length = s) (hrd : Rd w3 g m') (hm : m' ≤ m + 100)
    (ht : Touched w w3 g (g + 1)) (hg : g < w.heap.size) (hgv : w.heap.size ≤ gv) (hx : Ext (w3.setCell ⟨gv, 0, none⟩ (.int .i64 u)) w') : DrewRows w g m s (.returned (.slice (some ⟨gv, 0, none⟩) s cv)) w' := by
  subst hL
  have hgr : w3.grownBy (w3.setCell ⟨gv, 0, none⟩ (.int .i64 u)) (some gv) := grown_setCell ((Ext.refl w3).grown (some gv)) rfl
  have h1 : OwnI w' w.heap.size 3 (.slice (some ⟨gv, 0, none⟩) L.length cv) (L.set 0 u) := by
    have := OwnI.ext (OwnI.set ho3 0 u) hx
    rw [List.length_set] at this
    exact this
  refine ⟨_, L.set 0 u, rfl, h1, by simp, by simp, ((Rd.row hrd hgr ?_).mono hm).ext hx, (Touched.row ht hgr ?_).trans (Touched.of_ext hx)⟩
  · intro k hk
    obtain rfl := Option.some.inj hk
    omega
  · intro k hk
    obtain rfl := Option.some.inj hk
    exact hgv
end Go.Proofs.YtlaamecfknkmlaaGreat
namespace Go.Proofs.YtlaamecfknkmlaaGreat
set_option linter.unusedVariables false
open Go.RowKit Go.Kt

end Go.Proofs.YtlaamecfknkmlaaGreat
namespace Go.Proofs.YtlaamecfknkmlaaGreat
set_option linter.unusedVariables false
open Go.RowKit Go.Kt

theorem alive_c (w : World) : Calls Tryz.prog 13 #[] w fun e w' => e = .returned (.bool true) ∧ w = w' := by
  have h1 : notF 0 = 15 := by decide
  have h2 : notF 15 = 0 := by decide
  go_enter Tryz.func13, Tryz.ntmps13
  go_wp2_with fail
  refine (iTestNot_c 0 _).mono ?_
  rw [h1]
  rintro e w1 ⟨rfl, rfl⟩
  go_wp2_with fail
  refine (iTestNot_c 15 _).mono ?_
  rw [h2]
  rintro e w1 ⟨rfl, rfl⟩
  go_wp2
  go_ret
  exact ⟨rfl, rfl⟩
end Go.Proofs.YtlaamecfknkmlaaGreat
namespace Go.Proofs.YtlaamecfknkmlaaGreat
set_option linter.unusedVariables false
open Go.RowKit Go.Kt

theorem oddN_c (g m : Nat) (n : Int) (w : World) (h : Rd w g m) (hm : m ≤ 1000000) :
    Calls Tryz.prog 146 #[.pointer (some ⟨g, 0, none⟩), .int .i64 n] w fun e w' => (n = 0 → e = .returned (.bool false)) ∧ DrewB w g m e w' := by
  by_cases hn : 0 < n
  · exact (odd_c g m n w h hm).mono fun e w' hh => ⟨fun h0 => by omega, hh⟩
  · go_enter Tryz.func146, Tryz.ntmps146
    go_wp2
    go_ret
    exact ⟨fun _ => rfl, _, rfl, h.mono (by omega), Touched.refl _ _ _⟩
theorem lit8r (a0 a1 a2 a3 a4 a5 a6 a7 : Int) (z : Nat) (hz : z < 8) (h : (0 ≤ a0 ∧ a0 ≤ 15) ∧ (0 ≤ a1 ∧ a1 ≤ 15) ∧ (0 ≤ a2 ∧ a2 ≤ 15) ∧ (0 ≤ a3 ∧ a3 ≤ 15) ∧ (0 ≤ a4 ∧ a4 ≤ 15) ∧ (0 ≤ a5 ∧ a5 ≤ 15) ∧ (0 ≤ a6 ∧ a6 ≤ 15) ∧ (0 ≤ a7 ∧ a7 ≤ 15)) :
    ∃ u : Int, (#[Value.int .i64 a0, Value.int .i64 a1, Value.int .i64 a2, Value.int .i64 a3, Value.int .i64 a4, Value.int .i64 a5, Value.int .i64 a6, Value.int .i64 a7] : Array Value)[z]? = some (.int .i64 u) ∧ 0 ≤ u ∧ u ≤ 15 := by
  obtain ⟨h0, h1, h2, h3, h4, h5, h6, h7⟩ := h
  rcases (show z = 0 ∨ z = 1 ∨ z = 2 ∨ z = 3 ∨ z = 4 ∨ z = 5 ∨ z = 6 ∨ z = 7 by omega) with rfl | rfl | rfl | rfl | rfl | rfl | rfl | rfl
  · exact ⟨_, rfl, h0⟩
  · exact ⟨_, rfl, h1⟩
  · exact ⟨_, rfl, h2⟩
  · exact ⟨_, rfl, h3⟩
  · exact ⟨_, rfl, h4⟩
  · exact ⟨_, rfl, h5⟩
  · exact ⟨_, rfl, h6⟩
  · exact ⟨_, rfl, h7⟩
/-- A valid test drawn. -/
def DrewT0 (w : World) (g m : Nat) (e : Ending) (w' : World) : Prop := ∃ t : Int, e = .returned (.int .i64 t) ∧ (0 ≤ t ∧ t ≤ 15) ∧ Rd w' g (m + 10) ∧ Touched w w' g (g + 1)
set_option maxHeartbeats 1000000 in
theorem l20Test0_c (g m : Nat) (w : World) (h : Rd w g m) (hm : m ≤ 100000) :
    Calls Tryz.prog 88 #[.pointer (some ⟨g, 0, none⟩), .int .i64 0] w (DrewT0 w g m) := by
  have hg := h.lt
  have HH := Lib.hid h
  clear h
  go_enter Tryz.func88, Tryz.ntmps88
  go_wp2_with fail
  refine (oddN_c g m 0 _ HH.out (by omega)).mono ?_
  rintro e w1 ⟨hf, b, -, hr1, ht1⟩
  obtain rfl := hf rfl
  have hz1 := ht1.size
  clear hf
  go_wp2_with fail
  refine (pick_c g _ 16 _ (hr1.ext (by (repeat (first | exact Ext.refl _ | assumption | refine Ext.alloc ?_ _ | refine Ext.drewN ?_ _ | refine Ext.drew ?_)))) (by omega)).mono ?_
  rintro e w2 ⟨x, rfl, hx, hr2, ht2⟩
  have hz2 := ht2.size
  replace ht2 := ht1.trans (Touched.trans (Touched.of_ext (by (repeat (first | exact Ext.refl _ | assumption | refine Ext.alloc ?_ _ | refine Ext.drewN ?_ _ | refine Ext.drew ?_)))) ht2)
  clear ht1 hr1
  go_wp2_with fail
  refine (pick_c g _ 16 _ (hr2.ext (by (repeat (first | exact Ext.refl _ | assumption | refine Ext.alloc ?_ _ | refine Ext.drewN ?_ _ | refine Ext.drew ?_)))) (by omega)).mono ?_
  rintro e w3 ⟨y, rfl, hy, hr3, ht3⟩
  have hz3 := ht3.size
  replace ht3 := ht2.trans (Touched.trans (Touched.of_ext (by (repeat (first | exact Ext.refl _ | assumption | refine Ext.alloc ?_ _ | refine Ext.drewN ?_ _ | refine Ext.drew ?_)))) ht3)
  clear ht2 hr2
  go_wp2_with fail
  refine (pick_c g _ 8 _ (hr3.ext (by (repeat (first | exact Ext.refl _ | assumption | refine Ext.alloc ?_ _ | refine Ext.drewN ?_ _ | refine Ext.drew ?_)))) (by omega)).mono ?_
  rintro e w4 ⟨z, rfl, hz, hr4, ht4⟩
  have hz8 : (z : Int) < 8 := by omega
  obtain ⟨u, hu, hur⟩ := lit8r 10 12 5 3 x y 15 0 z (by omega) (by omega)
  have hcz := (World.cell?_of_block (a := ⟨w3.heap.size, z, none⟩) (ht4.block w3.heap.size (by simp) (.inr (by omega)))).trans ((cell_lit w3 _ 3 z).trans hu)
  have ht5 := Lib.hid (ht3.trans (Touched.trans (Touched.of_ext (by (repeat (first | exact Ext.refl _ | assumption | refine Ext.alloc ?_ _ | refine Ext.drewN ?_ _ | refine Ext.drew ?_)))) ht4))
  have HR4 := Lib.hid hr4
  clear ht3 ht4 hu hr4 hr3
  go_wp2
  go_ret
  exact ⟨u, rfl, hur, (HR4.out.ext (by (repeat (first | exact Ext.refl _ | assumption | refine Ext.alloc ?_ _ | refine Ext.drewN ?_ _ | refine Ext.drew ?_)))).mono (by omega), ht5.out.trans (Touched.of_ext (by (repeat (first | exact Ext.refl _ | assumption | refine Ext.alloc ?_ _ | refine Ext.drewN ?_ _ | refine Ext.drew ?_))))⟩
/-- While a program is drawn: the words so far, and the reader. -/
structure WordSt (w wr : World) (g m : Nat) (v : Value) (L : List Int) : Prop where
  hg : g < w.heap.size
  own : OwnI wr w.heap.size 3 v L
  rd : Rd wr g m
  tch : Touched w wr g (g + 1)
theorem WordSt.ext {w wr w' : World} {g m : Nat} {v : Value} {L : List Int} (h : WordSt w wr g m v L) (e : Ext wr w') : WordSt w w' g m v L := ⟨h.hg, h.own.ext e, h.rd.ext e, h.tch.trans (Touched.of_ext e)⟩
theorem WordSt.mono {w wr : World} {g m m' : Nat} {v : Value} {L : List Int} (h : WordSt w wr g m v L) (e : m ≤ m') : WordSt w wr g m' v L := ⟨h.hg, h.own, h.rd.mono e, h.tch⟩
/-- A call that draws. -/
theorem WordSt.drawn {w wr wx w' : World} {g m m' : Nat} {v : Value} {L : List Int} (h : WordSt w wr g m v L) (e : Ext wr wx) (t : Touched wx w' g (g + 1)) (r : Rd w' g m') : WordSt w w' g m' v L :=
  ⟨h.hg, OwnI.drawn (h.own.ext e) t h.hg, r, h.tch.trans (Touched.trans (Touched.of_ext e) t)⟩
/-- An append to a slice of the call's own. -/
theorem WordSt.more {w wr wx w' : World} {g m : Nat} {v v' vr : Value} {L M N : List Int} (h : WordSt w wr g m v L) (e : Ext wr wx) (ho : OwnI wx w.heap.size 3 vr N) (o : OwnI w' w.heap.size 3 v' M) (hgr : wx.grownBy w' vr.ownBlock) : WordSt w w' g m v' M := by
  have hb := fun k hk' => (World.ownsRow.lt ho k hk').1
  exact ⟨h.hg, o, Rd.row (h.rd.ext e) hgr (fun k hk' => by have := hb k hk'; have := h.hg; omega), Touched.row (h.tch.trans (Touched.of_ext e)) hgr hb⟩
/-- Another slice of the call's own. -/
theorem WordSt.other {w wr wx : World} {g m : Nat} {v v' : Value} {L M : List Int} (h : WordSt w wr g m v L) (e : Ext wr wx) (o : OwnI wx w.heap.size 3 v' M) : WordSt w wx g m v' M :=
  ⟨h.hg, o, h.rd.ext e, h.tch.trans (Touched.of_ext e)⟩
theorem WordSt.shape {w wr : World} {g m : Nat} {v : Value} {L : List Int} (h : WordSt w wr g m v L) : ∃ a c, v = .slice a L.length c := by
  obtain ⟨a, c, h, _⟩ := h.own.shape
  exact ⟨a, c, h⟩
theorem OwnI.lit2 (w : World) (B E : Nat) (x y : Int) (hB : B ≤ w.heap.size) : OwnI (w.alloc (.cells #[.int .i64 x, .int .i64 y] E)) B E (.slice (some ⟨w.heap.size, 0, none⟩) 2 2) [x, y] :=
  World.ownsRow_lit (base := B) (e := E) (size := 1) w #[.int .i64 x, .int .i64 y] 2 hB (by unfold maxLen; omega) rfl
theorem namedI (l : List Int) : ∃ L : List Int, Hid (L = l) ∧ L.length = l.length := ⟨l, rfl, rfl⟩
/-- What drawing a list of numbers comes to. -/
def DrewL (w : World) (g m n : Nat) (e : Ending) (w' : World) : Prop := ∃ v L, e = .returned v ∧ OwnI w' w.heap.size 3 v L ∧ L.length ≤ n ∧ Rd w' g m ∧ Touched w w' g (g + 1)
theorem WordSt.drewL {w wr : World} {g m m' n : Nat} {v : Value} {L : List Int} (h : WordSt w wr g m v L) (hL : L.length ≤ n) (hm : m ≤ m') : DrewL w g m' n (.returned v) wr := ⟨v, L, rfl, h.own, hL, h.rd.mono hm, h.tch⟩
end Go.Proofs.YtlaamecfknkmlaaGreat
