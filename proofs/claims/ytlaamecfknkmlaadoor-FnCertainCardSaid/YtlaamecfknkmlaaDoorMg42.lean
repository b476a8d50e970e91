/- Merged texts: contracts and plain lemmas (Rg). -/
import Derived.Test.YtlaamecfknkmlaaDoorMg41
/- Contracts: the rows of an expression in a model, in the program and in the reference. -/
namespace Go.Proofs.YtlaamecfknkmlaaDoor
set_option linter.unusedVariables false
open Go.RowKit Go.Kt

/-- The tree of the steps. -/
def treeOf (l : List Int) : Kt := (runK l []).headD (.leaf 0)
theorem treeOf_words {t : Kt} (h : t.Good) : treeOf t.words = t := by unfold treeOf; rw [runK_words t h]; rfl
theorem treeOf_valid {l : List Int} (h : kvB l = true) : (treeOf l).Good ∧ (treeOf l).words = l := by
  obtain ⟨t, hg, rfl⟩ := kvB_tree h
  rw [treeOf_words hg]; exact ⟨hg, rfl⟩
/-- RowsOf. -/
def rowsF (st p q : Int) (ll : List (List Int)) (l : List Int) : List Int := if mvB st p q ll && kvB l then (treeOf l).rows p q st.toNat ll else []
theorem box_of (w : World) (st p q : Int) (v : Value) : BoxM (w.alloc (.cells #[.int .i64 st, .int .i64 p, .int .i64 q, v] 25)) w.heap.size st p q v := by simp [BoxM, go_sem]
theorem OwnI.empty1 (w : World) (o : Obj) (E : Nat) : OwnI ((w.alloc o).alloc (.cells #[] E)) (w.heap.size + 1) E (.slice (some ⟨w.heap.size + 1, 0, none⟩) 0 0) [] := by
  have := OwnI.empty (w.alloc o) E
  rw [World.size_alloc] at this; exact this
theorem BoxM.grownI {w w' : World} {b B E : Nat} {st p q : Int} {v x : Value} {l : List Int} (h : BoxM w b st p q v) (ho : OwnI w B E x l) (hg : w.grownBy w' x.ownBlock) (hb : b < B) : BoxM w' b st p q v :=
  h.untouched (Touched.of_grown (T := w.heap.size) hg (fun g e => World.ownsRow.lt ho g e)) (.inl hb)
set_option maxRecDepth 100000 in
set_option maxHeartbeats 2000000 in
theorem iRowsOf_c (st p q : Int) (a : Option Addr) (cap : Nat) (ll : List (List Int)) (b : Option Addr) (cb : Nat) (l : List Int) (w : World) (hr : RowsAt w a ll) (hlen : ll.length ≤ 4194304) (hm : ∀ i, i < ll.length → (rowI ll i).length ≤ 4194304)
    (hb : IntsAt w b l) (hlb : l.length ≤ 1048576) :
    Calls Tryd.prog 9 #[modelV st p q a ll.length cap, .slice b l.length cb] w (RetI 3 w (rowsF st p q ll l)) := by
  have HR := Lib.hid hr
  have HM := Lib.hid hm
  have HB := Lib.hid hb
  clear hr hm hb
  cases hv : mvB st p q ll
  · have HF : Hid (rowsF st p q ll l = []) := by unfold Hid rowsF; rw [hv]; rfl
    go_enter Tryd.func9, Tryd.ntmps9
    go_wp2_with fail
    refine (iModelValid_c st p q a cap ll _ (HR.out.ext (by (repeat (first | exact Ext.refl _ | assumption | refine Ext.alloc ?_ _ | refine Ext.drewN ?_ _ | refine Ext.drew ?_)))) hlen HM.out).mono ?_
    rw [hv]
    rintro e w1 ⟨rfl, hx⟩
    have hx2 := Ext.trans (by (repeat (first | exact Ext.refl _ | assumption | refine Ext.alloc ?_ _ | refine Ext.drewN ?_ _ | refine Ext.drew ?_)) : Ext w _) hx
    clear hx
    go_wp2
    go_ret
    exact ⟨_, rfl, by rw [HF.out]; exact OwnI.nil _ _ _, hx2⟩
  · cases hs : kvB l
    · have HF : Hid (rowsF st p q ll l = []) := by unfold Hid rowsF; rw [hv, hs]; rfl
      go_enter Tryd.func9, Tryd.ntmps9
      go_wp2_with fail
      refine (iModelValid_c st p q a cap ll _ (HR.out.ext (by (repeat (first | exact Ext.refl _ | assumption | refine Ext.alloc ?_ _ | refine Ext.drewN ?_ _ | refine Ext.drew ?_)))) hlen HM.out).mono ?_
      rw [hv]
      rintro e w1 ⟨rfl, hx⟩
      have hx2 := Ext.trans (by (repeat (first | exact Ext.refl _ | assumption | refine Ext.alloc ?_ _ | refine Ext.drewN ?_ _ | refine Ext.drew ?_)) : Ext w _) hx
      clear hx
      go_wp2_with (go_at_call 26; refine (iKatValid_c b cb l _ (HB.out.ext (by (repeat (first | exact Ext.refl _ | assumption | refine Ext.alloc ?_ _ | refine Ext.drewN ?_ _ | refine Ext.drew ?_)))) (by omega)).mono ?_; rw [hs]; rintro e w' ⟨rfl, rfl⟩)
      go_ret
      exact ⟨_, rfl, by rw [HF.out]; exact OwnI.nil _ _ _, hx2⟩
    · obtain ⟨sn, P, Q, rfl, rfl, rfl, b1, b2, b3, b4, b5, b6, b7, b8⟩ := mvB_bounds hv
      obtain ⟨hg, hw⟩ := treeOf_valid hs
      have HF : Hid (rowsF sn P Q ll l = (treeOf l).rows P Q sn ll) := by unfold Hid rowsF; rw [hv, hs, Int.toNat_natCast]; rfl
      have CB : Hid (∀ w', Ext w w' → Calls Tryd.prog 28 #[.slice b l.length cb] w' (RetT w' (treeOf l))) := fun w' hx => build_c b cb l (treeOf l) w' (HB.out.ext hx) hg hw hs
      have CR : Hid (∀ w' g, Ext w w' → TreeAt w' (fun _ => False) (treeOf l) g → Calls Tryd.prog 27 #[modelV sn P Q a ll.length cap, .pointer (some ⟨g, 0, none⟩)] w' (RetI 3 w' ((treeOf l).rows P Q sn ll))) := fun w' g hx ht =>
        rows_c sn P Q a cap ll b1 b2 b5 b6 b7 b8 _ hg g w' (HR.out.ext hx) ht
      have HV := Lib.hid hv
      have HS := Lib.hid hs
      clear hv hs hg hw b7 b8
      generalize treeOf l = t at *
      go_enter Tryd.func9, Tryd.ntmps9
      go_wp2_with fail
      refine (iModelValid_c _ _ _ a cap ll _ (HR.out.ext (by (repeat (first | exact Ext.refl _ | assumption | refine Ext.alloc ?_ _ | refine Ext.drewN ?_ _ | refine Ext.drew ?_)))) hlen HM.out).mono ?_
      rw [HV.out]
      rintro e w1 ⟨rfl, hx⟩
      have hx2 := Lib.hid (Ext.trans (by (repeat (first | exact Ext.refl _ | assumption | refine Ext.alloc ?_ _ | refine Ext.drewN ?_ _ | refine Ext.drew ?_)) : Ext w _) hx)
      have hb1 := (box_of w sn P Q (.slice a ll.length cap)).ext hx
      have HB1 := Lib.hid hb1
      have zb := hb1.lt
      obtain ⟨k0, k1, k2, k3⟩ := hb1.out
      clear hx hb1
      go_wp2_with (go_at_call 26; refine (iKatValid_c b cb l _ (HB.out.ext hx2.out) (by omega)).mono ?_; rw [HS.out]; rintro e w' ⟨rfl, rfl⟩)
      go_region_held3 (fun w' => w'.cell? ⟨w.heap.size, 0, none⟩ = some (.int .i64 sn) ∧ w'.cell? ⟨w.heap.size, 1, none⟩ = some (.int .i64 P) ∧ w'.cell? ⟨w.heap.size, 2, none⟩ = some (.int .i64 Q) ∧ w'.cell? ⟨w.heap.size, 3, none⟩ = some (.slice a ll.length cap))
        (first
          | go_keep
          | (have E := Ext.trans (Ext.drew (Ext.refl _)) yk; have hk1 := HB1.out.ext E; exact ⟨hk1.1, hk1.2.1, hk1.2.2.1, hk1.2.2.2⟩)
          | (have E := Ext.trans (Ext.trans (Ext.drew (Ext.refl _)) yk) yl; have hk1 := HB1.out.ext E; exact ⟨hk1.1, hk1.2.1, hk1.2.2.1, hk1.2.2.2⟩))
        ((first
          | (go_at_call 28; refine (CB.out _ (hx2.out.trans (by (repeat (first | exact Ext.refl _ | assumption | refine Ext.alloc ?_ _ | refine Ext.drewN ?_ _ | refine Ext.drew ?_))))).mono ?_; rintro e wk ⟨g, rfl, tk, yk⟩)
          | (go_at_call 27; refine (CR.out _ g (Ext.trans (hx2.out.trans (by (repeat (first | exact Ext.refl _ | assumption | refine Ext.alloc ?_ _ | refine Ext.drewN ?_ _ | refine Ext.drew ?_)))) yk) tk).mono ?_; rintro e wl ⟨vl, rfl, ol, yl⟩)))
      have HX := Lib.hid (Ext.trans (Ext.trans (hx2.out.trans (by (repeat (first | exact Ext.refl _ | assumption | refine Ext.alloc ?_ _ | refine Ext.drewN ?_ _ | refine Ext.drew ?_)))) yk) yl)
      have O1 := Lib.hid (ol.mono (B' := w.heap.size) (by have := yk.size; have := hx2.out.size; simp at *; omega))
      clear yk ol yl tk
      go_wp2
      go_ret
      exact ⟨vl, rfl, by rw [HF.out]; exact O1.out, HX.out⟩

/-! ### the reference -/
theorem rowsF_len (st p q : Int) (ll : List (List Int)) (l : List Int) : (rowsF st p q ll l).length ≤ 5 := by
  unfold rowsF
  cases hv : mvB st p q ll
  · simp
  · cases hs : kvB l
    · simp
    · obtain ⟨sn, P, Q, rfl, rfl, rfl, b1, b2, b3, b4, b5, b6, b7, b8⟩ := mvB_bounds hv
      have := (Kt.rows_rel P Q sn ll (by omega) (fun i hi => rvB_relK (b8 i hi)) _ (treeOf_valid hs).1).len
      rw [Int.toNat_natCast]
      simp [this, b2]
end Go.Proofs.YtlaamecfknkmlaaDoor
