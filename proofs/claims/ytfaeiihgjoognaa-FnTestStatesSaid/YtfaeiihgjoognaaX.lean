/- Contracts: the draws of models, tests and states. -/
import Derived.Test.YtfaeiihgjoognaaV
namespace Go.Proofs.Ytfaeiihgjoognaa
set_option linter.unusedVariables false
open Go.RowKit Go.Kt

/-- What drawing a model from bytes comes to. -/
def DrewMo (w : World) (e : Ending) (w' : World) : Prop :=
  ∃ (st : Nat) (p q : Int) (a : Option Addr) (cap : Nat) (ll : List (List Int)), e = .returned (modelV st p q a ll.length cap) ∧ st ≤ 5 ∧ RowsAt w' a ll ∧ ll.length ≤ cap ∧ ll.length ≤ 3 ∧ (∀ i, i < ll.length → (rowI ll i).length ≤ 8) ∧ Ext w w'
/-- The same, and a number more. -/
def DrewMn (w : World) (e : Ending) (w' : World) : Prop :=
  ∃ (st : Nat) (p q : Int) (a : Option Addr) (cap : Nat) (ll : List (List Int)) (t : Int), e = .returned (.tuple #[modelV st p q a ll.length cap, .int .i64 t]) ∧ st ≤ 5 ∧ RowsAt w' a ll ∧ ll.length ≤ cap ∧ ll.length ≤ 3 ∧ (∀ i, i < ll.length → (rowI ll i).length ≤ 8) ∧ Ext w w'
theorem drawn_rows {w w2 w' : World} {a : Option Addr} {ll : List (List Int)} (hx : Ext w w2) (hr : RowsFrom w2 (w.heap.size + 1) a ll) (t : Touched w2 w' w.heap.size (w.heap.size + 1)) : RowsAt w' a ll ∧ Ext w w' :=
  ⟨(hr.untouched t (Nat.le_refl _)).rows, t.ext hx (Nat.le_refl _)⟩
theorem box_zero (w : World) (t : TypeId) : BoxM (w.alloc (.cells #[.int .i64 0, .int .i64 0, .int .i64 0, .slice none 0 0] t)) w.heap.size 0 0 0 (.slice none 0 0) := by simp [BoxM, go_sem]
theorem box_made (w : World) (t : TypeId) (st p q : Int) (v : Value) : BoxM (w.alloc (.cells #[.int .i64 st, .int .i64 p, .int .i64 q, v] t)) w.heap.size st p q v := by simp [BoxM, go_sem]
theorem RowsAt.tail' {w : World} {g o : Nat} {ll : List (List Int)} (h : RowsAt w (some ⟨g, o, none⟩) ll) : RowsAt w (some ⟨g, o + 1, none⟩) (ll.drop 1) := by
  obtain ⟨b, off, h1, h2⟩ := h
  by_cases hl : 0 < ll.length
  · obtain ⟨he, hb⟩ := h1 hl
    obtain ⟨rfl, rfl⟩ : g = b ∧ o = off := by simpa using he
    refine ⟨g, o + 1, fun _ => ⟨rfl, hb⟩, fun i hi => ?_⟩
    have hi2 : i + 1 < ll.length := by simp at hi; omega
    obtain ⟨ai, ci, e1, e2⟩ := h2 (i + 1) hi2
    have e : rowI (ll.drop 1) i = rowI ll (i + 1) := by
      rw [rowI_getElem _ _ hi, rowI_getElem _ _ hi2]; simp
    rw [e]
    exact ⟨ai, ci, by rw [show o + 1 + i = o + (i + 1) by omega]; exact e1, e2⟩
  · exact ⟨0, 0, fun h0 => absurd h0 (by simp; omega), fun i hi => absurd hi (by simp; omega)⟩
theorem thaw_zero (w : World) (xs : Array Value) (t : TypeId) : Thawed (w.alloc (.cells xs t)) w.heap.size := ⟨by simp, fun o => by simp [go_sem]⟩
theorem cell_lit (w : World) (xs : Array Value) (t : TypeId) (z : Nat) : (w.alloc (.cells xs t)).cell? ⟨w.heap.size, z, none⟩ = xs[z]? := by simp [go_sem]
theorem drawModelValid_c (a : Option Addr) (cap : Nat) (l : List Int) (w : World) (h : BytesAt w a l) (hlen : l.length ≤ 1048576) (hcap : l.length ≤ cap) :
    Calls Try.prog 38 #[.slice a l.length cap] w (DrewMo w) := by
  go_enter Try.func38, Try.ntmps38
  go_wp2_with fail
  refine (l20Open_c a cap l _ (h.ext (by (repeat (first | exact Ext.refl _ | assumption | refine Ext.alloc ?_ _ | refine Ext.drewN ?_ _ | refine Ext.drew ?_)))) hlen hcap).mono ?_
  rintro e w1 ⟨g, rfl, hg, hr0, hx0⟩
  have hg1 := hr0.lt
  have hz0 := hx0.size
  simp only [World.size_alloc] at hz0 hg
  have hb := Lib.hid ((box_zero w 37).ext hx0)
  have ht := Lib.hid ((thaw_zero w #[.int .i64 0, .int .i64 0, .int .i64 0, .slice none 0 0] 37).ext hx0)
  have hxw := Ext.trans (show Ext w _ by (repeat (first | exact Ext.refl _ | assumption | refine Ext.alloc ?_ _ | refine Ext.drewN ?_ _ | refine Ext.drew ?_))) hx0
  clear hx0
  go_wp2_with fail
  refine (l20Model_c g 0 2 _ (hr0.ext (by (repeat (first | exact Ext.refl _ | assumption | refine Ext.alloc ?_ _ | refine Ext.drewN ?_ _ | refine Ext.drew ?_)))) (by omega)).mono ?_
  rintro e w2 ⟨st, p, q, a2, c2, ll, rfl, hst, hrw, hlc, h3, h8, -, htc⟩
  have kr := (hb.out.untouched htc (.inl (by omega))).out
  have fr := (ht.out.untouched htc (.inl (by omega))).2
  have zr := (ht.out.untouched htc (.inl (by omega))).1
  have hx2 := Lib.hid (htc.ext hxw (by omega))
  have HRW := Lib.hid (hrw.mono (B' := w.heap.size + 1) (by omega))
  clear hrw htc hxw
  go_wp2
  refine bodyPost_ret (v := modelV st p q a2 ll.length c2) (by simp [results, Try.results38, go_sem, kr]) rfl ?_
  have hfin := drawn_rows (w' := (((w2.setCell ⟨w.heap.size, 0, none⟩ (.int .i64 st)).setCell ⟨w.heap.size, 1, none⟩ (.int .i64 p)).setCell ⟨w.heap.size, 2, none⟩ (.int .i64 q)).setCell ⟨w.heap.size, 3, none⟩ (.slice a2 ll.length c2)) hx2.out HRW.out (by
    (repeat (first | exact Touched.refl _ _ _ | refine Touched.setIn ?_ (by dsimp only; omega) (by dsimp only; omega) _)))
  exact ⟨st, p, q, a2, c2, ll, rfl, hst, hfin.1, hlc, h3, h8, hfin.2⟩
theorem drawModelBack_c (a : Option Addr) (cap : Nat) (l : List Int) (w : World) (h : BytesAt w a l) (hlen : l.length ≤ 1048576) (hcap : l.length ≤ cap) :
    Calls Try.prog 59 #[.slice a l.length cap] w (DrewMo w) := by
  go_enter Try.func59, Try.ntmps59
  go_wp2_with fail
  refine (l20Open_c a cap l _ (h.ext (by (repeat (first | exact Ext.refl _ | assumption | refine Ext.alloc ?_ _ | refine Ext.drewN ?_ _ | refine Ext.drew ?_)))) hlen hcap).mono ?_
  rintro e w1 ⟨g, rfl, hg, hr0, hx0⟩
  have hg1 := hr0.lt
  have hz0 := hx0.size
  simp only [World.size_alloc] at hz0 hg
  have hb := Lib.hid ((box_zero w 37).ext hx0)
  have ht := Lib.hid ((thaw_zero w #[.int .i64 0, .int .i64 0, .int .i64 0, .slice none 0 0] 37).ext hx0)
  have hxw := Ext.trans (show Ext w _ by (repeat (first | exact Ext.refl _ | assumption | refine Ext.alloc ?_ _ | refine Ext.drewN ?_ _ | refine Ext.drew ?_))) hx0
  clear hx0
  go_wp2_with fail
  refine (l20Model_c g 0 9 _ (hr0.ext (by (repeat (first | exact Ext.refl _ | assumption | refine Ext.alloc ?_ _ | refine Ext.drewN ?_ _ | refine Ext.drew ?_)))) (by omega)).mono ?_
  rintro e w2 ⟨st, p, q, a2, c2, ll, rfl, hst, hrw, hlc, h3, h8, -, htc⟩
  have kr := (hb.out.untouched htc (.inl (by omega))).out
  have fr := (ht.out.untouched htc (.inl (by omega))).2
  have zr := (ht.out.untouched htc (.inl (by omega))).1
  have hx2 := Lib.hid (htc.ext hxw (by omega))
  have HRW := Lib.hid (hrw.mono (B' := w.heap.size + 1) (by omega))
  clear hrw htc hxw
  go_wp2
  refine bodyPost_ret (v := modelV st p q a2 ll.length c2) (by simp [results, Try.results59, go_sem, kr]) rfl ?_
  have hfin := drawn_rows (w' := (((w2.setCell ⟨w.heap.size, 0, none⟩ (.int .i64 st)).setCell ⟨w.heap.size, 1, none⟩ (.int .i64 p)).setCell ⟨w.heap.size, 2, none⟩ (.int .i64 q)).setCell ⟨w.heap.size, 3, none⟩ (.slice a2 ll.length c2)) hx2.out HRW.out (by
    (repeat (first | exact Touched.refl _ _ _ | refine Touched.setIn ?_ (by dsimp only; omega) (by dsimp only; omega) _)))
  exact ⟨st, p, q, a2, c2, ll, rfl, hst, hfin.1, hlc, h3, h8, hfin.2⟩
theorem lit2 (a0 a1 : Int) (z : Nat) (hz : z < 2) : ∃ u : Int, (#[Value.int .i64 a0, Value.int .i64 a1] : Array Value)[z]? = some (.int .i64 u) := by
  rcases (show z = 0 ∨ z = 1 by omega) with rfl | rfl <;> exact ⟨_, rfl⟩
theorem lit8 (a0 a1 a2 a3 a4 a5 a6 a7 : Int) (z : Nat) (hz : z < 8) :
    ∃ u : Int, (#[Value.int .i64 a0, Value.int .i64 a1, Value.int .i64 a2, Value.int .i64 a3, Value.int .i64 a4, Value.int .i64 a5, Value.int .i64 a6, Value.int .i64 a7] : Array Value)[z]? = some (.int .i64 u) := by
  rcases (show z = 0 ∨ z = 1 ∨ z = 2 ∨ z = 3 ∨ z = 4 ∨ z = 5 ∨ z = 6 ∨ z = 7 by omega) with rfl | rfl | rfl | rfl | rfl | rfl | rfl | rfl <;> exact ⟨_, rfl⟩
/-- What drawing a test comes to. -/
def DrewT (w : World) (g m : Nat) (e : Ending) (w' : World) : Prop := ∃ t : Int, e = .returned (.int .i64 t) ∧ Rd w' g (m + 10) ∧ Touched w w' g (g + 1)
set_option maxHeartbeats 1000000 in
theorem l20Test_c (g m : Nat) (n : Int) (w : World) (h : Rd w g m) (hm : m ≤ 100000) :
    Calls Try.prog 91 #[.pointer (some ⟨g, 0, none⟩), .int .i64 n] w (DrewT w g m) := by
  have hg := h.lt
  have HH := Lib.hid h
  clear h
  go_enter Try.func91, Try.ntmps91
  go_wp2_with fail
  refine (odd_c g m n _ HH.out (by omega)).mono ?_
  rintro e w1 ⟨b, rfl, hr1, ht1⟩
  have hz1 := ht1.size
  cases b
  · go_wp2_with fail
    refine (pick_c g _ 16 _ (hr1.ext (by (repeat (first | exact Ext.refl _ | assumption | refine Ext.alloc ?_ _ | refine Ext.drewN ?_ _ | refine Ext.drew ?_)))) (by omega)).mono ?_
    rintro e w2 ⟨x, rfl, hx, hr2, ht2⟩
    have hz2 := ht2.size
    replace ht2 := ht1.trans (Touched.trans (Touched.of_ext (by (repeat (first | exact Ext.refl _ | assumption | refine Ext.alloc ?_ _ | refine Ext.drewN ?_ _ | refine Ext.drew ?_)))) ht2)
    clear ht1 hr1
    go_wp2_with fail
    refine (pick_c g _ 16 _ (hr2.ext (by (repeat (first | exact Ext.refl _ | assumption | refine Ext.alloc ?_ _ | refine Ext.drewN ?_ _ | refine Ext.drew ?_)))) (by omega)).mono ?_
    rintro e w3 ⟨y, rfl, hy, hr3, ht3⟩
    have hz3 := ht3.size
    replace ht3 := ht2.trans (Touched.trans (Touched.of_ext (by (repeat (first | exact Ext.refl _ | assumption | refine Ext.alloc ?_ _ | refine Ext.drewN ?_ _ | refine Ext.drew ?_)))) ht3)
    clear ht2 hr2
    go_wp2_with fail
    refine (pick_c g _ 8 _ (hr3.ext (by (repeat (first | exact Ext.refl _ | assumption | refine Ext.alloc ?_ _ | refine Ext.drewN ?_ _ | refine Ext.drew ?_)))) (by omega)).mono ?_
    rintro e w4 ⟨z, rfl, hz, hr4, ht4⟩
    have hz8 : (z : Int) < 8 := by omega
    obtain ⟨u, hu⟩ := lit8 10 12 5 3 x y 15 0 z (by omega)
    have hcz := (World.cell?_of_block (a := ⟨w3.heap.size, z, none⟩) (ht4.block w3.heap.size (by simp) (.inr (by omega)))).trans ((cell_lit w3 _ 3 z).trans hu)
    have ht5 := Lib.hid (ht3.trans (Touched.trans (Touched.of_ext (by (repeat (first | exact Ext.refl _ | assumption | refine Ext.alloc ?_ _ | refine Ext.drewN ?_ _ | refine Ext.drew ?_)))) ht4))
    have HR4 := Lib.hid hr4
    clear ht3 ht4 hu hr4 hr3
    go_wp2
    go_ret
    exact ⟨u, rfl, (HR4.out.ext (by (repeat (first | exact Ext.refl _ | assumption | refine Ext.alloc ?_ _ | refine Ext.drewN ?_ _ | refine Ext.drew ?_)))).mono (by omega), ht5.out.trans (Touched.of_ext (by (repeat (first | exact Ext.refl _ | assumption | refine Ext.alloc ?_ _ | refine Ext.drewN ?_ _ | refine Ext.drew ?_))))⟩
  · go_wp2_with fail
    refine (pick_c g _ 2 _ (hr1.ext (by (repeat (first | exact Ext.refl _ | assumption | refine Ext.alloc ?_ _ | refine Ext.drewN ?_ _ | refine Ext.drew ?_)))) (by omega)).mono ?_
    rintro e w4 ⟨z, rfl, hz, hr4, ht4⟩
    have hz8 : (z : Int) < 2 := by omega
    obtain ⟨u, hu⟩ := lit2 (-1) 16 z (by omega)
    have hcz := (World.cell?_of_block (a := ⟨w1.heap.size, z, none⟩) (ht4.block w1.heap.size (by simp) (.inr (by omega)))).trans ((cell_lit w1 _ 3 z).trans hu)
    have ht5 := Lib.hid (ht1.trans (Touched.trans (Touched.of_ext (by (repeat (first | exact Ext.refl _ | assumption | refine Ext.alloc ?_ _ | refine Ext.drewN ?_ _ | refine Ext.drew ?_)))) ht4))
    have HR4 := Lib.hid hr4
    clear ht1 ht4 hu hr4 hr1
    go_wp2
    go_ret
    exact ⟨u, rfl, (HR4.out.ext (by (repeat (first | exact Ext.refl _ | assumption | refine Ext.alloc ?_ _ | refine Ext.drewN ?_ _ | refine Ext.drew ?_)))).mono (by omega), ht5.out.trans (Touched.of_ext (by (repeat (first | exact Ext.refl _ | assumption | refine Ext.alloc ?_ _ | refine Ext.drewN ?_ _ | refine Ext.drew ?_))))⟩
theorem drawTestStates_c (a : Option Addr) (cap : Nat) (l : List Int) (w : World) (h : BytesAt w a l) (hlen : l.length ≤ 1048576) (hcap : l.length ≤ cap) :
    Calls Try.prog 56 #[.slice a l.length cap] w (DrewMn w) := by
  go_enter Try.func56, Try.ntmps56
  go_wp2_with fail
  refine (l20Open_c a cap l _ (h.ext (by (repeat (first | exact Ext.refl _ | assumption | refine Ext.alloc ?_ _ | refine Ext.drewN ?_ _ | refine Ext.drew ?_)))) hlen hcap).mono ?_
  rintro e w1 ⟨g, rfl, hg, hr0, hx0⟩
  have hg1 := hr0.lt
  have hz0 := hx0.size
  simp only [World.size_alloc] at hz0 hg
  have hb := Lib.hid ((box_zero w 37).ext hx0)
  have ht := Lib.hid ((thaw_zero w #[.int .i64 0, .int .i64 0, .int .i64 0, .slice none 0 0] 37).ext hx0)
  have hxw := Ext.trans (show Ext w _ by (repeat (first | exact Ext.refl _ | assumption | refine Ext.alloc ?_ _ | refine Ext.drewN ?_ _ | refine Ext.drew ?_))) hx0
  clear hx0
  go_wp2_with fail
  refine (l20Model_c g 0 9 _ (hr0.ext (by (repeat (first | exact Ext.refl _ | assumption | refine Ext.alloc ?_ _ | refine Ext.drewN ?_ _ | refine Ext.drew ?_)))) (by omega)).mono ?_
  rintro e w2 ⟨st, p, q, a2, c2, ll, rfl, hst, hrw, hlc, h3, h8, hr2, htc⟩
  have hb2 := Lib.hid (hb.out.untouched htc (.inl (by omega)))
  have ht2 := Lib.hid (ht.out.untouched htc (.inl (by omega)))
  have hx2 := htc.ext hxw (by omega)
  clear htc hxw
  go_wp2_with fail
  refine (l20Test_c g _ 12 _ (hr2.ext (by (repeat (first | exact Ext.refl _ | assumption | refine Ext.alloc ?_ _ | refine Ext.drewN ?_ _ | refine Ext.drew ?_)))) (by omega)).mono ?_
  rintro e w3 ⟨t, rfl, -, htc⟩
  have kr := (hb2.out.untouched htc (.inl (by omega))).out
  have fr := (ht2.out.untouched htc (.inl (by omega))).2
  have zr := (ht2.out.untouched htc (.inl (by omega))).1
  have hx3 := Lib.hid (htc.ext hx2 (by omega))
  have HRW := Lib.hid ((hrw.untouched htc (by omega)).mono (B' := w.heap.size + 1) (by omega))
  clear hrw htc hx2
  go_wp2
  refine bodyPost_ret (v := .tuple #[modelV st p q a2 ll.length c2, .int .i64 t]) (by simp [results, Try.results56, go_sem, kr]) rfl ?_
  have hfin := drawn_rows (w' := (((w3.setCell ⟨w.heap.size, 0, none⟩ (.int .i64 st)).setCell ⟨w.heap.size, 1, none⟩ (.int .i64 p)).setCell ⟨w.heap.size, 2, none⟩ (.int .i64 q)).setCell ⟨w.heap.size, 3, none⟩ (.slice a2 ll.length c2)) hx3.out HRW.out (by
    (repeat (first | exact Touched.refl _ _ _ | refine Touched.setIn ?_ (by dsimp only; omega) (by dsimp only; omega) _)))
  exact ⟨st, p, q, a2, c2, ll, t, rfl, hst, hfin.1, hlc, h3, h8, hfin.2⟩
set_option maxHeartbeats 1000000 in
theorem drawAtomOf_c (a : Option Addr) (cap : Nat) (l : List Int) (w : World) (h : BytesAt w a l) (hlen : l.length ≤ 1048576) (hcap : l.length ≤ cap) :
    Calls Try.prog 46 #[.slice a l.length cap] w (DrewMn w) := by
  go_enter Try.func46, Try.ntmps46
  go_wp2_with fail
  refine (l20Open_c a cap l _ (h.ext (by (repeat (first | exact Ext.refl _ | assumption | refine Ext.alloc ?_ _ | refine Ext.drewN ?_ _ | refine Ext.drew ?_)))) hlen hcap).mono ?_
  rintro e w1 ⟨g, rfl, hg, hr0, hx0⟩
  have hg1 := hr0.lt
  have hz0 := hx0.size
  simp only [World.size_alloc] at hz0 hg
  have hb := Lib.hid ((box_zero w 37).ext hx0)
  have ht := Lib.hid ((thaw_zero w #[.int .i64 0, .int .i64 0, .int .i64 0, .slice none 0 0] 37).ext hx0)
  have hxw := Ext.trans (show Ext w _ by (repeat (first | exact Ext.refl _ | assumption | refine Ext.alloc ?_ _ | refine Ext.drewN ?_ _ | refine Ext.drew ?_))) hx0
  clear hx0
  go_wp2_with fail
  refine (l20Model_c g 0 9 _ (hr0.ext (by (repeat (first | exact Ext.refl _ | assumption | refine Ext.alloc ?_ _ | refine Ext.drewN ?_ _ | refine Ext.drew ?_)))) (by omega)).mono ?_
  rintro e w2 ⟨st, p, q, a2, c2, ll, rfl, hst, hrw, hlc, h3, h8, hr2, htc⟩
  have hb2 := Lib.hid (hb.out.untouched htc (.inl (by omega)))
  have ht2 := Lib.hid (ht.out.untouched htc (.inl (by omega)))
  have zz2 := htc.size
  have hx2 := htc.ext hxw (by omega)
  have HR2 := Lib.hid hr2
  have HRW2 := Lib.hid hrw
  have HX2 := Lib.hid hx2
  clear htc hxw hr2 hrw hx2
  have hmx : (if (st : Int) < 0 then (0 : Int) else (st : Int)) = st := if_neg (by omega)
  have hws : IntKind.i64.wrap ((st : Int) + 1) = ((st + 1 : Nat) : Int) := by rw [IntWalk.i64_in _ (by omega)]; omega
  go_wp2
  go_region_law ((first
    | (fail_if_success (have := hr3)
       go_simp; go_at_call 71; refine (pick_c g _ _ _ (HR2.out.ext (by (repeat (first | exact Ext.refl _ | assumption | refine Ext.alloc ?_ _ | refine Ext.drewN ?_ _ | refine Ext.drew ?_)))) (by omega)).mono ?_; rintro e w3 ⟨x, rfl, hx, hr3, ht3⟩
       have hxs : (x : Int) ≤ 5 := by
         try simp only [hmx, hws] at hx
         omega
       have hbx3 := BoxM.untouched (BoxM.ext (box_made w2 37 st p q (.slice a2 ll.length c2)) (by (repeat (first | exact Ext.refl _ | assumption | refine Ext.alloc ?_ _ | refine Ext.drewN ?_ _ | refine Ext.drew ?_)))) ht3 (.inr (by omega))
       have k3 := hbx3.out
       have hb3 := BoxM.untouched (BoxM.ext hb2.out (by (repeat (first | exact Ext.refl _ | assumption | refine Ext.alloc ?_ _ | refine Ext.drewN ?_ _ | refine Ext.drew ?_)))) ht3 (.inl (by omega))
       have hth3 := Thawed.untouched (Thawed.ext ht2.out (by (repeat (first | exact Ext.refl _ | assumption | refine Ext.alloc ?_ _ | refine Ext.drewN ?_ _ | refine Ext.drew ?_)))) ht3 (.inl (by omega))
       have hz3 : w2.heap.size < w3.heap.size := hbx3.lt
       have hx3 := Lib.hid (ht3.ext (Ext.trans HX2.out (by (repeat (first | exact Ext.refl _ | assumption | refine Ext.alloc ?_ _ | refine Ext.drewN ?_ _ | refine Ext.drew ?_)))) (by omega))
       have hrw3 := Lib.hid (((HRW2.out.ext (by (repeat (first | exact Ext.refl _ | assumption | refine Ext.alloc ?_ _ | refine Ext.drewN ?_ _ | refine Ext.drew ?_)))).mono (B' := g + 1) (by omega)).untouched ht3 (Nat.le_refl _))
       clear ht3)
    | (go_simp; go_at_call 71; refine (pick_c g _ _ _ (hr3.ext (by (repeat (first | exact Ext.refl _ | assumption | refine Ext.alloc ?_ _ | refine Ext.drewN ?_ _ | refine Ext.drew ?_)))) (by omega)).mono ?_; rintro e w4 ⟨y, rfl, hy, hr4, ht4⟩
       have k4 := (BoxM.untouched (BoxM.ext hbx3 (by (repeat (first | exact Ext.refl _ | assumption | refine Ext.alloc ?_ _ | refine Ext.drewN ?_ _ | refine Ext.drew ?_)))) ht4 (.inr (by omega))).out
       have hb4 := BoxM.untouched (BoxM.ext hb3 (by (repeat (first | exact Ext.refl _ | assumption | refine Ext.alloc ?_ _ | refine Ext.drewN ?_ _ | refine Ext.drew ?_)))) ht4 (.inl (by omega))
       have kr := hb4.out
       have hth4 := Thawed.untouched (Thawed.ext hth3 (by (repeat (first | exact Ext.refl _ | assumption | refine Ext.alloc ?_ _ | refine Ext.drewN ?_ _ | refine Ext.drew ?_)))) ht4 (.inl (by omega))
       have fr := hth4.2
       have zr := hth4.1
       have hz4 : w2.heap.size < w4.heap.size := by have := ht4.size; (try simp at this); omega
       obtain ⟨d, hd, hyd⟩ : ∃ d : Nat, d ≤ 1 ∧ ((y : Int)).tdiv 19 = (d : Int) := ⟨y / 19, by omega, rfl⟩
       have hwd0 : IntKind.i64.wrap (d : Int) = (d : Int) := IntWalk.i64_in _ (by omega)
       have hwd : IntKind.i64.wrap ((x : Int) - (d : Int)) = (x : Int) - (d : Int) := IntWalk.i64_in _ (by omega)
       have hx4 := Lib.hid (ht4.ext (Ext.trans hx3.out (by (repeat (first | exact Ext.refl _ | assumption | refine Ext.alloc ?_ _ | refine Ext.drewN ?_ _ | refine Ext.drew ?_)))) (by omega))
       have hr4' := Lib.hid ((hrw3.out.ext (by (repeat (first | exact Ext.refl _ | assumption | refine Ext.alloc ?_ _ | refine Ext.drewN ?_ _ | refine Ext.drew ?_)))).untouched ht4 (Nat.le_refl _))
       clear hb4 hth4 ht4 hr4)))
  all_goals
    go_wp2
    refine bodyPost_ret (v := .tuple #[modelV st p q a2 ll.length c2, .int .i64 ((x : Int) - (d : Int))]) (by simp [results, Try.results46, go_sem, kr]) rfl ?_
    have hfin := drawn_rows (w' := (((w4.setCell ⟨w.heap.size, 0, none⟩ (.int .i64 st)).setCell ⟨w.heap.size, 1, none⟩ (.int .i64 p)).setCell ⟨w.heap.size, 2, none⟩ (.int .i64 q)).setCell ⟨w.heap.size, 3, none⟩ (.slice a2 ll.length c2)) hx4.out (hr4'.out.mono (by omega)) (by
      (repeat (first | exact Touched.refl _ _ _ | refine Touched.setIn ?_ (by dsimp only; omega) (by dsimp only; omega) _)))
    exact ⟨st, p, q, a2, c2, ll, _, rfl, hst, hfin.1, hlc, h3, h8, hfin.2⟩
end Go.Proofs.Ytfaeiihgjoognaa
