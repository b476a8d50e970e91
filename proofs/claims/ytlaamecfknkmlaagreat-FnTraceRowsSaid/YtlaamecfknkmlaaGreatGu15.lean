/- Merged texts: contracts and plain lemmas (Rh). -/
import Derived.Test.YtlaamecfknkmlaaGreatGu14
/- Contracts: what draws leave alone; tests drawn. -/
namespace Go.Proofs.YtlaamecfknkmlaaGreat
set_option linter.unusedVariables false
open Go.RowKit Go.Kt

theorem cell_new2 (w : World) (x y u : Value) (t : TypeId) (z : Nat) (h : (#[x, y] : Array Value)[z]? = some u) : (w.alloc (.cells #[x, y] t)).cell? ⟨w.heap.size, z, none⟩ = some u := by
  match z, h with
  | 0, h => simp at h; subst h; simp [go_sem]
  | 1, h => simp at h; subst h; simp [go_sem]
  | z + 2, h => simp at h
theorem OwnI.drawn {w w' : World} {B E g : Nat} {v : Value} {l : List Int} (h : OwnI w B E v l) (t : Touched w w' g (g + 1)) (hg : g < B) : OwnI w' B E v l :=
  h.untouched t (fun g' hg' => .inr (by have := (World.ownsRow.lt h g' hg').1; omega))
theorem Touched.row {w wX w' : World} {B T : Nat} {row : Option Nat} (t : Touched w wX B T) (hg : wX.grownBy w' row) (hr : ∀ k, row = some k → w.heap.size ≤ k) : Touched w w' B T :=
  ⟨hg.os.trans t.os, hg.tape.trans t.tape, hg.output.trans t.output, Nat.le_trans t.size hg.size, fun k hk ho => (hg.block k (Nat.lt_of_lt_of_le hk t.size) (fun e => by have := hr k e.symm; omega)).trans (t.block k hk ho)⟩
theorem Rd.row {wX w' : World} {g m : Nat} {row : Option Nat} (h : Rd wX g m) (hg : wX.grownBy w' row) (hr : ∀ k, row = some k → g < k) : Rd w' g m := by
  refine h.untouched (B := g + 1) (T := wX.heap.size + w'.heap.size) ⟨hg.os, hg.tape, hg.output, hg.size, fun k hk ho => hg.block k hk (fun e => ?_)⟩ (by omega)
  have := hr k e.symm
  omega
theorem cell_lit (w : World) (xs : Array Value) (t : TypeId) (z : Nat) : (w.alloc (.cells xs t)).cell? ⟨w.heap.size, z, none⟩ = xs[z]? := by simp [go_sem]
theorem lit2 (a0 a1 : Int) (z : Nat) (hz : z < 2) : ∃ u : Int, (#[Value.int .i64 a0, Value.int .i64 a1] : Array Value)[z]? = some (.int .i64 u) := by
  rcases (show z = 0 ∨ z = 1 by omega) with rfl | rfl <;> exact ⟨_, rfl⟩
theorem lit8 (a0 a1 a2 a3 a4 a5 a6 a7 : Int) (z : Nat) (hz : z < 8) :
    ∃ u : Int, (#[Value.int .i64 a0, Value.int .i64 a1, Value.int .i64 a2, Value.int .i64 a3, Value.int .i64 a4, Value.int .i64 a5, Value.int .i64 a6, Value.int .i64 a7] : Array Value)[z]? = some (.int .i64 u) := by
  rcases (show z = 0 ∨ z = 1 ∨ z = 2 ∨ z = 3 ∨ z = 4 ∨ z = 5 ∨ z = 6 ∨ z = 7 by omega) with rfl | rfl | rfl | rfl | rfl | rfl | rfl | rfl <;> exact ⟨_, rfl⟩
/-- What drawing a test comes to. -/
def DrewT (w : World) (g m : Nat) (e : Ending) (w' : World) : Prop := ∃ t : Int, e = .returned (.int .i64 t) ∧ Rd w' g (m + 10) ∧ Touched w w' g (g + 1)
set_option maxHeartbeats 1000000 in
theorem l20Test_c (g m : Nat) (n : Int) (w : World) (h : Rd w g m) (hm : m ≤ 100000) :
    Calls Tryz.prog 88 #[.pointer (some ⟨g, 0, none⟩), .int .i64 n] w (DrewT w g m) := by
  have hg := h.lt
  have HH := Lib.hid h
  clear h
  go_enter Tryz.func88, Tryz.ntmps88
  go_wp2_with fail
  refine (odd_c g m n _ HH.out (by omega)).mono ?_
  rintro e w1 ⟨b, rfl, hr1, ht1⟩
  have hz1 := ht1.size
  cases b
  · go_wp2_with fail
    refine (pick_c g _ 16 _ (hr1.ext (by (repeat (first | exact Ext.refl _ | assumption | refine Ext.alloc ?_ _ | refine Ext.drewN ?_ _ | refine Ext.drew ?_)))) (by omega)).mono ?_
    rintro e w2 ⟨x, rfl, hx, hr2, ht2⟩
    have hz2 := ht2.size
    replace ht2 := ht1.trans (Touched.trans (Touched.of_ext (by (repeat (first | exact Ext.refl _ | assumption | refine Ext.alloc ?_ _ | refine Ext.drewN ?_ _ | refine Ext.drew ?_)))) ht2)
    clear ht1 hr1
    go_wp2_with fail
    refine (pick_c g _ 16 _ (hr2.ext (by (repeat (first | exact Ext.refl _ | assumption | refine Ext.alloc ?_ _ | refine Ext.drewN ?_ _ | refine Ext.drew ?_)))) (by omega)).mono ?_
    rintro e w3 ⟨y, rfl, hy, hr3, ht3⟩
    have hz3 := ht3.size
    replace ht3 := ht2.trans (Touched.trans (Touched.of_ext (by (repeat (first | exact Ext.refl _ | assumption | refine Ext.alloc ?_ _ | refine Ext.drewN ?_ _ | refine Ext.drew ?_)))) ht3)
    clear ht2 hr2
    go_wp2_with fail
    refine (pick_c g _ 8 _ (hr3.ext (by (repeat (first | exact Ext.refl _ | assumption | refine Ext.alloc ?_ _ | refine Ext.drewN ?_ _ | refine Ext.drew ?_)))) (by omega)).mono ?_
    rintro e w4 ⟨z, rfl, hz, hr4, ht4⟩
    have hz8 : (z : Int) < 8 := by omega
    obtain ⟨u, hu⟩ := lit8 10 12 5 3 x y 15 0 z (by omega)
    have hcz := (World.cell?_of_block (a := ⟨w3.heap.size, z, none⟩) (ht4.block w3.heap.size (by simp) (.inr (by omega)))).trans ((cell_lit w3 _ 3 z).trans hu)
    have ht5 := Lib.hid (ht3.trans (Touched.trans (Touched.of_ext (by (repeat (first | exact Ext.refl _ | assumption | refine Ext.alloc ?_ _ | refine Ext.drewN ?_ _ | refine Ext.drew ?_)))) ht4))
    have HR4 := Lib.hid hr4
    clear ht3 ht4 hu hr4 hr3
    go_wp2
    go_ret
    exact ⟨u, rfl, (HR4.out.ext (by (repeat (first | exact Ext.refl _ | assumption | refine Ext.alloc ?_ _ | refine Ext.drewN ?_ _ | refine Ext.drew ?_)))).mono (by omega), ht5.out.trans (Touched.of_ext (by (repeat (first | exact Ext.refl _ | assumption | refine Ext.alloc ?_ _ | refine Ext.drewN ?_ _ | refine Ext.drew ?_))))⟩
  · go_wp2_with fail
    refine (pick_c g _ 2 _ (hr1.ext (by (repeat (first | exact Ext.refl _ | assumption | refine Ext.alloc ?_ _ | refine Ext.drewN ?_ _ | refine Ext.drew ?_)))) (by omega)).mono ?_
    rintro e w4 ⟨z, rfl, hz, hr4, ht4⟩
    have hz8 : (z : Int) < 2 := by omega
    obtain ⟨u, hu⟩ := lit2 (-1) 16 z (by omega)
    have hcz := (World.cell?_of_block (a := ⟨w1.heap.size, z, none⟩) (ht4.block w1.heap.size (by simp) (.inr (by omega)))).trans ((cell_lit w1 _ 3 z).trans hu)
    have ht5 := Lib.hid (ht1.trans (Touched.trans (Touched.of_ext (by (repeat (first | exact Ext.refl _ | assumption | refine Ext.alloc ?_ _ | refine Ext.drewN ?_ _ | refine Ext.drew ?_)))) ht4))
    have HR4 := Lib.hid hr4
    clear ht1 ht4 hu hr4 hr1
    go_wp2
    go_ret
    exact ⟨u, rfl, (HR4.out.ext (by (repeat (first | exact Ext.refl _ | assumption | refine Ext.alloc ?_ _ | refine Ext.drewN ?_ _ | refine Ext.drew ?_)))).mono (by omega), ht5.out.trans (Touched.of_ext (by (repeat (first | exact Ext.refl _ | assumption | refine Ext.alloc ?_ _ | refine Ext.drewN ?_ _ | refine Ext.drew ?_))))⟩
end Go.Proofs.YtlaamecfknkmlaaGreat
