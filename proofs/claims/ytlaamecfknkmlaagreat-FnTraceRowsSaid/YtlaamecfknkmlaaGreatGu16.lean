/- Merged texts: contracts and plain lemmas (Wd). -/
import Derived.Test.YtlaamecfknkmlaaGreatGu15
import Derived.Test.YtlaamecfknkmlaaGreatGu10
/- Contracts: what is drawn piece by piece: the numbers so far, and the reader. -/
namespace Go.Proofs.YtlaamecfknkmlaaGreat
set_option linter.unusedVariables false
open Go.RowKit Go.Kt

theorem oddN_c (g m : Nat) (n : Int) (w : World) (h : Rd w g m) (hm : m ≤ 1000000) :
    Calls Tryz.prog 146 #[.pointer (some ⟨g, 0, none⟩), .int .i64 n] w fun e w' => (n = 0 → e = .returned (.bool false)) ∧ DrewB w g m e w' := by
  by_cases hn : 0 < n
  · exact (odd_c g m n w h hm).mono fun e w' hh => ⟨fun h0 => by omega, hh⟩
  · go_enter Tryz.func146, Tryz.ntmps146
    go_wp2
    go_ret
    exact ⟨fun _ => rfl, _, rfl, h.mono (by omega), Touched.refl _ _ _⟩
theorem lit8r (a0 a1 a2 a3 a4 a5 a6 a7 : Int) (z : Nat) (hz : z < 8) (h : (0 ≤ a0 ∧ a0 ≤ 15) ∧ (0 ≤ a1 ∧ a1 ≤ 15) ∧ (0 ≤ a2 ∧ a2 ≤ 15) ∧ (0 ≤ a3 ∧ a3 ≤ 15) ∧ (0 ≤ a4 ∧ a4 ≤ 15) ∧ (0 ≤ a5 ∧ a5 ≤ 15) ∧ (0 ≤ a6 ∧ a6 ≤ 15) ∧ (0 ≤ a7 ∧ a7 ≤ 15)) :
    ∃ u : Int, (#[Value.int .i64 a0, Value.int .i64 a1, Value.int .i64 a2, Value.int .i64 a3, Value.int .i64 a4, Value.int .i64 a5, Value.int .i64 a6, Value.int .i64 a7] : Array Value)[z]? = some (.int .i64 u) ∧ 0 ≤ u ∧ u ≤ 15 := by
  obtain ⟨h0, h1, h2, h3, h4, h5, h6, h7⟩ := h
  rcases (show z = 0 ∨ z = 1 ∨ z = 2 ∨ z = 3 ∨ z = 4 ∨ z = 5 ∨ z = 6 ∨ z = 7 by omega) with rfl | rfl | rfl | rfl | rfl | rfl | rfl | rfl
  · exact ⟨_, rfl, h0⟩
  · exact ⟨_, rfl, h1⟩
  · exact ⟨_, rfl, h2⟩
  · exact ⟨_, rfl, h3⟩
  · exact ⟨_, rfl, h4⟩
  · exact ⟨_, rfl, h5⟩
  · exact ⟨_, rfl, h6⟩
  · exact ⟨_, rfl, h7⟩
/-- A valid test drawn. -/
def DrewT0 (w : World) (g m : Nat) (e : Ending) (w' : World) : Prop := ∃ t : Int, e = .returned (.int .i64 t) ∧ (0 ≤ t ∧ t ≤ 15) ∧ Rd w' g (m + 10) ∧ Touched w w' g (g + 1)
set_option maxHeartbeats 1000000 in
theorem l20Test0_c (g m : Nat) (w : World) (h : Rd w g m) (hm : m ≤ 100000) :
    Calls Tryz.prog 88 #[.pointer (some ⟨g, 0, none⟩), .int .i64 0] w (DrewT0 w g m) := by
  have hg := h.lt
  have HH := Lib.hid h
  clear h
  go_enter Tryz.func88, Tryz.ntmps88
  go_wp2_with fail
  refine (oddN_c g m 0 _ HH.out (by omega)).mono ?_
  rintro e w1 ⟨hf, b, -, hr1, ht1⟩
  obtain rfl := hf rfl
  have hz1 := ht1.size
  clear hf
  go_wp2_with fail
  refine (pick_c g _ 16 _ (hr1.ext (by (repeat (first | exact Ext.refl _ | assumption | refine Ext.alloc ?_ _ | refine Ext.drewN ?_ _ | refine Ext.drew ?_)))) (by omega)).mono ?_
  rintro e w2 ⟨x, rfl, hx, hr2, ht2⟩
  have hz2 := ht2.size
  replace ht2 := ht1.trans (Touched.trans (Touched.of_ext (by (repeat (first | exact Ext.refl _ | assumption | refine Ext.alloc ?_ _ | refine Ext.drewN ?_ _ | refine Ext.drew ?_)))) ht2)
  clear ht1 hr1
  go_wp2_with fail
  refine (pick_c g _ 16 _ (hr2.ext (by (repeat (first | exact Ext.refl _ | assumption | refine Ext.alloc ?_ _ | refine Ext.drewN ?_ _ | refine Ext.drew ?_)))) (by omega)).mono ?_
  rintro e w3 ⟨y, rfl, hy, hr3, ht3⟩
  have hz3 := ht3.size
  replace ht3 := ht2.trans (Touched.trans (Touched.of_ext (by (repeat (first | exact Ext.refl _ | assumption | refine Ext.alloc ?_ _ | refine Ext.drewN ?_ _ | refine Ext.drew ?_)))) ht3)
  clear ht2 hr2
  go_wp2_with fail
  refine (pick_c g _ 8 _ (hr3.ext (by (repeat (first | exact Ext.refl _ | assumption | refine Ext.alloc ?_ _ | refine Ext.drewN ?_ _ | refine Ext.drew ?_)))) (by omega)).mono ?_
  rintro e w4 ⟨z, rfl, hz, hr4, ht4⟩
  have hz8 : (z : Int) < 8 := by omega
  obtain ⟨u, hu, hur⟩ := lit8r 10 12 5 3 x y 15 0 z (by omega) (by omega)
  have hcz := (World.cell?_of_block (a := ⟨w3.heap.size, z, none⟩) (ht4.block w3.heap.size (by simp) (.inr (by omega)))).trans ((cell_lit w3 _ 3 z).trans hu)
  have ht5 := Lib.hid (ht3.trans (Touched.trans (Touched.of_ext (by (repeat (first | exact Ext.refl _ | assumption | refine Ext.alloc ?_ _ | refine Ext.drewN ?_ _ | refine Ext.drew ?_)))) ht4))
  have HR4 := Lib.hid hr4
  clear ht3 ht4 hu hr4 hr3
  go_wp2
  go_ret
  exact ⟨u, rfl, hur, (HR4.out.ext (by (repeat (first | exact Ext.refl _ | assumption | refine Ext.alloc ?_ _ | refine Ext.drewN ?_ _ | refine Ext.drew ?_)))).mono (by omega), ht5.out.trans (Touched.of_ext (by (repeat (first | exact Ext.refl _ | assumption | refine Ext.alloc ?_ _ | refine Ext.drewN ?_ _ | refine Ext.drew ?_))))⟩
/-- While a program is drawn: the words so far, and the reader. -/
structure WordSt (w wr : World) (g m : Nat) (v : Value) (L : List Int) : Prop where
  hg : g < w.heap.size
  own : OwnI wr w.heap.size 3 v L
  rd : Rd wr g m
  tch : Touched w wr g (g + 1)
theorem WordSt.ext {w wr w' : World} {g m : Nat} {v : Value} {L : List Int} (h : WordSt w wr g m v L) (e : Ext wr w') : WordSt w w' g m v L := ⟨h.hg, h.own.ext e, h.rd.ext e, h.tch.trans (Touched.of_ext e)⟩
theorem WordSt.mono {w wr : World} {g m m' : Nat} {v : Value} {L : List Int} (h : WordSt w wr g m v L) (e : m ≤ m') : WordSt w wr g m' v L := ⟨h.hg, h.own, h.rd.mono e, h.tch⟩
/-- A call that draws. -/
theorem WordSt.drawn {w wr wx w' : World} {g m m' : Nat} {v : Value} {L : List Int} (h : WordSt w wr g m v L) (e : Ext wr wx) (t : Touched wx w' g (g + 1)) (r : Rd w' g m') : WordSt w w' g m' v L :=
  ⟨h.hg, OwnI.drawn (h.own.ext e) t h.hg, r, h.tch.trans (Touched.trans (Touched.of_ext e) t)⟩
/-- An append to a slice of the call's own. -/
theorem WordSt.more {w wr wx w' : World} {g m : Nat} {v v' vr : Value} {L M N : List Int} (h : WordSt w wr g m v L) (e : Ext wr wx) (ho : OwnI wx w.heap.size 3 vr N) (o : OwnI w' w.heap.size 3 v' M) (hgr : wx.grownBy w' vr.ownBlock) : WordSt w w' g m v' M := by
  have hb := fun k hk' => (World.ownsRow.lt ho k hk').1
  exact ⟨h.hg, o, Rd.row (h.rd.ext e) hgr (fun k hk' => by have := hb k hk'; have := h.hg; omega), Touched.row (h.tch.trans (Touched.of_ext e)) hgr hb⟩
/-- Another slice of the call's own. -/
theorem WordSt.other {w wr wx : World} {g m : Nat} {v v' : Value} {L M : List Int} (h : WordSt w wr g m v L) (e : Ext wr wx) (o : OwnI wx w.heap.size 3 v' M) : WordSt w wx g m v' M :=
  ⟨h.hg, o, h.rd.ext e, h.tch.trans (Touched.of_ext e)⟩
theorem WordSt.shape {w wr : World} {g m : Nat} {v : Value} {L : List Int} (h : WordSt w wr g m v L) : ∃ a c, v = .slice a L.length c := by
  obtain ⟨a, c, h, _⟩ := h.own.shape
  exact ⟨a, c, h⟩
theorem OwnI.lit2 (w : World) (B E : Nat) (x y : Int) (hB : B ≤ w.heap.size) : OwnI (w.alloc (.cells #[.int .i64 x, .int .i64 y] E)) B E (.slice (some ⟨w.heap.size, 0, none⟩) 2 2) [x, y] :=
  World.ownsRow_lit (base := B) (e := E) (size := 1) w #[.int .i64 x, .int .i64 y] 2 hB (by unfold maxLen; omega) rfl
theorem lit4 (a0 a1 a2 a3 : Int) (z : Nat) (hz : z < 4) : ∃ u : Int, (#[Value.int .i64 a0, Value.int .i64 a1, Value.int .i64 a2, Value.int .i64 a3] : Array Value)[z]? = some (.int .i64 u) := by
  rcases (show z = 0 ∨ z = 1 ∨ z = 2 ∨ z = 3 by omega) with rfl | rfl | rfl | rfl <;> exact ⟨_, rfl⟩
theorem namedI (l : List Int) : ∃ L : List Int, Hid (L = l) ∧ L.length = l.length := ⟨l, rfl, rfl⟩
/-- What drawing a list of numbers comes to. -/
def DrewL (w : World) (g m n : Nat) (e : Ending) (w' : World) : Prop := ∃ v L, e = .returned v ∧ OwnI w' w.heap.size 3 v L ∧ L.length ≤ n ∧ Rd w' g m ∧ Touched w w' g (g + 1)
theorem WordSt.drewL {w wr : World} {g m m' n : Nat} {v : Value} {L : List Int} (h : WordSt w wr g m v L) (hL : L.length ≤ n) (hm : m ≤ m') : DrewL w g m' n (.returned v) wr := ⟨v, L, rfl, h.own, hL, h.rd.mono hm, h.tch⟩
end Go.Proofs.YtlaamecfknkmlaaGreat
