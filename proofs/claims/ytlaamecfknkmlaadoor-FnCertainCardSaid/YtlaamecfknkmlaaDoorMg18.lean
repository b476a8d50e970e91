/- Merged texts: contracts and plain lemmas (Ty). -/
import Derived.Test.YtlaamecfknkmlaaDoorMg13
import Derived.Deep.RegionHeld3
/- Contracts: the text of a tree, in the program. -/
namespace Go.Proofs.YtlaamecfknkmlaaDoor
set_option linter.unusedVariables false
open Go.RowKit Go.Kt

theorem isActT_c (t : Int) (w : World) :
    Calls Tryd.prog 42 #[.int .i64 t] w fun e w' => e = .returned (.bool (inB t 16 18)) ∧ w = w' := by
  by_cases h1 : 16 ≤ t
  all_goals
    go_enter Tryd.func42, Tryd.ntmps42
    go_wp2
    go_ret
    exact ⟨by simp [inB, h1]; try omega, rfl⟩
theorem one_at (w0 : World) (x : Int) : IntsAt (w0.alloc (.cells #[.int .i64 x] 3)) (some ⟨w0.heap.size, 0, none⟩) [x] := by
  refine ⟨w0.heap.size, 0, fun _ => ⟨rfl, by simp⟩, fun i hi => ?_⟩
  obtain rfl : i = 0 := by simp at hi; omega
  simp [nth, go_sem]
theorem two_at (w0 : World) (x y : Int) : IntsAt (w0.alloc (.cells #[.int .i64 x, .int .i64 y] 3)) (some ⟨w0.heap.size, 0, none⟩) [x, y] := by
  refine ⟨w0.heap.size, 0, fun _ => ⟨rfl, by simp⟩, fun i hi => ?_⟩
  obtain rfl | rfl : i = 0 ∨ i = 1 := by simp at hi; omega
  · simp [nth, go_sem]
  · simp [nth, go_sem]
theorem one_of {W : World} {B : Nat} {x : Int} (h0 : W.cell? ⟨B, 0, none⟩ = some (.int .i64 x)) : IntsAt W (some ⟨B, 0, none⟩) [x] := by
  refine ⟨B, 0, fun _ => ⟨rfl, lt_of_cell h0⟩, fun i hi => ?_⟩
  obtain rfl : i = 0 := by simp at hi; omega
  exact h0
theorem two_of {W : World} {B : Nat} {x y : Int} (h0 : W.cell? ⟨B, 0, none⟩ = some (.int .i64 x)) (h1 : W.cell? ⟨B, 1, none⟩ = some (.int .i64 y)) : IntsAt W (some ⟨B, 0, none⟩) [x, y] := by
  refine ⟨B, 0, fun _ => ⟨rfl, lt_of_cell h0⟩, fun i hi => ?_⟩
  obtain rfl | rfl : i = 0 ∨ i = 1 := by simp at hi; omega
  · exact h0
  · exact h1
end Go.Proofs.YtlaamecfknkmlaaDoor
