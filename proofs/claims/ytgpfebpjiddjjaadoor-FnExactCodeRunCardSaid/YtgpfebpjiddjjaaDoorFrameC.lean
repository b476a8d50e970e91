/- How a slice of instructions that came in is read. -/
import Derived.Test.YtgpfebpjiddjjaaDoorFrame
import Derived.Test.YtgpfebpjiddjjaaDoorFlat
import Derived.Lib.SmallJoins
import Derived.Deep.Slices
import Derived.Deep.Strs
namespace Go.Proofs.YtgpfebpjiddjjaaDoor
set_option linter.unusedVariables false
open Go.ChangeShapes Go.WideShapes Go.ChangeAt Go.RowKit Go.Kt Go.Joins Go.Deep

set_option maxRecDepth 100000 in
theorem open_inss {H : Type} {enc : TypeId × Value → H} {W : World} {r : Reach} {b0 base : Nat} {held : Bool} {v : Value} {d : DataW H} {p : List MemPlace}
    (hv : Value.okWide Tryd.prog W r b0 25 v) (h : DataW.Trod enc Tryd.prog W base (fun _ => true) held 25 v d p) :
    ∃ (a : Option Addr) (n cap : Nat) (L : List Int), v = .slice a n cap ∧ FlatAt W a n L ∧ n ≤ 9223372036854775807 := by
  obtain ⟨a, len, cap, rfl⟩ := okWide_slice Tryd.underlying25 hv
  obtain ⟨fuel, hf⟩ := h
  rcases open_slice Tryd.underlying25 hf with ⟨hcs, _⟩ | ⟨x, l, c, m, n, D, Pl, hcs, _, hl, hm, hmm, _, hx⟩
  · simp [Value.cells] at hcs
    obtain ⟨rfl, rfl, rfl⟩ := hcs
    exact ⟨none, 0, 0, [], rfl, FlatAt.nil _ _, by omega⟩
  · simp [Value.cells] at hcs
    obtain ⟨rfl, rfl, rfl⟩ := hcs
    have ce : Tryd.prog.cellsOf 61 = 3 := by kernel_rfl
    have ci : Tryd.prog.cellsOf 3 = 1 := by kernel_rfl
    have hmc : m = cap := by simpa using hmm
    have each : ∀ i, i < len → ∃ z : Int × Int × Int, W.cell? (x.add (i * 3)) = some (.int .i64 z.1) ∧ W.cell? (x.add (i * 3 + 1)) = some (.int .i64 z.2.1) ∧ W.cell? (x.add (i * 3 + 2)) = some (.int .i64 z.2.2) := by
      intro i hi
      obtain ⟨cs', h1, h2⟩ := hx i (by omega)
      rw [ce] at h1
      obtain ⟨_, hlen, hcell⟩ := World.cells?_some h1
      obtain ⟨y0, y1, y2, k, -, -, g0, g1, g2⟩ := trod_struct3 Tryd.underlying61 h2
      match cs', hlen with
      | [v0, v1, v2], _ =>
        simp [ci] at g0 g1 g2
        obtain ⟨z0, e0, -, -⟩ := DataW.trod_int Tryd.underlying3 g0
        obtain ⟨z1, e1, -, -⟩ := DataW.trod_int Tryd.underlying3 g1
        obtain ⟨z2, e2, -, -⟩ := DataW.trod_int Tryd.underlying3 g2
        simp only [List.cons.injEq, and_true] at e0 e1 e2
        subst e0 e1 e2
        have c0 := hcell 0 (by omega)
        have c1 := hcell 1 (by omega)
        have c2 := hcell 2 (by omega)
        rw [add_add] at c0 c1 c2
        exact ⟨(z0, z1, z2), by simpa using c0, by simpa using c1, by simpa using c2⟩
    obtain ⟨Z, hZ⟩ := choose_lt each
    have hmx : cap ≤ 9223372036854775807 := by unfold maxLen at hm; omega
    refine ⟨some x, len, cap, (List.range (len * 3)).map fun j => if j % 3 = 0 then (Z (j / 3)).1 else if j % 3 = 1 then (Z (j / 3)).2.1 else (Z (j / 3)).2.2, rfl, ⟨by simp, ?_⟩, by omega⟩
    by_cases hz : len = 0
    · subst hz; exact ⟨0, 0, fun h => absurd h (by simp), fun j h => absurd h (by simp)⟩
    · obtain ⟨b, off, spot⟩ := x
      have hc0 := (hZ 0 (by omega)).1
      have hspot : spot = none := by simpa [Addr.add] using World.cell?_spot hc0
      subst hspot
      have hadd : ∀ i, (⟨b, off, none⟩ : Addr).add i = ⟨b, off + i, none⟩ := fun i => by unfold Addr.add; split <;> simp_all
      refine ⟨b, off, fun _ => ⟨rfl, ?_⟩, fun j hj => ?_⟩
      · rw [hadd] at hc0
        exact lt_of_cell hc0
      · obtain ⟨h0, h1, h2⟩ := hZ (j / 3) (by omega)
        rw [hadd] at h0 h1 h2
        rw [nth_getElem _ _ (by simp; omega), List.getElem_map, List.getElem_range]
        have h3 : j % 3 = 0 ∨ j % 3 = 1 ∨ j % 3 = 2 := by omega
        rcases h3 with h3 | h3 | h3
        · rw [show off + j / 3 * 3 = off + j by omega] at h0
          rw [h0]; simp [h3]
        · rw [show off + (j / 3 * 3 + 1) = off + j by omega] at h1
          rw [h1]; simp [h3]
        · rw [show off + (j / 3 * 3 + 2) = off + j by omega] at h2
          rw [h2]; simp [h3]
end Go.Proofs.YtgpfebpjiddjjaaDoor
