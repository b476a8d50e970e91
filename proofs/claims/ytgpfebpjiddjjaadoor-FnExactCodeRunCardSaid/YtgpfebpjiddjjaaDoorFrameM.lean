/- How a model that came in is read. -/
import Derived.Test.YtgpfebpjiddjjaaDoorFrame
import Derived.Test.YtgpfebpjiddjjaaDoorG
import Derived.Lib.SmallJoins
import Derived.Deep.Matrix
namespace Go.Proofs.YtgpfebpjiddjjaaDoor
set_option linter.unusedVariables false
open Go.ChangeShapes Go.WideShapes Go.ChangeAt Go.RowKit Go.Kt Go.Joins Go.Deep

set_option maxRecDepth 100000 in
theorem open_model {H : Type} {enc : TypeId × Value → H} {W : World} {r : Reach} {b0 base : Nat} {held : Bool} {v : Value} {d : DataW H} {p : List MemPlace}
    (hv : Value.okWide Tryd.prog W r b0 24 v) (h : DataW.Trod enc Tryd.prog W base (fun _ => true) held 24 v d p) :
    ∃ (st pp qq : Int) (a : Option Addr) (cap : Nat) (ll : List (List Int)), v = modelV st pp qq a ll.length cap ∧ RowsAt W a ll ∧ ll.length ≤ 9223372036854775807 ∧ ∀ i, i < ll.length → (rowI ll i).length ≤ 9223372036854775807 := by
  obtain ⟨v0, v1, v2, v3, y0, y1, y2, y3, n, rfl, -, -, h0, h1, h2, h3⟩ := open_agg4 Tryd.underlying24 (by kernel_rfl) (by kernel_rfl) hv h
  obtain ⟨st, e0, -, -⟩ := DataW.trod_int Tryd.underlying3 h0
  obtain ⟨pp, e1, -, -⟩ := DataW.trod_int Tryd.underlying3 h1
  obtain ⟨qq, e2, -, -⟩ := DataW.trod_int Tryd.underlying3 h2
  simp only [List.cons.injEq, and_true] at e0 e1 e2
  subst e0 e1 e2
  rcases open_int_rows Tryd.underlying22 Tryd.underlying41 Tryd.underlying3 (by kernel_rfl) (by kernel_rfl) h3 with ⟨e3, -⟩ | ⟨a, len, cap, A, L, C, Z, e3, -, hl, hm, -, hr⟩
  · simp only [List.cons.injEq, and_true] at e3
    subst e3
    exact ⟨st, pp, qq, none, 0, [], rfl, ⟨0, 0, fun h => absurd h (by simp), fun i h => absurd h (by simp)⟩, by simp, fun i h => absurd h (by simp)⟩
  · simp only [List.cons.injEq, and_true] at e3
    subst e3
    have hlen : ((List.range len).map fun r => (Z r).take (L r)).length = len := by simp
    have hrow : ∀ i, i < len → rowI ((List.range len).map fun r => (Z r).take (L r)) i = (Z i).take (L i) := fun i hi => by
      rw [rowI_getElem _ _ (by rw [hlen]; exact hi)]; simp
    have hrl : ∀ i, i < len → ((Z i).take (L i)).length = L i := fun i hi => by
      obtain ⟨_, g2, _, g4, _⟩ := hr i (by omega)
      rw [List.length_take]; omega
    refine ⟨st, pp, qq, some a, cap, (List.range len).map fun r => (Z r).take (L r), by rw [hlen], ?_, by rw [hlen]; unfold maxLen at hm; omega, fun i hi => ?_⟩
    · by_cases hz : len = 0
      · subst hz; exact ⟨0, 0, fun h => absurd h (by simp), fun i h => absurd h (by simp)⟩
      · obtain ⟨b, off, spot⟩ := a
        have hc0 := (hr 0 (by omega)).1
        have hspot : spot = none := by simpa [Addr.add] using World.cell?_spot hc0
        subst hspot
        have hadd : ∀ i, (⟨b, off, none⟩ : Addr).add i = ⟨b, off + i, none⟩ := fun i => by unfold Addr.add; split <;> simp_all
        refine ⟨b, off, fun _ => ⟨rfl, ?_⟩, fun i hi => ?_⟩
        · rw [hadd] at hc0
          exact lt_of_cell hc0
        · rw [hlen] at hi
          obtain ⟨g1, g2, g3, g4, g5, g6, g7⟩ := hr i (by omega)
          rw [hadd] at g1
          rw [hrow i hi, hrl i hi]
          refine ⟨A i, C i, g1, ?_⟩
          cases hA : A i with
          | none =>
            have hC := g6 hA
            have hL : L i = 0 := by omega
            rw [hL]
            exact ⟨0, 0, fun h => absurd h (by simp), fun i h => absurd h (by simp)⟩
          | some a' => exact intsAt_take (by omega) fun c hc => (g7 a' hA).2 c (by omega)
    · rw [hlen] at hi
      obtain ⟨g1, g2, g3, g4, _⟩ := hr i (by omega)
      rw [hrow i hi, hrl i hi]
      unfold maxLen at g3
      omega
end Go.Proofs.YtgpfebpjiddjjaaDoor
