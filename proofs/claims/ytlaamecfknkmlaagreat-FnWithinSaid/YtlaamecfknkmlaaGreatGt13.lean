/- Merged texts: contracts and plain lemmas (Yo, Yp). -/
import Derived.Test.YtlaamecfknkmlaaGreatGtKd
import Derived.Test.YtlaamecfknkmlaaGreatGtYk
import Derived.Test.YtlaamecfknkmlaaGreatGt12
namespace Go.Proofs.YtlaamecfknkmlaaGreat
set_option linter.unusedVariables false
open Go.RowKit Go.Kt

end Go.Proofs.YtlaamecfknkmlaaGreat
namespace Go.Kt
set_option linter.unusedVariables false
open Go.RowKit
theorem IntsAt.drawn {w w' : World} {b off g : Nat} {l : List Int} (h : IntsAt w (some ⟨b, off, none⟩) l) (t : Touched w w' g (g + 1)) (hb : g < b) : IntsAt w' (some ⟨b, off, none⟩) l := by
  obtain ⟨b', off', h1, h2⟩ := h
  by_cases hl : 0 < l.length
  · obtain ⟨e, hz⟩ := h1 hl
    obtain ⟨rfl, rfl⟩ : b = b' ∧ off = off' := by simpa using e
    refine ⟨b, off, fun _ => ⟨rfl, Nat.lt_of_lt_of_le hz t.size⟩, fun i hi => ?_⟩
    exact (World.cell?_of_block (a := ⟨b, off + i, none⟩) (t.block b hz (.inr (by omega)))).trans (h2 i hi)
  · exact ⟨0, 0, fun h => absurd h hl, fun i hi => absurd hi (by omega)⟩
end Go.Kt
namespace Go.Proofs.YtlaamecfknkmlaaGreat
set_option linter.unusedVariables false
open Go.RowKit Go.Kt

end Go.Proofs.YtlaamecfknkmlaaGreat
