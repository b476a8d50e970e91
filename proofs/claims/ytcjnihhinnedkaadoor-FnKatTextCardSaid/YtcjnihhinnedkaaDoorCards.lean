/-
  DERIVED. GIVEN WITH THE SEED: THE CARDS: each row of YtcjnihhinnedkaaDoorRows.lean that lists a variable, with what it lists TIED to the program's text (the seventh form; the later family's looks); each row that meets fmt, with fmt's text TOLD by the authors' own Lean function (tested against real Go, not proved from fmt's source: count such statements apart). THE CARD IS WHAT COUNTS. Prove the row's statement (the work); the ties are given (YtcjnihhinnedkaaDoorTie.lean); close each card by the builder's one call (the guide's Derived/Test/ToyasCard.lean, 'card_holds'). Laid BY PROGRAM, IN A SANDBOX (cutbox-door.mjs). By AI agents, Wed Nov 11 2026. No macro, syntax, notation, axiom, sorry.
-/
import Derived.Test.YtcjnihhinnedkaaDoorRows
import GoSem.ClaimSeven
namespace Go.Proofs.YtcjnihhinnedkaaDoor
namespace Rows

/-- THE TIED CARD OF 'laws.FnExactKatText'. -/
def fnExactKatTextCard : Claim7 := { stood := { row := fnExactKatTextRow, standIns := [], harness := (true, "cdba06dd62f7e802c6b3f18da202e11fa960a662fcfa3bbbf95be31d8e4e295f"), looks := true }, kinds := [], alts := [], laidByText := true, laidKinds := [.mapped], laidTests := true, laidLooks := .later }
def FnExactKatTextCardSaid : Prop := Claim7.holds Tryd.pinned (.plain (OpenSpec.ofChange fnExactKatTextSpec)) fnExactKatTextCard

/-- THE TIED CARD OF 'laws.FnKatStar'. -/
def fnKatStarCard : Claim7 := { stood := { row := fnKatStarRow, standIns := [], harness := (true, "cdba06dd62f7e802c6b3f18da202e11fa960a662fcfa3bbbf95be31d8e4e295f"), looks := true }, kinds := [], alts := [], laidByText := true, laidKinds := [.mapped], laidTests := true, laidLooks := .later }
def FnKatStarCardSaid : Prop := Claim7.holds Tryd.pinned (.plain (OpenSpec.ofChange fnKatStarSpec)) fnKatStarCard

/-- THE TIED CARD OF 'laws.FnKatText'. -/
def fnKatTextCard : Claim7 := { stood := { row := fnKatTextRow, standIns := [], harness := (true, "cdba06dd62f7e802c6b3f18da202e11fa960a662fcfa3bbbf95be31d8e4e295f"), looks := true }, kinds := [], alts := [], laidByText := true, laidKinds := [.mapped], laidTests := true, laidLooks := .later }
def FnKatTextCardSaid : Prop := Claim7.holds Tryd.pinned (.plain (OpenSpec.ofChange fnKatTextSpec)) fnKatTextCard

/-- THE SECOND FORM's CARD OF 'laws.FnExactKatText'. -/
def fnExactKatTextUptoCard : Claim7 := { stood := { row := fnExactKatTextUptoRow, standIns := [], harness := (true, "cdba06dd62f7e802c6b3f18da202e11fa960a662fcfa3bbbf95be31d8e4e295f"), looks := true }, kinds := [], alts := [], laidByText := true, laidKinds := [.mapped], laidTests := true, laidLooks := .later }
def FnExactKatTextUptoCardSaid : Prop := Claim7.holds Tryd.pinned (.plain (OpenSpec.upto fnExactKatTextSpec)) fnExactKatTextUptoCard

/-- THE SECOND FORM's CARD OF 'laws.FnKatStar'. -/
def fnKatStarUptoCard : Claim7 := { stood := { row := fnKatStarUptoRow, standIns := [], harness := (true, "cdba06dd62f7e802c6b3f18da202e11fa960a662fcfa3bbbf95be31d8e4e295f"), looks := true }, kinds := [], alts := [], laidByText := true, laidKinds := [.mapped], laidTests := true, laidLooks := .later }
def FnKatStarUptoCardSaid : Prop := Claim7.holds Tryd.pinned (.plain (OpenSpec.upto fnKatStarSpec)) fnKatStarUptoCard

/-- THE SECOND FORM's CARD OF 'laws.FnKatText'. -/
def fnKatTextUptoCard : Claim7 := { stood := { row := fnKatTextUptoRow, standIns := [], harness := (true, "cdba06dd62f7e802c6b3f18da202e11fa960a662fcfa3bbbf95be31d8e4e295f"), looks := true }, kinds := [], alts := [], laidByText := true, laidKinds := [.mapped], laidTests := true, laidLooks := .later }
def FnKatTextUptoCardSaid : Prop := Claim7.holds Tryd.pinned (.plain (OpenSpec.upto fnKatTextSpec)) fnKatTextUptoCard
end Rows
end Go.Proofs.YtcjnihhinnedkaaDoor
