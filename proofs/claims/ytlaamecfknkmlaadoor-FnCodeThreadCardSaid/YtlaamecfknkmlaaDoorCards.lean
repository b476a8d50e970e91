/-
  DERIVED. GIVEN WITH THE SEED: THE CARDS: each row of YtlaamecfknkmlaaDoorRows.lean that lists a variable, with what it lists TIED to the program's text (the seventh form; the later family's looks); each row that meets fmt, with fmt's text TOLD by the authors' own Lean function (tested against real Go, not proved from fmt's source: count such statements apart). THE CARD IS WHAT COUNTS. Prove the row's statement (the work); the ties are given (YtlaamecfknkmlaaDoorTie.lean); close each card by the builder's one call (the guide's Derived/Test/ToyasCard.lean, 'card_holds'). Laid BY PROGRAM, IN A SANDBOX (cutbox-door.mjs). By AI agents, Wed Nov 11 2026. No macro, syntax, notation, axiom, sorry.
-/
import Derived.Test.YtlaamecfknkmlaaDoorRows
import GoSem.ClaimSeven
namespace Go.Proofs.YtlaamecfknkmlaaDoor
namespace Rows

/-- THE TIED CARD OF 'laws.FnCertain'. -/
def fnCertainCard : Claim7 := { stood := { row := fnCertainRow, standIns := [], harness := (true, "0aee0ad6bebb82de0e4cd36d94f842dcb79377a60ec03a64f76385f192f6e58d"), looks := true }, kinds := [], alts := [], laidByText := true, laidKinds := [.mapped], laidTests := true, laidLooks := .later }
def FnCertainCardSaid : Prop := Claim7.holds Tryd.pinned (.plain (OpenSpec.ofChange fnCertainSpec)) fnCertainCard

/-- THE TIED CARD OF 'laws.FnCodeThread'. -/
def fnCodeThreadCard : Claim7 := { stood := { row := fnCodeThreadRow, standIns := [], harness := (true, "0aee0ad6bebb82de0e4cd36d94f842dcb79377a60ec03a64f76385f192f6e58d"), looks := true }, kinds := [], alts := [], laidByText := true, laidKinds := [.data, .data], laidTests := true, laidLooks := .later }
def FnCodeThreadCardSaid : Prop := Claim7.holds Tryd.pinned (.plain (OpenSpec.ofChange fnCodeThreadSpec)) fnCodeThreadCard

/-- THE SECOND FORM's CARD OF 'laws.FnCertain'. -/
def fnCertainUptoCard : Claim7 := { stood := { row := fnCertainUptoRow, standIns := [], harness := (true, "0aee0ad6bebb82de0e4cd36d94f842dcb79377a60ec03a64f76385f192f6e58d"), looks := true }, kinds := [], alts := [], laidByText := true, laidKinds := [.mapped], laidTests := true, laidLooks := .later }
def FnCertainUptoCardSaid : Prop := Claim7.holds Tryd.pinned (.plain (OpenSpec.upto fnCertainSpec)) fnCertainUptoCard

/-- THE SECOND FORM's CARD OF 'laws.FnCodeThread'. -/
def fnCodeThreadUptoCard : Claim7 := { stood := { row := fnCodeThreadUptoRow, standIns := [], harness := (true, "0aee0ad6bebb82de0e4cd36d94f842dcb79377a60ec03a64f76385f192f6e58d"), looks := true }, kinds := [], alts := [], laidByText := true, laidKinds := [.data, .data], laidTests := true, laidLooks := .later }
def FnCodeThreadUptoCardSaid : Prop := Claim7.holds Tryd.pinned (.plain (OpenSpec.upto fnCodeThreadSpec)) fnCodeThreadUptoCard
end Rows
end Go.Proofs.YtlaamecfknkmlaaDoor
