/-
  No cell of these rows narrows 'for every input' (looked for: loops, veiled, ifaces, maps, wideKeys, modest, calm, conditions, laid).
  DERIVED. THE GIVEN ROWS OF THIS SEAT. 19 by the template 'for every input the law returns true; each argument reads behind the call as it read before'; 0 by the template 'total and deterministic' (their statements: YtfaeiihgjoognaaTotals.lean).
  GIVEN WITH THE SEED: the statements are not yours to turn. If you find one false, say at which input.
  Laid BY PROGRAM, IN A SANDBOX (cutbox-rows.mjs): the forced cells as the released guide's own fill.sh prints them over the translation 7711d99161838666… (all of the seat's roots in one cut). By AI agents, Wed Nov 11 2026. No macro, syntax, notation, axiom, sorry.
-/
import Derived.Test.YtfaeiihgjoognaaChecked
import GoSem.Claim
import GoSem.ClaimJoined
import GoSem.ClaimMapViews
import Derived.JoinedTies
import Derived.KernelRfl
namespace Go.Proofs.Ytfaeiihgjoognaa
/- THE CELL 'sum', in the pinned program and in every row, IS THE sha256 OF THE DUMP (.gsa) THAT YtfaeiihgjoognaaProg.lean LOADS. Nothing in Lean hashes anything: it is a label: what it is worth is what the hold of that sum in a sandbox is worth. -/
noncomputable def Try.pinned : Pinned := { name := "ytfaeiihgjoognaa", sum := "7711d991618386662234bac4c9b17ac37bd3685bb022feeef1ef417c0efa42af", checked := Try.checked }
namespace Rows
def none {H : Type} : Left H := { results := [], args := [] }

/-- 'laws.FnExactRowsValid': WHATEVER THE INPUT: true; the input reads as it did. -/
def fnExactRowsValidSpec : ChangeSpec := { name := "fnExactRowsValid", fn := fun _ => fun
  | [d1, d2] => { results := [.lit (.bool true)], args := [d1, d2] }
  | _ => none }
def fnExactRowsValidRow : OpenClaim := { program := "ytfaeiihgjoognaa", sum := "7711d991618386662234bac4c9b17ac37bd3685bb022feeef1ef417c0efa42af", func := "loop.example/kleenetests/laws.FnExactRowsValid", spec := "fnExactRowsValid", unfollowed := true, recurses := true, apart := false }
def FnExactRowsValidSaid : Prop := fnExactRowsValidRow.holds Try.pinned (OpenSpec.ofChange fnExactRowsValidSpec)

/-- ITS FALSE NEIGHBOUR: 'it returns false'. Refute it at one input. -/
def fnExactRowsValidWrong : ChangeSpec := { name := "fnExactRowsValid", fn := fun _ => fun
  | [d1, d2] => { results := [.lit (.bool false)], args := [d1, d2] }
  | _ => none }
def FnExactRowsValidWrongFalsely : Prop := fnExactRowsValidRow.holds Try.pinned (OpenSpec.ofChange fnExactRowsValidWrong)

/-- 'laws.FnRowsValid': WHATEVER THE INPUT: true; the input reads as it did. -/
def fnRowsValidSpec : ChangeSpec := { name := "fnRowsValid", fn := fun _ => fun
  | [d] => { results := [.lit (.bool true)], args := [d] }
  | _ => none }
def fnRowsValidRow : OpenClaim := { program := "ytfaeiihgjoognaa", sum := "7711d991618386662234bac4c9b17ac37bd3685bb022feeef1ef417c0efa42af", func := "loop.example/kleenetests/laws.FnRowsValid", spec := "fnRowsValid", unfollowed := true, recurses := true, apart := false }
def FnRowsValidSaid : Prop := fnRowsValidRow.holds Try.pinned (OpenSpec.ofChange fnRowsValidSpec)

/-- ITS FALSE NEIGHBOUR: 'it returns false'. Refute it at one input. -/
def fnRowsValidWrong : ChangeSpec := { name := "fnRowsValid", fn := fun _ => fun
  | [d] => { results := [.lit (.bool false)], args := [d] }
  | _ => none }
def FnRowsValidWrongFalsely : Prop := fnRowsValidRow.holds Try.pinned (OpenSpec.ofChange fnRowsValidWrong)

/-- 'laws.FnExactRowsBack': WHATEVER THE INPUT: true; the input reads as it did. -/
def fnExactRowsBackSpec : ChangeSpec := { name := "fnExactRowsBack", fn := fun _ => fun
  | [d1, d2] => { results := [.lit (.bool true)], args := [d1, d2] }
  | _ => none }
def fnExactRowsBackRow : OpenClaim := { program := "ytfaeiihgjoognaa", sum := "7711d991618386662234bac4c9b17ac37bd3685bb022feeef1ef417c0efa42af", func := "loop.example/kleenetests/laws.FnExactRowsBack", spec := "fnExactRowsBack", unfollowed := true, recurses := true, apart := false }
def FnExactRowsBackSaid : Prop := fnExactRowsBackRow.holds Try.pinned (OpenSpec.ofChange fnExactRowsBackSpec)

/-- ITS FALSE NEIGHBOUR: 'it returns false'. Refute it at one input. -/
def fnExactRowsBackWrong : ChangeSpec := { name := "fnExactRowsBack", fn := fun _ => fun
  | [d1, d2] => { results := [.lit (.bool false)], args := [d1, d2] }
  | _ => none }
def FnExactRowsBackWrongFalsely : Prop := fnExactRowsBackRow.holds Try.pinned (OpenSpec.ofChange fnExactRowsBackWrong)

/-- 'laws.FnExactRowsPlus': WHATEVER THE INPUT: true; the input reads as it did. -/
def fnExactRowsPlusSpec : ChangeSpec := { name := "fnExactRowsPlus", fn := fun _ => fun
  | [d1, d2, d3] => { results := [.lit (.bool true)], args := [d1, d2, d3] }
  | _ => none }
def fnExactRowsPlusRow : OpenClaim := { program := "ytfaeiihgjoognaa", sum := "7711d991618386662234bac4c9b17ac37bd3685bb022feeef1ef417c0efa42af", func := "loop.example/kleenetests/laws.FnExactRowsPlus", spec := "fnExactRowsPlus", unfollowed := true, recurses := true, apart := false }
def FnExactRowsPlusSaid : Prop := fnExactRowsPlusRow.holds Try.pinned (OpenSpec.ofChange fnExactRowsPlusSpec)

/-- ITS FALSE NEIGHBOUR: 'it returns false'. Refute it at one input. -/
def fnExactRowsPlusWrong : ChangeSpec := { name := "fnExactRowsPlus", fn := fun _ => fun
  | [d1, d2, d3] => { results := [.lit (.bool false)], args := [d1, d2, d3] }
  | _ => none }
def FnExactRowsPlusWrongFalsely : Prop := fnExactRowsPlusRow.holds Try.pinned (OpenSpec.ofChange fnExactRowsPlusWrong)

/-- 'laws.FnExactRowsThen': WHATEVER THE INPUT: true; the input reads as it did. -/
def fnExactRowsThenSpec : ChangeSpec := { name := "fnExactRowsThen", fn := fun _ => fun
  | [d1, d2, d3] => { results := [.lit (.bool true)], args := [d1, d2, d3] }
  | _ => none }
def fnExactRowsThenRow : OpenClaim := { program := "ytfaeiihgjoognaa", sum := "7711d991618386662234bac4c9b17ac37bd3685bb022feeef1ef417c0efa42af", func := "loop.example/kleenetests/laws.FnExactRowsThen", spec := "fnExactRowsThen", unfollowed := true, recurses := true, apart := false }
def FnExactRowsThenSaid : Prop := fnExactRowsThenRow.holds Try.pinned (OpenSpec.ofChange fnExactRowsThenSpec)

/-- ITS FALSE NEIGHBOUR: 'it returns false'. Refute it at one input. -/
def fnExactRowsThenWrong : ChangeSpec := { name := "fnExactRowsThen", fn := fun _ => fun
  | [d1, d2, d3] => { results := [.lit (.bool false)], args := [d1, d2, d3] }
  | _ => none }
def FnExactRowsThenWrongFalsely : Prop := fnExactRowsThenRow.holds Try.pinned (OpenSpec.ofChange fnExactRowsThenWrong)

/-- 'laws.FnExactRowsStar': WHATEVER THE INPUT: true; the input reads as it did. -/
def fnExactRowsStarSpec : ChangeSpec := { name := "fnExactRowsStar", fn := fun _ => fun
  | [d1, d2] => { results := [.lit (.bool true)], args := [d1, d2] }
  | _ => none }
def fnExactRowsStarRow : OpenClaim := { program := "ytfaeiihgjoognaa", sum := "7711d991618386662234bac4c9b17ac37bd3685bb022feeef1ef417c0efa42af", func := "loop.example/kleenetests/laws.FnExactRowsStar", spec := "fnExactRowsStar", unfollowed := true, recurses := true, apart := false }
def FnExactRowsStarSaid : Prop := fnExactRowsStarRow.holds Try.pinned (OpenSpec.ofChange fnExactRowsStarSpec)

/-- ITS FALSE NEIGHBOUR: 'it returns false'. Refute it at one input. -/
def fnExactRowsStarWrong : ChangeSpec := { name := "fnExactRowsStar", fn := fun _ => fun
  | [d1, d2] => { results := [.lit (.bool false)], args := [d1, d2] }
  | _ => none }
def FnExactRowsStarWrongFalsely : Prop := fnExactRowsStarRow.holds Try.pinned (OpenSpec.ofChange fnExactRowsStarWrong)

/-- 'laws.FnModelValid': WHATEVER THE INPUT: true; the input reads as it did. -/
def fnModelValidSpec : ChangeSpec := { name := "fnModelValid", fn := fun _ => fun
  | [d] => { results := [.lit (.bool true)], args := [d] }
  | _ => none }
def fnModelValidRow : OpenClaim := { program := "ytfaeiihgjoognaa", sum := "7711d991618386662234bac4c9b17ac37bd3685bb022feeef1ef417c0efa42af", func := "loop.example/kleenetests/laws.FnModelValid", spec := "fnModelValid", unfollowed := true, recurses := true, apart := false }
def FnModelValidSaid : Prop := fnModelValidRow.holds Try.pinned (OpenSpec.ofChange fnModelValidSpec)

/-- ITS FALSE NEIGHBOUR: 'it returns false'. Refute it at one input. -/
def fnModelValidWrong : ChangeSpec := { name := "fnModelValid", fn := fun _ => fun
  | [d] => { results := [.lit (.bool false)], args := [d] }
  | _ => none }
def FnModelValidWrongFalsely : Prop := fnModelValidRow.holds Try.pinned (OpenSpec.ofChange fnModelValidWrong)

/-- 'laws.FnRowsBack': WHATEVER THE INPUT: true; the input reads as it did. -/
def fnRowsBackSpec : ChangeSpec := { name := "fnRowsBack", fn := fun _ => fun
  | [d] => { results := [.lit (.bool true)], args := [d] }
  | _ => none }
def fnRowsBackRow : OpenClaim := { program := "ytfaeiihgjoognaa", sum := "7711d991618386662234bac4c9b17ac37bd3685bb022feeef1ef417c0efa42af", func := "loop.example/kleenetests/laws.FnRowsBack", spec := "fnRowsBack", unfollowed := true, recurses := true, apart := false }
def FnRowsBackSaid : Prop := fnRowsBackRow.holds Try.pinned (OpenSpec.ofChange fnRowsBackSpec)

/-- ITS FALSE NEIGHBOUR: 'it returns false'. Refute it at one input. -/
def fnRowsBackWrong : ChangeSpec := { name := "fnRowsBack", fn := fun _ => fun
  | [d] => { results := [.lit (.bool false)], args := [d] }
  | _ => none }
def FnRowsBackWrongFalsely : Prop := fnRowsBackRow.holds Try.pinned (OpenSpec.ofChange fnRowsBackWrong)

/-- 'laws.FnExactModelValid': WHATEVER THE INPUT: true; the input reads as it did. -/
def fnExactModelValidSpec : ChangeSpec := { name := "fnExactModelValid", fn := fun _ => fun
  | [d] => { results := [.lit (.bool true)], args := [d] }
  | _ => none }
def fnExactModelValidRow : OpenClaim := { program := "ytfaeiihgjoognaa", sum := "7711d991618386662234bac4c9b17ac37bd3685bb022feeef1ef417c0efa42af", func := "loop.example/kleenetests/laws.FnExactModelValid", spec := "fnExactModelValid", unfollowed := true, recurses := true, apart := false }
def FnExactModelValidSaid : Prop := fnExactModelValidRow.holds Try.pinned (OpenSpec.ofChange fnExactModelValidSpec)

/-- ITS FALSE NEIGHBOUR: 'it returns false'. Refute it at one input. -/
def fnExactModelValidWrong : ChangeSpec := { name := "fnExactModelValid", fn := fun _ => fun
  | [d] => { results := [.lit (.bool false)], args := [d] }
  | _ => none }
def FnExactModelValidWrongFalsely : Prop := fnExactModelValidRow.holds Try.pinned (OpenSpec.ofChange fnExactModelValidWrong)

/-- 'laws.FnAtomOf': WHATEVER THE INPUT: true; the input reads as it did. -/
def fnAtomOfSpec : ChangeSpec := { name := "fnAtomOf", fn := fun _ => fun
  | [d] => { results := [.lit (.bool true)], args := [d] }
  | _ => none }
def fnAtomOfRow : OpenClaim := { program := "ytfaeiihgjoognaa", sum := "7711d991618386662234bac4c9b17ac37bd3685bb022feeef1ef417c0efa42af", func := "loop.example/kleenetests/laws.FnAtomOf", spec := "fnAtomOf", unfollowed := true, recurses := true, apart := false }
def FnAtomOfSaid : Prop := fnAtomOfRow.holds Try.pinned (OpenSpec.ofChange fnAtomOfSpec)

/-- ITS FALSE NEIGHBOUR: 'it returns false'. Refute it at one input. -/
def fnAtomOfWrong : ChangeSpec := { name := "fnAtomOf", fn := fun _ => fun
  | [d] => { results := [.lit (.bool false)], args := [d] }
  | _ => none }
def FnAtomOfWrongFalsely : Prop := fnAtomOfRow.holds Try.pinned (OpenSpec.ofChange fnAtomOfWrong)

/-- 'laws.FnRowsPlus': WHATEVER THE INPUT: true; the input reads as it did. -/
def fnRowsPlusSpec : ChangeSpec := { name := "fnRowsPlus", fn := fun _ => fun
  | [d] => { results := [.lit (.bool true)], args := [d] }
  | _ => none }
def fnRowsPlusRow : OpenClaim := { program := "ytfaeiihgjoognaa", sum := "7711d991618386662234bac4c9b17ac37bd3685bb022feeef1ef417c0efa42af", func := "loop.example/kleenetests/laws.FnRowsPlus", spec := "fnRowsPlus", unfollowed := true, recurses := true, apart := false }
def FnRowsPlusSaid : Prop := fnRowsPlusRow.holds Try.pinned (OpenSpec.ofChange fnRowsPlusSpec)

/-- ITS FALSE NEIGHBOUR: 'it returns false'. Refute it at one input. -/
def fnRowsPlusWrong : ChangeSpec := { name := "fnRowsPlus", fn := fun _ => fun
  | [d] => { results := [.lit (.bool false)], args := [d] }
  | _ => none }
def FnRowsPlusWrongFalsely : Prop := fnRowsPlusRow.holds Try.pinned (OpenSpec.ofChange fnRowsPlusWrong)

/-- 'laws.FnExactAtomOf': WHATEVER THE INPUT: true; the input reads as it did. -/
def fnExactAtomOfSpec : ChangeSpec := { name := "fnExactAtomOf", fn := fun _ => fun
  | [d1, d2] => { results := [.lit (.bool true)], args := [d1, d2] }
  | _ => none }
def fnExactAtomOfRow : OpenClaim := { program := "ytfaeiihgjoognaa", sum := "7711d991618386662234bac4c9b17ac37bd3685bb022feeef1ef417c0efa42af", func := "loop.example/kleenetests/laws.FnExactAtomOf", spec := "fnExactAtomOf", unfollowed := true, recurses := true, apart := false }
def FnExactAtomOfSaid : Prop := fnExactAtomOfRow.holds Try.pinned (OpenSpec.ofChange fnExactAtomOfSpec)

/-- ITS FALSE NEIGHBOUR: 'it returns false'. Refute it at one input. -/
def fnExactAtomOfWrong : ChangeSpec := { name := "fnExactAtomOf", fn := fun _ => fun
  | [d1, d2] => { results := [.lit (.bool false)], args := [d1, d2] }
  | _ => none }
def FnExactAtomOfWrongFalsely : Prop := fnExactAtomOfRow.holds Try.pinned (OpenSpec.ofChange fnExactAtomOfWrong)

/-- 'laws.FnRowsThen': WHATEVER THE INPUT: true; the input reads as it did. -/
def fnRowsThenSpec : ChangeSpec := { name := "fnRowsThen", fn := fun _ => fun
  | [d1, d2] => { results := [.lit (.bool true)], args := [d1, d2] }
  | _ => none }
def fnRowsThenRow : OpenClaim := { program := "ytfaeiihgjoognaa", sum := "7711d991618386662234bac4c9b17ac37bd3685bb022feeef1ef417c0efa42af", func := "loop.example/kleenetests/laws.FnRowsThen", spec := "fnRowsThen", unfollowed := true, recurses := true, apart := false }
def FnRowsThenSaid : Prop := fnRowsThenRow.holds Try.pinned (OpenSpec.ofChange fnRowsThenSpec)

/-- ITS FALSE NEIGHBOUR: 'it returns false'. Refute it at one input. -/
def fnRowsThenWrong : ChangeSpec := { name := "fnRowsThen", fn := fun _ => fun
  | [d1, d2] => { results := [.lit (.bool false)], args := [d1, d2] }
  | _ => none }
def FnRowsThenWrongFalsely : Prop := fnRowsThenRow.holds Try.pinned (OpenSpec.ofChange fnRowsThenWrong)

/-- 'laws.FnExactCertain': WHATEVER THE INPUT: true; the input reads as it did. -/
def fnExactCertainSpec : ChangeSpec := { name := "fnExactCertain", fn := fun _ => fun
  | [d] => { results := [.lit (.bool true)], args := [d] }
  | _ => none }
def fnExactCertainRow : OpenClaim := { program := "ytfaeiihgjoognaa", sum := "7711d991618386662234bac4c9b17ac37bd3685bb022feeef1ef417c0efa42af", func := "loop.example/kleenetests/laws.FnExactCertain", spec := "fnExactCertain", unfollowed := true, recurses := true, apart := false }
def FnExactCertainSaid : Prop := fnExactCertainRow.holds Try.pinned (OpenSpec.ofChange fnExactCertainSpec)

/-- ITS FALSE NEIGHBOUR: 'it returns false'. Refute it at one input. -/
def fnExactCertainWrong : ChangeSpec := { name := "fnExactCertain", fn := fun _ => fun
  | [d] => { results := [.lit (.bool false)], args := [d] }
  | _ => none }
def FnExactCertainWrongFalsely : Prop := fnExactCertainRow.holds Try.pinned (OpenSpec.ofChange fnExactCertainWrong)

/-- 'laws.FnExactTestStates': WHATEVER THE INPUT: true; the input reads as it did. -/
def fnExactTestStatesSpec : ChangeSpec := { name := "fnExactTestStates", fn := fun _ => fun
  | [d1, d2] => { results := [.lit (.bool true)], args := [d1, d2] }
  | _ => none }
def fnExactTestStatesRow : OpenClaim := { program := "ytfaeiihgjoognaa", sum := "7711d991618386662234bac4c9b17ac37bd3685bb022feeef1ef417c0efa42af", func := "loop.example/kleenetests/laws.FnExactTestStates", spec := "fnExactTestStates", unfollowed := true, recurses := true, apart := false }
def FnExactTestStatesSaid : Prop := fnExactTestStatesRow.holds Try.pinned (OpenSpec.ofChange fnExactTestStatesSpec)

/-- ITS FALSE NEIGHBOUR: 'it returns false'. Refute it at one input. -/
def fnExactTestStatesWrong : ChangeSpec := { name := "fnExactTestStates", fn := fun _ => fun
  | [d1, d2] => { results := [.lit (.bool false)], args := [d1, d2] }
  | _ => none }
def FnExactTestStatesWrongFalsely : Prop := fnExactTestStatesRow.holds Try.pinned (OpenSpec.ofChange fnExactTestStatesWrong)

/-- 'laws.FnTestStates': WHATEVER THE INPUT: true; the input reads as it did. -/
def fnTestStatesSpec : ChangeSpec := { name := "fnTestStates", fn := fun _ => fun
  | [d] => { results := [.lit (.bool true)], args := [d] }
  | _ => none }
def fnTestStatesRow : OpenClaim := { program := "ytfaeiihgjoognaa", sum := "7711d991618386662234bac4c9b17ac37bd3685bb022feeef1ef417c0efa42af", func := "loop.example/kleenetests/laws.FnTestStates", spec := "fnTestStates", unfollowed := true, recurses := true, apart := false }
def FnTestStatesSaid : Prop := fnTestStatesRow.holds Try.pinned (OpenSpec.ofChange fnTestStatesSpec)

/-- ITS FALSE NEIGHBOUR: 'it returns false'. Refute it at one input. -/
def fnTestStatesWrong : ChangeSpec := { name := "fnTestStates", fn := fun _ => fun
  | [d] => { results := [.lit (.bool false)], args := [d] }
  | _ => none }
def FnTestStatesWrongFalsely : Prop := fnTestStatesRow.holds Try.pinned (OpenSpec.ofChange fnTestStatesWrong)

/-- 'laws.FnRowsStar': WHATEVER THE INPUT: true; the input reads as it did. -/
def fnRowsStarSpec : ChangeSpec := { name := "fnRowsStar", fn := fun _ => fun
  | [d] => { results := [.lit (.bool true)], args := [d] }
  | _ => none }
def fnRowsStarRow : OpenClaim := { program := "ytfaeiihgjoognaa", sum := "7711d991618386662234bac4c9b17ac37bd3685bb022feeef1ef417c0efa42af", func := "loop.example/kleenetests/laws.FnRowsStar", spec := "fnRowsStar", unfollowed := true, recurses := true, apart := false }
def FnRowsStarSaid : Prop := fnRowsStarRow.holds Try.pinned (OpenSpec.ofChange fnRowsStarSpec)

/-- ITS FALSE NEIGHBOUR: 'it returns false'. Refute it at one input. -/
def fnRowsStarWrong : ChangeSpec := { name := "fnRowsStar", fn := fun _ => fun
  | [d] => { results := [.lit (.bool false)], args := [d] }
  | _ => none }
def FnRowsStarWrongFalsely : Prop := fnRowsStarRow.holds Try.pinned (OpenSpec.ofChange fnRowsStarWrong)

/-- 'laws.FnModelBack': WHATEVER THE INPUT: true; the input reads as it did. -/
def fnModelBackSpec : ChangeSpec := { name := "fnModelBack", fn := fun _ => fun
  | [d] => { results := [.lit (.bool true)], args := [d] }
  | _ => none }
def fnModelBackRow : OpenClaim := { program := "ytfaeiihgjoognaa", sum := "7711d991618386662234bac4c9b17ac37bd3685bb022feeef1ef417c0efa42af", func := "loop.example/kleenetests/laws.FnModelBack", spec := "fnModelBack", unfollowed := true, recurses := true, apart := false }
def FnModelBackSaid : Prop := fnModelBackRow.holds Try.pinned (OpenSpec.ofChange fnModelBackSpec)

/-- ITS FALSE NEIGHBOUR: 'it returns false'. Refute it at one input. -/
def fnModelBackWrong : ChangeSpec := { name := "fnModelBack", fn := fun _ => fun
  | [d] => { results := [.lit (.bool false)], args := [d] }
  | _ => none }
def FnModelBackWrongFalsely : Prop := fnModelBackRow.holds Try.pinned (OpenSpec.ofChange fnModelBackWrong)

/-- 'laws.FnExactModelBack': WHATEVER THE INPUT: true; the input reads as it did. -/
def fnExactModelBackSpec : ChangeSpec := { name := "fnExactModelBack", fn := fun _ => fun
  | [d] => { results := [.lit (.bool true)], args := [d] }
  | _ => none }
def fnExactModelBackRow : OpenClaim := { program := "ytfaeiihgjoognaa", sum := "7711d991618386662234bac4c9b17ac37bd3685bb022feeef1ef417c0efa42af", func := "loop.example/kleenetests/laws.FnExactModelBack", spec := "fnExactModelBack", unfollowed := true, recurses := true, apart := false }
def FnExactModelBackSaid : Prop := fnExactModelBackRow.holds Try.pinned (OpenSpec.ofChange fnExactModelBackSpec)

/-- ITS FALSE NEIGHBOUR: 'it returns false'. Refute it at one input. -/
def fnExactModelBackWrong : ChangeSpec := { name := "fnExactModelBack", fn := fun _ => fun
  | [d] => { results := [.lit (.bool false)], args := [d] }
  | _ => none }
def FnExactModelBackWrongFalsely : Prop := fnExactModelBackRow.holds Try.pinned (OpenSpec.ofChange fnExactModelBackWrong)

/- THE SECOND FORM. 'bulk': how many values and letters a reading holds, each counted each time it is reached (what is shared counts as often as it is met; a slice's spare places count too). A statement '..UptoSaid' is the law's where the arguments, and the package variables that the reading takes, are together of bulk at most 1048576: NARROWER than '..Said'. Prove '..Said' where nothing that the law and all that it calls make is longer than what came in: it says more and counts as full. Else prove '..UptoSaid'. A law counts once. -/
mutual
def uptoBulk {H : Type} : DataW H → Nat
  | .lit (.string bytes) => bytes.length + 1
  | .lit _ => 1
  | .nil => 1
  | .ptr d => uptoBulk d + 1
  | .slice elems spare => uptoBulkAll elems + uptoBulkAll spare + 1
  | .agg parts => uptoBulkAll parts + 1
  | .iface _ d => uptoBulk d + 1
  | .map entries => uptoBulkEntries entries + 1
  | .held _ => 1
def uptoBulkAll {H : Type} : List (DataW H) → Nat
  | [] => 0
  | d :: r => uptoBulk d + uptoBulkAll r
def uptoBulkEntries {H : Type} : List (Lit × DataW H) → Nat
  | [] => 0
  | x :: r => uptoBulkEntry x + uptoBulkEntries r
def uptoBulkEntry {H : Type} : Lit × DataW H → Nat
  | (.string bytes, d) => bytes.length + uptoBulk d + 1
  | (_, d) => uptoBulk d + 1
 end
def uptoSmall : (H : Type) → List (DataW H) → Bool := fun _ ds => decide (uptoBulkAll ds ≤ 1048576)
def OpenSpec.upto (s : _root_.Go.ChangeSpec) : _root_.Go.OpenSpec := { _root_.Go.OpenSpec.ofChange s with cond := some uptoSmall }

/-- 'laws.FnExactRowsValid', WHERE WHAT IT READS IS OF BULK AT MOST 1048576: true; the input reads as it did. -/
def fnExactRowsValidUptoRow : OpenClaim := { program := "ytfaeiihgjoognaa", sum := "7711d991618386662234bac4c9b17ac37bd3685bb022feeef1ef417c0efa42af", func := "loop.example/kleenetests/laws.FnExactRowsValid", spec := "fnExactRowsValid", unfollowed := true, recurses := true, apart := false, narrowed := true }
def FnExactRowsValidUptoSaid : Prop := fnExactRowsValidUptoRow.holds Try.pinned (OpenSpec.upto fnExactRowsValidSpec)

/-- 'laws.FnRowsValid', WHERE WHAT IT READS IS OF BULK AT MOST 1048576: true; the input reads as it did. -/
def fnRowsValidUptoRow : OpenClaim := { program := "ytfaeiihgjoognaa", sum := "7711d991618386662234bac4c9b17ac37bd3685bb022feeef1ef417c0efa42af", func := "loop.example/kleenetests/laws.FnRowsValid", spec := "fnRowsValid", unfollowed := true, recurses := true, apart := false, narrowed := true }
def FnRowsValidUptoSaid : Prop := fnRowsValidUptoRow.holds Try.pinned (OpenSpec.upto fnRowsValidSpec)

/-- 'laws.FnExactRowsBack', WHERE WHAT IT READS IS OF BULK AT MOST 1048576: true; the input reads as it did. -/
def fnExactRowsBackUptoRow : OpenClaim := { program := "ytfaeiihgjoognaa", sum := "7711d991618386662234bac4c9b17ac37bd3685bb022feeef1ef417c0efa42af", func := "loop.example/kleenetests/laws.FnExactRowsBack", spec := "fnExactRowsBack", unfollowed := true, recurses := true, apart := false, narrowed := true }
def FnExactRowsBackUptoSaid : Prop := fnExactRowsBackUptoRow.holds Try.pinned (OpenSpec.upto fnExactRowsBackSpec)

/-- 'laws.FnExactRowsPlus', WHERE WHAT IT READS IS OF BULK AT MOST 1048576: true; the input reads as it did. -/
def fnExactRowsPlusUptoRow : OpenClaim := { program := "ytfaeiihgjoognaa", sum := "7711d991618386662234bac4c9b17ac37bd3685bb022feeef1ef417c0efa42af", func := "loop.example/kleenetests/laws.FnExactRowsPlus", spec := "fnExactRowsPlus", unfollowed := true, recurses := true, apart := false, narrowed := true }
def FnExactRowsPlusUptoSaid : Prop := fnExactRowsPlusUptoRow.holds Try.pinned (OpenSpec.upto fnExactRowsPlusSpec)

/-- 'laws.FnExactRowsThen', WHERE WHAT IT READS IS OF BULK AT MOST 1048576: true; the input reads as it did. -/
def fnExactRowsThenUptoRow : OpenClaim := { program := "ytfaeiihgjoognaa", sum := "7711d991618386662234bac4c9b17ac37bd3685bb022feeef1ef417c0efa42af", func := "loop.example/kleenetests/laws.FnExactRowsThen", spec := "fnExactRowsThen", unfollowed := true, recurses := true, apart := false, narrowed := true }
def FnExactRowsThenUptoSaid : Prop := fnExactRowsThenUptoRow.holds Try.pinned (OpenSpec.upto fnExactRowsThenSpec)

/-- 'laws.FnExactRowsStar', WHERE WHAT IT READS IS OF BULK AT MOST 1048576: true; the input reads as it did. -/
def fnExactRowsStarUptoRow : OpenClaim := { program := "ytfaeiihgjoognaa", sum := "7711d991618386662234bac4c9b17ac37bd3685bb022feeef1ef417c0efa42af", func := "loop.example/kleenetests/laws.FnExactRowsStar", spec := "fnExactRowsStar", unfollowed := true, recurses := true, apart := false, narrowed := true }
def FnExactRowsStarUptoSaid : Prop := fnExactRowsStarUptoRow.holds Try.pinned (OpenSpec.upto fnExactRowsStarSpec)

/-- 'laws.FnModelValid', WHERE WHAT IT READS IS OF BULK AT MOST 1048576: true; the input reads as it did. -/
def fnModelValidUptoRow : OpenClaim := { program := "ytfaeiihgjoognaa", sum := "7711d991618386662234bac4c9b17ac37bd3685bb022feeef1ef417c0efa42af", func := "loop.example/kleenetests/laws.FnModelValid", spec := "fnModelValid", unfollowed := true, recurses := true, apart := false, narrowed := true }
def FnModelValidUptoSaid : Prop := fnModelValidUptoRow.holds Try.pinned (OpenSpec.upto fnModelValidSpec)

/-- 'laws.FnRowsBack', WHERE WHAT IT READS IS OF BULK AT MOST 1048576: true; the input reads as it did. -/
def fnRowsBackUptoRow : OpenClaim := { program := "ytfaeiihgjoognaa", sum := "7711d991618386662234bac4c9b17ac37bd3685bb022feeef1ef417c0efa42af", func := "loop.example/kleenetests/laws.FnRowsBack", spec := "fnRowsBack", unfollowed := true, recurses := true, apart := false, narrowed := true }
def FnRowsBackUptoSaid : Prop := fnRowsBackUptoRow.holds Try.pinned (OpenSpec.upto fnRowsBackSpec)

/-- 'laws.FnExactModelValid', WHERE WHAT IT READS IS OF BULK AT MOST 1048576: true; the input reads as it did. -/
def fnExactModelValidUptoRow : OpenClaim := { program := "ytfaeiihgjoognaa", sum := "7711d991618386662234bac4c9b17ac37bd3685bb022feeef1ef417c0efa42af", func := "loop.example/kleenetests/laws.FnExactModelValid", spec := "fnExactModelValid", unfollowed := true, recurses := true, apart := false, narrowed := true }
def FnExactModelValidUptoSaid : Prop := fnExactModelValidUptoRow.holds Try.pinned (OpenSpec.upto fnExactModelValidSpec)

/-- 'laws.FnAtomOf', WHERE WHAT IT READS IS OF BULK AT MOST 1048576: true; the input reads as it did. -/
def fnAtomOfUptoRow : OpenClaim := { program := "ytfaeiihgjoognaa", sum := "7711d991618386662234bac4c9b17ac37bd3685bb022feeef1ef417c0efa42af", func := "loop.example/kleenetests/laws.FnAtomOf", spec := "fnAtomOf", unfollowed := true, recurses := true, apart := false, narrowed := true }
def FnAtomOfUptoSaid : Prop := fnAtomOfUptoRow.holds Try.pinned (OpenSpec.upto fnAtomOfSpec)

/-- 'laws.FnRowsPlus', WHERE WHAT IT READS IS OF BULK AT MOST 1048576: true; the input reads as it did. -/
def fnRowsPlusUptoRow : OpenClaim := { program := "ytfaeiihgjoognaa", sum := "7711d991618386662234bac4c9b17ac37bd3685bb022feeef1ef417c0efa42af", func := "loop.example/kleenetests/laws.FnRowsPlus", spec := "fnRowsPlus", unfollowed := true, recurses := true, apart := false, narrowed := true }
def FnRowsPlusUptoSaid : Prop := fnRowsPlusUptoRow.holds Try.pinned (OpenSpec.upto fnRowsPlusSpec)

/-- 'laws.FnExactAtomOf', WHERE WHAT IT READS IS OF BULK AT MOST 1048576: true; the input reads as it did. -/
def fnExactAtomOfUptoRow : OpenClaim := { program := "ytfaeiihgjoognaa", sum := "7711d991618386662234bac4c9b17ac37bd3685bb022feeef1ef417c0efa42af", func := "loop.example/kleenetests/laws.FnExactAtomOf", spec := "fnExactAtomOf", unfollowed := true, recurses := true, apart := false, narrowed := true }
def FnExactAtomOfUptoSaid : Prop := fnExactAtomOfUptoRow.holds Try.pinned (OpenSpec.upto fnExactAtomOfSpec)

/-- 'laws.FnRowsThen', WHERE WHAT IT READS IS OF BULK AT MOST 1048576: true; the input reads as it did. -/
def fnRowsThenUptoRow : OpenClaim := { program := "ytfaeiihgjoognaa", sum := "7711d991618386662234bac4c9b17ac37bd3685bb022feeef1ef417c0efa42af", func := "loop.example/kleenetests/laws.FnRowsThen", spec := "fnRowsThen", unfollowed := true, recurses := true, apart := false, narrowed := true }
def FnRowsThenUptoSaid : Prop := fnRowsThenUptoRow.holds Try.pinned (OpenSpec.upto fnRowsThenSpec)

/-- 'laws.FnExactCertain', WHERE WHAT IT READS IS OF BULK AT MOST 1048576: true; the input reads as it did. -/
def fnExactCertainUptoRow : OpenClaim := { program := "ytfaeiihgjoognaa", sum := "7711d991618386662234bac4c9b17ac37bd3685bb022feeef1ef417c0efa42af", func := "loop.example/kleenetests/laws.FnExactCertain", spec := "fnExactCertain", unfollowed := true, recurses := true, apart := false, narrowed := true }
def FnExactCertainUptoSaid : Prop := fnExactCertainUptoRow.holds Try.pinned (OpenSpec.upto fnExactCertainSpec)

/-- 'laws.FnExactTestStates', WHERE WHAT IT READS IS OF BULK AT MOST 1048576: true; the input reads as it did. -/
def fnExactTestStatesUptoRow : OpenClaim := { program := "ytfaeiihgjoognaa", sum := "7711d991618386662234bac4c9b17ac37bd3685bb022feeef1ef417c0efa42af", func := "loop.example/kleenetests/laws.FnExactTestStates", spec := "fnExactTestStates", unfollowed := true, recurses := true, apart := false, narrowed := true }
def FnExactTestStatesUptoSaid : Prop := fnExactTestStatesUptoRow.holds Try.pinned (OpenSpec.upto fnExactTestStatesSpec)

/-- 'laws.FnTestStates', WHERE WHAT IT READS IS OF BULK AT MOST 1048576: true; the input reads as it did. -/
def fnTestStatesUptoRow : OpenClaim := { program := "ytfaeiihgjoognaa", sum := "7711d991618386662234bac4c9b17ac37bd3685bb022feeef1ef417c0efa42af", func := "loop.example/kleenetests/laws.FnTestStates", spec := "fnTestStates", unfollowed := true, recurses := true, apart := false, narrowed := true }
def FnTestStatesUptoSaid : Prop := fnTestStatesUptoRow.holds Try.pinned (OpenSpec.upto fnTestStatesSpec)

/-- 'laws.FnRowsStar', WHERE WHAT IT READS IS OF BULK AT MOST 1048576: true; the input reads as it did. -/
def fnRowsStarUptoRow : OpenClaim := { program := "ytfaeiihgjoognaa", sum := "7711d991618386662234bac4c9b17ac37bd3685bb022feeef1ef417c0efa42af", func := "loop.example/kleenetests/laws.FnRowsStar", spec := "fnRowsStar", unfollowed := true, recurses := true, apart := false, narrowed := true }
def FnRowsStarUptoSaid : Prop := fnRowsStarUptoRow.holds Try.pinned (OpenSpec.upto fnRowsStarSpec)

/-- 'laws.FnModelBack', WHERE WHAT IT READS IS OF BULK AT MOST 1048576: true; the input reads as it did. -/
def fnModelBackUptoRow : OpenClaim := { program := "ytfaeiihgjoognaa", sum := "7711d991618386662234bac4c9b17ac37bd3685bb022feeef1ef417c0efa42af", func := "loop.example/kleenetests/laws.FnModelBack", spec := "fnModelBack", unfollowed := true, recurses := true, apart := false, narrowed := true }
def FnModelBackUptoSaid : Prop := fnModelBackUptoRow.holds Try.pinned (OpenSpec.upto fnModelBackSpec)

/-- 'laws.FnExactModelBack', WHERE WHAT IT READS IS OF BULK AT MOST 1048576: true; the input reads as it did. -/
def fnExactModelBackUptoRow : OpenClaim := { program := "ytfaeiihgjoognaa", sum := "7711d991618386662234bac4c9b17ac37bd3685bb022feeef1ef417c0efa42af", func := "loop.example/kleenetests/laws.FnExactModelBack", spec := "fnExactModelBack", unfollowed := true, recurses := true, apart := false, narrowed := true }
def FnExactModelBackUptoSaid : Prop := fnExactModelBackUptoRow.holds Try.pinned (OpenSpec.upto fnExactModelBackSpec)

end Rows
end Go.Proofs.Ytfaeiihgjoognaa
