/-
  No cell of these rows narrows 'for every input' (looked for: loops, veiled, ifaces, maps, wideKeys, modest, calm, conditions, laid).
  DERIVED. THE GIVEN ROWS OF THIS SEAT. 7 by the template 'for every input the law returns true; each argument reads behind the call as it read before'; 0 by the template 'total and deterministic' (their statements: YtlaamecfknkmlaaGreatTotals.lean).
  GIVEN WITH THE SEED: the statements are not yours to turn. If you find one false, say at which input.
  Laid BY PROGRAM, IN A SANDBOX (cutbox-rows.mjs): the forced cells as the released guide's own fill.sh prints them over the translation d55e0325b47805a2… (all of the seat's roots in one cut). By AI agents, Wed Nov 11 2026. No macro, syntax, notation, axiom, sorry.
-/
import Derived.Test.YtlaamecfknkmlaaGreatChecked
import GoSem.Claim
import GoSem.ClaimJoined
import GoSem.ClaimMapViews
import Derived.JoinedTies
import Derived.KernelRfl
namespace Go.Proofs.YtlaamecfknkmlaaGreat
/- THE CELL 'sum', in the pinned program and in every row, IS THE sha256 OF THE DUMP (.gsa) THAT YtlaamecfknkmlaaGreatProg.lean LOADS. Nothing in Lean hashes anything: it is a label: what it is worth is what the hold of that sum in a sandbox is worth. -/
noncomputable def Tryz.pinned : Pinned := { name := "ytlaamecfknkmlaagreat", sum := "d55e0325b47805a2571e3adebca76a8dbd14172b31bb16b7e12a2669a509671b", checked := Tryz.checked }
namespace Rows
def none {H : Type} : Left H := { results := [], args := [] }

/-- 'laws.FnPairsOk': WHATEVER THE INPUT: true; the input reads as it did. -/
def fnPairsOkSpec : ChangeSpec := { name := "fnPairsOk", fn := fun _ => fun
  | [d1, d2] => { results := [.lit (.bool true)], args := [d1, d2] }
  | _ => none }
def fnPairsOkRow : OpenClaim := { program := "ytlaamecfknkmlaagreat", sum := "d55e0325b47805a2571e3adebca76a8dbd14172b31bb16b7e12a2669a509671b", func := "loop.example/kleenetests/laws.FnPairsOk", spec := "fnPairsOk", unfollowed := true, recurses := true, plainKeys := false, apart := false }
def FnPairsOkSaid : Prop := fnPairsOkRow.holds Tryz.pinned (OpenSpec.ofChange fnPairsOkSpec)

/-- ITS FALSE NEIGHBOUR: 'it returns false'. Refute it at one input. -/
def fnPairsOkWrong : ChangeSpec := { name := "fnPairsOk", fn := fun _ => fun
  | [d1, d2] => { results := [.lit (.bool false)], args := [d1, d2] }
  | _ => none }
def FnPairsOkWrongFalsely : Prop := fnPairsOkRow.holds Tryz.pinned (OpenSpec.ofChange fnPairsOkWrong)

/-- 'laws.FnStrongStates': WHATEVER THE INPUT: true; the input reads as it did. -/
def fnStrongStatesSpec : ChangeSpec := { name := "fnStrongStates", fn := fun _ => fun
  | [d1, d2] => { results := [.lit (.bool true)], args := [d1, d2] }
  | _ => none }
def fnStrongStatesRow : OpenClaim := { program := "ytlaamecfknkmlaagreat", sum := "d55e0325b47805a2571e3adebca76a8dbd14172b31bb16b7e12a2669a509671b", func := "loop.example/kleenetests/laws.FnStrongStates", spec := "fnStrongStates", unfollowed := true, recurses := true, plainKeys := false, apart := false }
def FnStrongStatesSaid : Prop := fnStrongStatesRow.holds Tryz.pinned (OpenSpec.ofChange fnStrongStatesSpec)

/-- ITS FALSE NEIGHBOUR: 'it returns false'. Refute it at one input. -/
def fnStrongStatesWrong : ChangeSpec := { name := "fnStrongStates", fn := fun _ => fun
  | [d1, d2] => { results := [.lit (.bool false)], args := [d1, d2] }
  | _ => none }
def FnStrongStatesWrongFalsely : Prop := fnStrongStatesRow.holds Tryz.pinned (OpenSpec.ofChange fnStrongStatesWrong)

/-- 'laws.FnWithin': WHATEVER THE INPUT: true; the input reads as it did. -/
def fnWithinSpec : ChangeSpec := { name := "fnWithin", fn := fun _ => fun
  | [d] => { results := [.lit (.bool true)], args := [d] }
  | _ => none }
def fnWithinRow : OpenClaim := { program := "ytlaamecfknkmlaagreat", sum := "d55e0325b47805a2571e3adebca76a8dbd14172b31bb16b7e12a2669a509671b", func := "loop.example/kleenetests/laws.FnWithin", spec := "fnWithin", unfollowed := true, recurses := true, plainKeys := false, apart := false }
def FnWithinSaid : Prop := fnWithinRow.holds Tryz.pinned (OpenSpec.ofChange fnWithinSpec)

/-- ITS FALSE NEIGHBOUR: 'it returns false'. Refute it at one input. -/
def fnWithinWrong : ChangeSpec := { name := "fnWithin", fn := fun _ => fun
  | [d] => { results := [.lit (.bool false)], args := [d] }
  | _ => none }
def FnWithinWrongFalsely : Prop := fnWithinRow.holds Tryz.pinned (OpenSpec.ofChange fnWithinWrong)

/-- 'laws.FnTraceRows': WHATEVER THE INPUT: true; the input reads as it did. -/
def fnTraceRowsSpec : ChangeSpec := { name := "fnTraceRows", fn := fun _ => fun
  | [d1, d2] => { results := [.lit (.bool true)], args := [d1, d2] }
  | _ => none }
def fnTraceRowsRow : OpenClaim := { program := "ytlaamecfknkmlaagreat", sum := "d55e0325b47805a2571e3adebca76a8dbd14172b31bb16b7e12a2669a509671b", func := "loop.example/kleenetests/laws.FnTraceRows", spec := "fnTraceRows", unfollowed := true, recurses := true, plainKeys := false, apart := false }
def FnTraceRowsSaid : Prop := fnTraceRowsRow.holds Tryz.pinned (OpenSpec.ofChange fnTraceRowsSpec)

/-- ITS FALSE NEIGHBOUR: 'it returns false'. Refute it at one input. -/
def fnTraceRowsWrong : ChangeSpec := { name := "fnTraceRows", fn := fun _ => fun
  | [d1, d2] => { results := [.lit (.bool false)], args := [d1, d2] }
  | _ => none }
def FnTraceRowsWrongFalsely : Prop := fnTraceRowsRow.holds Tryz.pinned (OpenSpec.ofChange fnTraceRowsWrong)

/-- 'laws.FnDiffer': WHATEVER THE INPUT: true; the input reads as it did. -/
def fnDifferSpec : ChangeSpec := { name := "fnDiffer", fn := fun _ => fun
  | [d] => { results := [.lit (.bool true)], args := [d] }
  | _ => none }
def fnDifferRow : OpenClaim := { program := "ytlaamecfknkmlaagreat", sum := "d55e0325b47805a2571e3adebca76a8dbd14172b31bb16b7e12a2669a509671b", func := "loop.example/kleenetests/laws.FnDiffer", spec := "fnDiffer", unfollowed := true, recurses := true, plainKeys := false, apart := false }
def FnDifferSaid : Prop := fnDifferRow.holds Tryz.pinned (OpenSpec.ofChange fnDifferSpec)

/-- ITS FALSE NEIGHBOUR: 'it returns false'. Refute it at one input. -/
def fnDifferWrong : ChangeSpec := { name := "fnDiffer", fn := fun _ => fun
  | [d] => { results := [.lit (.bool false)], args := [d] }
  | _ => none }
def FnDifferWrongFalsely : Prop := fnDifferRow.holds Tryz.pinned (OpenSpec.ofChange fnDifferWrong)

/-- 'laws.FnEqual': WHATEVER THE INPUT: true; the input reads as it did. -/
def fnEqualSpec : ChangeSpec := { name := "fnEqual", fn := fun _ => fun
  | [d] => { results := [.lit (.bool true)], args := [d] }
  | _ => none }
def fnEqualRow : OpenClaim := { program := "ytlaamecfknkmlaagreat", sum := "d55e0325b47805a2571e3adebca76a8dbd14172b31bb16b7e12a2669a509671b", func := "loop.example/kleenetests/laws.FnEqual", spec := "fnEqual", unfollowed := true, recurses := true, plainKeys := false, apart := false }
def FnEqualSaid : Prop := fnEqualRow.holds Tryz.pinned (OpenSpec.ofChange fnEqualSpec)

/-- ITS FALSE NEIGHBOUR: 'it returns false'. Refute it at one input. -/
def fnEqualWrong : ChangeSpec := { name := "fnEqual", fn := fun _ => fun
  | [d] => { results := [.lit (.bool false)], args := [d] }
  | _ => none }
def FnEqualWrongFalsely : Prop := fnEqualRow.holds Tryz.pinned (OpenSpec.ofChange fnEqualWrong)

/-- 'laws.FnRowsOf': WHATEVER THE INPUT: true; the input reads as it did. -/
def fnRowsOfSpec : ChangeSpec := { name := "fnRowsOf", fn := fun _ => fun
  | [d1, d2] => { results := [.lit (.bool true)], args := [d1, d2] }
  | _ => none }
def fnRowsOfRow : OpenClaim := { program := "ytlaamecfknkmlaagreat", sum := "d55e0325b47805a2571e3adebca76a8dbd14172b31bb16b7e12a2669a509671b", func := "loop.example/kleenetests/laws.FnRowsOf", spec := "fnRowsOf", unfollowed := true, recurses := true, plainKeys := false, apart := false }
def FnRowsOfSaid : Prop := fnRowsOfRow.holds Tryz.pinned (OpenSpec.ofChange fnRowsOfSpec)

/-- ITS FALSE NEIGHBOUR: 'it returns false'. Refute it at one input. -/
def fnRowsOfWrong : ChangeSpec := { name := "fnRowsOf", fn := fun _ => fun
  | [d1, d2] => { results := [.lit (.bool false)], args := [d1, d2] }
  | _ => none }
def FnRowsOfWrongFalsely : Prop := fnRowsOfRow.holds Tryz.pinned (OpenSpec.ofChange fnRowsOfWrong)

/- THE SECOND FORM. 'bulk': how many values and letters a reading holds, each counted each time it is reached (what is shared counts as often as it is met; a slice's spare places count too). A statement '..UptoSaid' is the law's where the arguments, and the package variables that the reading takes, are together of bulk at most 1048576: NARROWER than '..Said'. Prove '..Said' where nothing that the law and all that it calls make is longer than what came in: it says more and counts as full. Else prove '..UptoSaid'. A law counts once. -/
mutual
def uptoBulk {H : Type} : DataW H → Nat
  | .lit (.string bytes) => bytes.length + 1
  | .lit _ => 1
  | .nil => 1
  | .ptr d => uptoBulk d + 1
  | .slice elems spare => uptoBulkAll elems + uptoBulkAll spare + 1
  | .agg parts => uptoBulkAll parts + 1
  | .iface _ d => uptoBulk d + 1
  | .map entries => uptoBulkEntries entries + 1
  | .held _ => 1
def uptoBulkAll {H : Type} : List (DataW H) → Nat
  | [] => 0
  | d :: r => uptoBulk d + uptoBulkAll r
def uptoBulkEntries {H : Type} : List (Lit × DataW H) → Nat
  | [] => 0
  | x :: r => uptoBulkEntry x + uptoBulkEntries r
def uptoBulkEntry {H : Type} : Lit × DataW H → Nat
  | (.string bytes, d) => bytes.length + uptoBulk d + 1
  | (_, d) => uptoBulk d + 1
 end
def uptoSmall : (H : Type) → List (DataW H) → Bool := fun _ ds => decide (uptoBulkAll ds ≤ 1048576)
def OpenSpec.upto (s : _root_.Go.ChangeSpec) : _root_.Go.OpenSpec := { _root_.Go.OpenSpec.ofChange s with cond := some uptoSmall }

/-- 'laws.FnPairsOk', WHERE WHAT IT READS IS OF BULK AT MOST 1048576: true; the input reads as it did. -/
def fnPairsOkUptoRow : OpenClaim := { program := "ytlaamecfknkmlaagreat", sum := "d55e0325b47805a2571e3adebca76a8dbd14172b31bb16b7e12a2669a509671b", func := "loop.example/kleenetests/laws.FnPairsOk", spec := "fnPairsOk", unfollowed := true, recurses := true, plainKeys := false, apart := false, narrowed := true }
def FnPairsOkUptoSaid : Prop := fnPairsOkUptoRow.holds Tryz.pinned (OpenSpec.upto fnPairsOkSpec)

/-- 'laws.FnStrongStates', WHERE WHAT IT READS IS OF BULK AT MOST 1048576: true; the input reads as it did. -/
def fnStrongStatesUptoRow : OpenClaim := { program := "ytlaamecfknkmlaagreat", sum := "d55e0325b47805a2571e3adebca76a8dbd14172b31bb16b7e12a2669a509671b", func := "loop.example/kleenetests/laws.FnStrongStates", spec := "fnStrongStates", unfollowed := true, recurses := true, plainKeys := false, apart := false, narrowed := true }
def FnStrongStatesUptoSaid : Prop := fnStrongStatesUptoRow.holds Tryz.pinned (OpenSpec.upto fnStrongStatesSpec)

/-- 'laws.FnWithin', WHERE WHAT IT READS IS OF BULK AT MOST 1048576: true; the input reads as it did. -/
def fnWithinUptoRow : OpenClaim := { program := "ytlaamecfknkmlaagreat", sum := "d55e0325b47805a2571e3adebca76a8dbd14172b31bb16b7e12a2669a509671b", func := "loop.example/kleenetests/laws.FnWithin", spec := "fnWithin", unfollowed := true, recurses := true, plainKeys := false, apart := false, narrowed := true }
def FnWithinUptoSaid : Prop := fnWithinUptoRow.holds Tryz.pinned (OpenSpec.upto fnWithinSpec)

/-- 'laws.FnTraceRows', WHERE WHAT IT READS IS OF BULK AT MOST 1048576: true; the input reads as it did. -/
def fnTraceRowsUptoRow : OpenClaim := { program := "ytlaamecfknkmlaagreat", sum := "d55e0325b47805a2571e3adebca76a8dbd14172b31bb16b7e12a2669a509671b", func := "loop.example/kleenetests/laws.FnTraceRows", spec := "fnTraceRows", unfollowed := true, recurses := true, plainKeys := false, apart := false, narrowed := true }
def FnTraceRowsUptoSaid : Prop := fnTraceRowsUptoRow.holds Tryz.pinned (OpenSpec.upto fnTraceRowsSpec)

/-- 'laws.FnDiffer', WHERE WHAT IT READS IS OF BULK AT MOST 1048576: true; the input reads as it did. -/
def fnDifferUptoRow : OpenClaim := { program := "ytlaamecfknkmlaagreat", sum := "d55e0325b47805a2571e3adebca76a8dbd14172b31bb16b7e12a2669a509671b", func := "loop.example/kleenetests/laws.FnDiffer", spec := "fnDiffer", unfollowed := true, recurses := true, plainKeys := false, apart := false, narrowed := true }
def FnDifferUptoSaid : Prop := fnDifferUptoRow.holds Tryz.pinned (OpenSpec.upto fnDifferSpec)

/-- 'laws.FnEqual', WHERE WHAT IT READS IS OF BULK AT MOST 1048576: true; the input reads as it did. -/
def fnEqualUptoRow : OpenClaim := { program := "ytlaamecfknkmlaagreat", sum := "d55e0325b47805a2571e3adebca76a8dbd14172b31bb16b7e12a2669a509671b", func := "loop.example/kleenetests/laws.FnEqual", spec := "fnEqual", unfollowed := true, recurses := true, plainKeys := false, apart := false, narrowed := true }
def FnEqualUptoSaid : Prop := fnEqualUptoRow.holds Tryz.pinned (OpenSpec.upto fnEqualSpec)

/-- 'laws.FnRowsOf', WHERE WHAT IT READS IS OF BULK AT MOST 1048576: true; the input reads as it did. -/
def fnRowsOfUptoRow : OpenClaim := { program := "ytlaamecfknkmlaagreat", sum := "d55e0325b47805a2571e3adebca76a8dbd14172b31bb16b7e12a2669a509671b", func := "loop.example/kleenetests/laws.FnRowsOf", spec := "fnRowsOf", unfollowed := true, recurses := true, plainKeys := false, apart := false, narrowed := true }
def FnRowsOfUptoSaid : Prop := fnRowsOfUptoRow.holds Tryz.pinned (OpenSpec.upto fnRowsOfSpec)

end Rows
end Go.Proofs.YtlaamecfknkmlaaGreat
