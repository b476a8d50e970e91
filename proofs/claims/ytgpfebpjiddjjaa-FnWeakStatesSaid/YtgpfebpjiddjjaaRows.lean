/-
  No cell of these rows narrows 'for every input' (looked for: loops, veiled, ifaces, maps, wideKeys, modest, calm, conditions, laid).
  DERIVED. THE GIVEN ROWS OF THIS SEAT. 5 by the template 'for every input the law returns true; each argument reads behind the call as it read before'; 0 by the template 'total and deterministic' (their statements: YtgpfebpjiddjjaaTotals.lean).
  GIVEN WITH THE SEED: the statements are not yours to turn. If you find one false, say at which input.
  Laid BY PROGRAM, IN A SANDBOX (cutbox-rows.mjs): the forced cells as the released guide's own fill.sh prints them over the translation a3cb07cff42d9044… (all of the seat's roots in one cut). By AI agents, Wed Nov 11 2026. No macro, syntax, notation, axiom, sorry.
-/
import Derived.Test.YtgpfebpjiddjjaaChecked
import GoSem.Claim
import GoSem.ClaimJoined
import GoSem.ClaimMapViews
import Derived.JoinedTies
import Derived.KernelRfl
namespace Go.Proofs.Ytgpfebpjiddjjaa
/- THE CELL 'sum', in the pinned program and in every row, IS THE sha256 OF THE DUMP (.gsa) THAT YtgpfebpjiddjjaaProg.lean LOADS. Nothing in Lean hashes anything: it is a label: what it is worth is what the hold of that sum in a sandbox is worth. -/
noncomputable def Try.pinned : Pinned := { name := "ytgpfebpjiddjjaa", sum := "a3cb07cff42d90445bbb6f6bd9da2b1722f7263b85a0c7a9d4f134f0cb559dda", checked := Try.checked }
namespace Rows
def none {H : Type} : Left H := { results := [], args := [] }

/-- 'laws.FnExactWeakStates': WHATEVER THE INPUT: true; the input reads as it did. -/
def fnExactWeakStatesSpec : ChangeSpec := { name := "fnExactWeakStates", fn := fun _ => fun
  | [d1, d2, d3] => { results := [.lit (.bool true)], args := [d1, d2, d3] }
  | _ => none }
def fnExactWeakStatesRow : OpenClaim := { program := "ytgpfebpjiddjjaa", sum := "a3cb07cff42d90445bbb6f6bd9da2b1722f7263b85a0c7a9d4f134f0cb559dda", func := "loop.example/kleenetests/laws.FnExactWeakStates", spec := "fnExactWeakStates", unfollowed := true, recurses := true, apart := false }
def FnExactWeakStatesSaid : Prop := fnExactWeakStatesRow.holds Try.pinned (OpenSpec.ofChange fnExactWeakStatesSpec)

/-- ITS FALSE NEIGHBOUR: 'it returns false'. Refute it at one input. -/
def fnExactWeakStatesWrong : ChangeSpec := { name := "fnExactWeakStates", fn := fun _ => fun
  | [d1, d2, d3] => { results := [.lit (.bool false)], args := [d1, d2, d3] }
  | _ => none }
def FnExactWeakStatesWrongFalsely : Prop := fnExactWeakStatesRow.holds Try.pinned (OpenSpec.ofChange fnExactWeakStatesWrong)

/-- 'laws.FnExactTraceRows': WHATEVER THE INPUT: true; the input reads as it did. -/
def fnExactTraceRowsSpec : ChangeSpec := { name := "fnExactTraceRows", fn := fun _ => fun
  | [d1, d2] => { results := [.lit (.bool true)], args := [d1, d2] }
  | _ => none }
def fnExactTraceRowsRow : OpenClaim := { program := "ytgpfebpjiddjjaa", sum := "a3cb07cff42d90445bbb6f6bd9da2b1722f7263b85a0c7a9d4f134f0cb559dda", func := "loop.example/kleenetests/laws.FnExactTraceRows", spec := "fnExactTraceRows", unfollowed := true, recurses := true, apart := false }
def FnExactTraceRowsSaid : Prop := fnExactTraceRowsRow.holds Try.pinned (OpenSpec.ofChange fnExactTraceRowsSpec)

/-- ITS FALSE NEIGHBOUR: 'it returns false'. Refute it at one input. -/
def fnExactTraceRowsWrong : ChangeSpec := { name := "fnExactTraceRows", fn := fun _ => fun
  | [d1, d2] => { results := [.lit (.bool false)], args := [d1, d2] }
  | _ => none }
def FnExactTraceRowsWrongFalsely : Prop := fnExactTraceRowsRow.holds Try.pinned (OpenSpec.ofChange fnExactTraceRowsWrong)

/-- 'laws.FnExactStrongStates': WHATEVER THE INPUT: true; the input reads as it did. -/
def fnExactStrongStatesSpec : ChangeSpec := { name := "fnExactStrongStates", fn := fun _ => fun
  | [d1, d2, d3] => { results := [.lit (.bool true)], args := [d1, d2, d3] }
  | _ => none }
def fnExactStrongStatesRow : OpenClaim := { program := "ytgpfebpjiddjjaa", sum := "a3cb07cff42d90445bbb6f6bd9da2b1722f7263b85a0c7a9d4f134f0cb559dda", func := "loop.example/kleenetests/laws.FnExactStrongStates", spec := "fnExactStrongStates", unfollowed := true, recurses := true, apart := false }
def FnExactStrongStatesSaid : Prop := fnExactStrongStatesRow.holds Try.pinned (OpenSpec.ofChange fnExactStrongStatesSpec)

/-- ITS FALSE NEIGHBOUR: 'it returns false'. Refute it at one input. -/
def fnExactStrongStatesWrong : ChangeSpec := { name := "fnExactStrongStates", fn := fun _ => fun
  | [d1, d2, d3] => { results := [.lit (.bool false)], args := [d1, d2, d3] }
  | _ => none }
def FnExactStrongStatesWrongFalsely : Prop := fnExactStrongStatesRow.holds Try.pinned (OpenSpec.ofChange fnExactStrongStatesWrong)

/-- 'laws.FnExactRowsOf': WHATEVER THE INPUT: true; the input reads as it did. -/
def fnExactRowsOfSpec : ChangeSpec := { name := "fnExactRowsOf", fn := fun _ => fun
  | [d1, d2] => { results := [.lit (.bool true)], args := [d1, d2] }
  | _ => none }
def fnExactRowsOfRow : OpenClaim := { program := "ytgpfebpjiddjjaa", sum := "a3cb07cff42d90445bbb6f6bd9da2b1722f7263b85a0c7a9d4f134f0cb559dda", func := "loop.example/kleenetests/laws.FnExactRowsOf", spec := "fnExactRowsOf", unfollowed := true, recurses := true, apart := false }
def FnExactRowsOfSaid : Prop := fnExactRowsOfRow.holds Try.pinned (OpenSpec.ofChange fnExactRowsOfSpec)

/-- ITS FALSE NEIGHBOUR: 'it returns false'. Refute it at one input. -/
def fnExactRowsOfWrong : ChangeSpec := { name := "fnExactRowsOf", fn := fun _ => fun
  | [d1, d2] => { results := [.lit (.bool false)], args := [d1, d2] }
  | _ => none }
def FnExactRowsOfWrongFalsely : Prop := fnExactRowsOfRow.holds Try.pinned (OpenSpec.ofChange fnExactRowsOfWrong)

/-- 'laws.FnWeakStates': WHATEVER THE INPUT: true; the input reads as it did. -/
def fnWeakStatesSpec : ChangeSpec := { name := "fnWeakStates", fn := fun _ => fun
  | [d] => { results := [.lit (.bool true)], args := [d] }
  | _ => none }
def fnWeakStatesRow : OpenClaim := { program := "ytgpfebpjiddjjaa", sum := "a3cb07cff42d90445bbb6f6bd9da2b1722f7263b85a0c7a9d4f134f0cb559dda", func := "loop.example/kleenetests/laws.FnWeakStates", spec := "fnWeakStates", unfollowed := true, recurses := true, apart := false }
def FnWeakStatesSaid : Prop := fnWeakStatesRow.holds Try.pinned (OpenSpec.ofChange fnWeakStatesSpec)

/-- ITS FALSE NEIGHBOUR: 'it returns false'. Refute it at one input. -/
def fnWeakStatesWrong : ChangeSpec := { name := "fnWeakStates", fn := fun _ => fun
  | [d] => { results := [.lit (.bool false)], args := [d] }
  | _ => none }
def FnWeakStatesWrongFalsely : Prop := fnWeakStatesRow.holds Try.pinned (OpenSpec.ofChange fnWeakStatesWrong)

/- THE SECOND FORM. 'bulk': how many values and letters a reading holds, each counted each time it is reached (what is shared counts as often as it is met; a slice's spare places count too). A statement '..UptoSaid' is the law's where the arguments, and the package variables that the reading takes, are together of bulk at most 1048576: NARROWER than '..Said'. Prove '..Said' where nothing that the law and all that it calls make is longer than what came in: it says more and counts as full. Else prove '..UptoSaid'. A law counts once. -/
mutual
def uptoBulk {H : Type} : DataW H → Nat
  | .lit (.string bytes) => bytes.length + 1
  | .lit _ => 1
  | .nil => 1
  | .ptr d => uptoBulk d + 1
  | .slice elems spare => uptoBulkAll elems + uptoBulkAll spare + 1
  | .agg parts => uptoBulkAll parts + 1
  | .iface _ d => uptoBulk d + 1
  | .map entries => uptoBulkEntries entries + 1
  | .held _ => 1
def uptoBulkAll {H : Type} : List (DataW H) → Nat
  | [] => 0
  | d :: r => uptoBulk d + uptoBulkAll r
def uptoBulkEntries {H : Type} : List (Lit × DataW H) → Nat
  | [] => 0
  | x :: r => uptoBulkEntry x + uptoBulkEntries r
def uptoBulkEntry {H : Type} : Lit × DataW H → Nat
  | (.string bytes, d) => bytes.length + uptoBulk d + 1
  | (_, d) => uptoBulk d + 1
 end
def uptoSmall : (H : Type) → List (DataW H) → Bool := fun _ ds => decide (uptoBulkAll ds ≤ 1048576)
def OpenSpec.upto (s : _root_.Go.ChangeSpec) : _root_.Go.OpenSpec := { _root_.Go.OpenSpec.ofChange s with cond := some uptoSmall }

/-- 'laws.FnExactWeakStates', WHERE WHAT IT READS IS OF BULK AT MOST 1048576: true; the input reads as it did. -/
def fnExactWeakStatesUptoRow : OpenClaim := { program := "ytgpfebpjiddjjaa", sum := "a3cb07cff42d90445bbb6f6bd9da2b1722f7263b85a0c7a9d4f134f0cb559dda", func := "loop.example/kleenetests/laws.FnExactWeakStates", spec := "fnExactWeakStates", unfollowed := true, recurses := true, apart := false, narrowed := true }
def FnExactWeakStatesUptoSaid : Prop := fnExactWeakStatesUptoRow.holds Try.pinned (OpenSpec.upto fnExactWeakStatesSpec)

/-- 'laws.FnExactTraceRows', WHERE WHAT IT READS IS OF BULK AT MOST 1048576: true; the input reads as it did. -/
def fnExactTraceRowsUptoRow : OpenClaim := { program := "ytgpfebpjiddjjaa", sum := "a3cb07cff42d90445bbb6f6bd9da2b1722f7263b85a0c7a9d4f134f0cb559dda", func := "loop.example/kleenetests/laws.FnExactTraceRows", spec := "fnExactTraceRows", unfollowed := true, recurses := true, apart := false, narrowed := true }
def FnExactTraceRowsUptoSaid : Prop := fnExactTraceRowsUptoRow.holds Try.pinned (OpenSpec.upto fnExactTraceRowsSpec)

/-- 'laws.FnExactStrongStates', WHERE WHAT IT READS IS OF BULK AT MOST 1048576: true; the input reads as it did. -/
def fnExactStrongStatesUptoRow : OpenClaim := { program := "ytgpfebpjiddjjaa", sum := "a3cb07cff42d90445bbb6f6bd9da2b1722f7263b85a0c7a9d4f134f0cb559dda", func := "loop.example/kleenetests/laws.FnExactStrongStates", spec := "fnExactStrongStates", unfollowed := true, recurses := true, apart := false, narrowed := true }
def FnExactStrongStatesUptoSaid : Prop := fnExactStrongStatesUptoRow.holds Try.pinned (OpenSpec.upto fnExactStrongStatesSpec)

/-- 'laws.FnExactRowsOf', WHERE WHAT IT READS IS OF BULK AT MOST 1048576: true; the input reads as it did. -/
def fnExactRowsOfUptoRow : OpenClaim := { program := "ytgpfebpjiddjjaa", sum := "a3cb07cff42d90445bbb6f6bd9da2b1722f7263b85a0c7a9d4f134f0cb559dda", func := "loop.example/kleenetests/laws.FnExactRowsOf", spec := "fnExactRowsOf", unfollowed := true, recurses := true, apart := false, narrowed := true }
def FnExactRowsOfUptoSaid : Prop := fnExactRowsOfUptoRow.holds Try.pinned (OpenSpec.upto fnExactRowsOfSpec)

/-- 'laws.FnWeakStates', WHERE WHAT IT READS IS OF BULK AT MOST 1048576: true; the input reads as it did. -/
def fnWeakStatesUptoRow : OpenClaim := { program := "ytgpfebpjiddjjaa", sum := "a3cb07cff42d90445bbb6f6bd9da2b1722f7263b85a0c7a9d4f134f0cb559dda", func := "loop.example/kleenetests/laws.FnWeakStates", spec := "fnWeakStates", unfollowed := true, recurses := true, apart := false, narrowed := true }
def FnWeakStatesUptoSaid : Prop := fnWeakStatesUptoRow.holds Try.pinned (OpenSpec.upto fnWeakStatesSpec)

end Rows
end Go.Proofs.Ytgpfebpjiddjjaa
