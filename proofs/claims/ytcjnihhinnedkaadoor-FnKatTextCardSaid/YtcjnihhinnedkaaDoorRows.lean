/-
  NARROWER THAN 'FOR EVERY INPUT', by the rows' own cells (each row's printed sentence says how): FnExactKatText: maps, laid · FnKatStar: maps, laid · FnKatText: maps, laid.
  DERIVED. THE GIVEN ROWS OF THIS SEAT. 3 by the template 'for every input the law returns true; each argument reads behind the call as it read before'; 0 by the template 'total and deterministic' (their statements: YtcjnihhinnedkaaDoorTotals.lean).
  GIVEN WITH THE SEED: the statements are not yours to turn. If you find one false, say at which input.
  Laid BY PROGRAM, IN A SANDBOX (cutbox-rows.mjs): the forced cells as the released guide's own fill.sh prints them over the translation 66687573d89475de… (all of the seat's roots in one cut). By AI agents, Wed Nov 11 2026. No macro, syntax, notation, axiom, sorry.
-/
import Derived.Test.YtcjnihhinnedkaaDoorChecked
import GoSem.Claim
import GoSem.ClaimJoined
import GoSem.ClaimMapViews
import Derived.JoinedTies
import Derived.KernelRfl
namespace Go.Proofs.YtcjnihhinnedkaaDoor
/- THE CELL 'sum', in the pinned program and in every row, IS THE sha256 OF THE DUMP (.gsa) THAT YtcjnihhinnedkaaDoorProg.lean LOADS. Nothing in Lean hashes anything: it is a label: what it is worth is what the hold of that sum in a sandbox is worth. -/
noncomputable def Tryd.pinned : Pinned := { name := "ytcjnihhinnedkaadoor", sum := "66687573d89475de10f94b3a0aacd0c2a4d156c7ae6c9bd84222b975359b965d", checked := Tryd.checked }
namespace Rows
def none {H : Type} : Left H := { results := [], args := [] }

/- WHAT THE LISTED PACKAGE-LEVEL VARIABLES READ AS WHEN THE CALL BEGINS. Each datum BY PROGRAM (the guide's laid-datum.mjs) off the statement by which the dump's own 'gosem.cut.vars' lays the variable. In a bare row this is a premise. The card (YtcjnihhinnedkaaDoorCards.lean) ties it to the program's text. -/
def laid_loop_example_kleenetests_impl_testNames {H : Type} : DataW H := .map [(.int .i64 0, .lit (.string [48])), (.int .i64 3, .lit (.string [33, 113])), (.int .i64 5, .lit (.string [33, 112])), (.int .i64 10, .lit (.string [112])), (.int .i64 12, .lit (.string [113])), (.int .i64 15, .lit (.string [49]))]

/-- 'laws.FnExactKatText': WHATEVER THE INPUT: true; the input reads as it did. -/
def fnExactKatTextSpec : ChangeSpec := { name := "fnExactKatText", vars := ["loop.example/kleenetests/impl.testNames"], fn := fun _ => fun
  | [d, g1] => { results := [.lit (.bool true)], args := [d], vars := [g1] }
  | _ => none }
def fnExactKatTextRow : OpenClaim := { program := "ytcjnihhinnedkaadoor", sum := "66687573d89475de10f94b3a0aacd0c2a4d156c7ae6c9bd84222b975359b965d", func := "loop.example/kleenetests/laws.FnExactKatText", spec := "fnExactKatText", recurses := true, named := ["loop.example/kleenetests/impl.testNames"], maps := true, apart := false, laid := [("loop.example/kleenetests/impl.testNames", laid_loop_example_kleenetests_impl_testNames)] }
def FnExactKatTextSaid : Prop := fnExactKatTextRow.holds Tryd.pinned (OpenSpec.ofChange fnExactKatTextSpec)

/-- ITS FALSE NEIGHBOUR: 'it returns false'. Refute it at one input. -/
def fnExactKatTextWrong : ChangeSpec := { name := "fnExactKatText", vars := ["loop.example/kleenetests/impl.testNames"], fn := fun _ => fun
  | [d, g1] => { results := [.lit (.bool false)], args := [d], vars := [g1] }
  | _ => none }
def FnExactKatTextWrongFalsely : Prop := fnExactKatTextRow.holds Tryd.pinned (OpenSpec.ofChange fnExactKatTextWrong)

/-- 'laws.FnKatStar': WHATEVER THE INPUT: true; the input reads as it did. -/
def fnKatStarSpec : ChangeSpec := { name := "fnKatStar", vars := ["loop.example/kleenetests/impl.testNames"], fn := fun _ => fun
  | [d, g1] => { results := [.lit (.bool true)], args := [d], vars := [g1] }
  | _ => none }
def fnKatStarRow : OpenClaim := { program := "ytcjnihhinnedkaadoor", sum := "66687573d89475de10f94b3a0aacd0c2a4d156c7ae6c9bd84222b975359b965d", func := "loop.example/kleenetests/laws.FnKatStar", spec := "fnKatStar", recurses := true, named := ["loop.example/kleenetests/impl.testNames"], maps := true, apart := false, laid := [("loop.example/kleenetests/impl.testNames", laid_loop_example_kleenetests_impl_testNames)] }
def FnKatStarSaid : Prop := fnKatStarRow.holds Tryd.pinned (OpenSpec.ofChange fnKatStarSpec)

/-- ITS FALSE NEIGHBOUR: 'it returns false'. Refute it at one input. -/
def fnKatStarWrong : ChangeSpec := { name := "fnKatStar", vars := ["loop.example/kleenetests/impl.testNames"], fn := fun _ => fun
  | [d, g1] => { results := [.lit (.bool false)], args := [d], vars := [g1] }
  | _ => none }
def FnKatStarWrongFalsely : Prop := fnKatStarRow.holds Tryd.pinned (OpenSpec.ofChange fnKatStarWrong)

/-- 'laws.FnKatText': WHATEVER THE INPUT: true; the input reads as it did. -/
def fnKatTextSpec : ChangeSpec := { name := "fnKatText", vars := ["loop.example/kleenetests/impl.testNames"], fn := fun _ => fun
  | [d, g1] => { results := [.lit (.bool true)], args := [d], vars := [g1] }
  | _ => none }
def fnKatTextRow : OpenClaim := { program := "ytcjnihhinnedkaadoor", sum := "66687573d89475de10f94b3a0aacd0c2a4d156c7ae6c9bd84222b975359b965d", func := "loop.example/kleenetests/laws.FnKatText", spec := "fnKatText", inPlace := ["internal/bytealg.IndexByteString"], unfollowed := true, recurses := true, named := ["loop.example/kleenetests/impl.testNames"], maps := true, apart := false, laid := [("loop.example/kleenetests/impl.testNames", laid_loop_example_kleenetests_impl_testNames)] }
def FnKatTextSaid : Prop := fnKatTextRow.holds Tryd.pinned (OpenSpec.ofChange fnKatTextSpec)

/-- ITS FALSE NEIGHBOUR: 'it returns false'. Refute it at one input. -/
def fnKatTextWrong : ChangeSpec := { name := "fnKatText", vars := ["loop.example/kleenetests/impl.testNames"], fn := fun _ => fun
  | [d, g1] => { results := [.lit (.bool false)], args := [d], vars := [g1] }
  | _ => none }
def FnKatTextWrongFalsely : Prop := fnKatTextRow.holds Tryd.pinned (OpenSpec.ofChange fnKatTextWrong)

/- THE SECOND FORM. 'bulk': how many values and letters a reading holds, each counted each time it is reached (what is shared counts as often as it is met; a slice's spare places count too). A statement '..UptoSaid' is the law's where the arguments, and the package variables that the reading takes, are together of bulk at most 1048576: NARROWER than '..Said'. Prove '..Said' where nothing that the law and all that it calls make is longer than what came in: it says more and counts as full. Else prove '..UptoSaid'. A law counts once. -/
mutual
def uptoBulk {H : Type} : DataW H → Nat
  | .lit (.string bytes) => bytes.length + 1
  | .lit _ => 1
  | .nil => 1
  | .ptr d => uptoBulk d + 1
  | .slice elems spare => uptoBulkAll elems + uptoBulkAll spare + 1
  | .agg parts => uptoBulkAll parts + 1
  | .iface _ d => uptoBulk d + 1
  | .map entries => uptoBulkEntries entries + 1
  | .held _ => 1
def uptoBulkAll {H : Type} : List (DataW H) → Nat
  | [] => 0
  | d :: r => uptoBulk d + uptoBulkAll r
def uptoBulkEntries {H : Type} : List (Lit × DataW H) → Nat
  | [] => 0
  | x :: r => uptoBulkEntry x + uptoBulkEntries r
def uptoBulkEntry {H : Type} : Lit × DataW H → Nat
  | (.string bytes, d) => bytes.length + uptoBulk d + 1
  | (_, d) => uptoBulk d + 1
 end
def uptoSmall : (H : Type) → List (DataW H) → Bool := fun _ ds => decide (uptoBulkAll ds ≤ 1048576)
def OpenSpec.upto (s : _root_.Go.ChangeSpec) : _root_.Go.OpenSpec := { _root_.Go.OpenSpec.ofChange s with cond := some uptoSmall }

/-- 'laws.FnExactKatText', WHERE WHAT IT READS IS OF BULK AT MOST 1048576: true; the input reads as it did. -/
def fnExactKatTextUptoRow : OpenClaim := { program := "ytcjnihhinnedkaadoor", sum := "66687573d89475de10f94b3a0aacd0c2a4d156c7ae6c9bd84222b975359b965d", func := "loop.example/kleenetests/laws.FnExactKatText", spec := "fnExactKatText", recurses := true, named := ["loop.example/kleenetests/impl.testNames"], maps := true, apart := false, laid := [("loop.example/kleenetests/impl.testNames", laid_loop_example_kleenetests_impl_testNames)], narrowed := true }
def FnExactKatTextUptoSaid : Prop := fnExactKatTextUptoRow.holds Tryd.pinned (OpenSpec.upto fnExactKatTextSpec)

/-- 'laws.FnKatStar', WHERE WHAT IT READS IS OF BULK AT MOST 1048576: true; the input reads as it did. -/
def fnKatStarUptoRow : OpenClaim := { program := "ytcjnihhinnedkaadoor", sum := "66687573d89475de10f94b3a0aacd0c2a4d156c7ae6c9bd84222b975359b965d", func := "loop.example/kleenetests/laws.FnKatStar", spec := "fnKatStar", recurses := true, named := ["loop.example/kleenetests/impl.testNames"], maps := true, apart := false, laid := [("loop.example/kleenetests/impl.testNames", laid_loop_example_kleenetests_impl_testNames)], narrowed := true }
def FnKatStarUptoSaid : Prop := fnKatStarUptoRow.holds Tryd.pinned (OpenSpec.upto fnKatStarSpec)

/-- 'laws.FnKatText', WHERE WHAT IT READS IS OF BULK AT MOST 1048576: true; the input reads as it did. -/
def fnKatTextUptoRow : OpenClaim := { program := "ytcjnihhinnedkaadoor", sum := "66687573d89475de10f94b3a0aacd0c2a4d156c7ae6c9bd84222b975359b965d", func := "loop.example/kleenetests/laws.FnKatText", spec := "fnKatText", inPlace := ["internal/bytealg.IndexByteString"], unfollowed := true, recurses := true, named := ["loop.example/kleenetests/impl.testNames"], maps := true, apart := false, laid := [("loop.example/kleenetests/impl.testNames", laid_loop_example_kleenetests_impl_testNames)], narrowed := true }
def FnKatTextUptoSaid : Prop := fnKatTextUptoRow.holds Tryd.pinned (OpenSpec.upto fnKatTextSpec)

end Rows
end Go.Proofs.YtcjnihhinnedkaaDoor
