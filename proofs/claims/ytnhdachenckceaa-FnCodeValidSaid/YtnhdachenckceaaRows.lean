/-
  No cell of these rows narrows 'for every input' (looked for: loops, veiled, ifaces, maps, wideKeys, modest, calm, conditions, laid).
  DERIVED. THE GIVEN ROWS OF THIS SEAT. 12 by the template 'for every input the law returns true; each argument reads behind the call as it read before'; 0 by the template 'total and deterministic' (their statements: YtnhdachenckceaaTotals.lean).
  GIVEN WITH THE SEED: the statements are not yours to turn. If you find one false, say at which input.
  Laid BY PROGRAM, IN A SANDBOX (cutbox-rows.mjs): the forced cells as the released guide's own fill.sh prints them over the translation b01281dfa5ce26f3… (all of the seat's roots in one cut). By AI agents, Wed Nov 11 2026. No macro, syntax, notation, axiom, sorry.
-/
import Derived.Test.YtnhdachenckceaaChecked
import GoSem.Claim
import GoSem.ClaimJoined
import GoSem.ClaimMapViews
import Derived.JoinedTies
import Derived.KernelRfl
namespace Go.Proofs.Ytnhdachenckceaa
/- THE CELL 'sum', in the pinned program and in every row, IS THE sha256 OF THE DUMP (.gsa) THAT YtnhdachenckceaaProg.lean LOADS. Nothing in Lean hashes anything: it is a label: what it is worth is what the hold of that sum in a sandbox is worth. -/
noncomputable def Try.pinned : Pinned := { name := "ytnhdachenckceaa", sum := "b01281dfa5ce26f3141f063580c900608b176af75c28a2471836736045c73676", checked := Try.checked }
namespace Rows
def none {H : Type} : Left H := { results := [], args := [] }

/-- 'laws.FnExactProgValid': WHATEVER THE INPUT: true; the input reads as it did. -/
def fnExactProgValidSpec : ChangeSpec := { name := "fnExactProgValid", fn := fun _ => fun
  | [d] => { results := [.lit (.bool true)], args := [d] }
  | _ => none }
def fnExactProgValidRow : OpenClaim := { program := "ytnhdachenckceaa", sum := "b01281dfa5ce26f3141f063580c900608b176af75c28a2471836736045c73676", func := "loop.example/kleenetests/laws.FnExactProgValid", spec := "fnExactProgValid", apart := false }
def FnExactProgValidSaid : Prop := fnExactProgValidRow.holds Try.pinned (OpenSpec.ofChange fnExactProgValidSpec)

/-- ITS FALSE NEIGHBOUR: 'it returns false'. Refute it at one input. -/
def fnExactProgValidWrong : ChangeSpec := { name := "fnExactProgValid", fn := fun _ => fun
  | [d] => { results := [.lit (.bool false)], args := [d] }
  | _ => none }
def FnExactProgValidWrongFalsely : Prop := fnExactProgValidRow.holds Try.pinned (OpenSpec.ofChange fnExactProgValidWrong)

/-- 'laws.FnExactCodeValid': WHATEVER THE INPUT: true; the input reads as it did. -/
def fnExactCodeValidSpec : ChangeSpec := { name := "fnExactCodeValid", fn := fun _ => fun
  | [d] => { results := [.lit (.bool true)], args := [d] }
  | _ => none }
def fnExactCodeValidRow : OpenClaim := { program := "ytnhdachenckceaa", sum := "b01281dfa5ce26f3141f063580c900608b176af75c28a2471836736045c73676", func := "loop.example/kleenetests/laws.FnExactCodeValid", spec := "fnExactCodeValid", apart := false }
def FnExactCodeValidSaid : Prop := fnExactCodeValidRow.holds Try.pinned (OpenSpec.ofChange fnExactCodeValidSpec)

/-- ITS FALSE NEIGHBOUR: 'it returns false'. Refute it at one input. -/
def fnExactCodeValidWrong : ChangeSpec := { name := "fnExactCodeValid", fn := fun _ => fun
  | [d] => { results := [.lit (.bool false)], args := [d] }
  | _ => none }
def FnExactCodeValidWrongFalsely : Prop := fnExactCodeValidRow.holds Try.pinned (OpenSpec.ofChange fnExactCodeValidWrong)

/-- 'laws.FnProgValid': WHATEVER THE INPUT: true; the input reads as it did. -/
def fnProgValidSpec : ChangeSpec := { name := "fnProgValid", fn := fun _ => fun
  | [d] => { results := [.lit (.bool true)], args := [d] }
  | _ => none }
def fnProgValidRow : OpenClaim := { program := "ytnhdachenckceaa", sum := "b01281dfa5ce26f3141f063580c900608b176af75c28a2471836736045c73676", func := "loop.example/kleenetests/laws.FnProgValid", spec := "fnProgValid", recurses := true, apart := false }
def FnProgValidSaid : Prop := fnProgValidRow.holds Try.pinned (OpenSpec.ofChange fnProgValidSpec)

/-- ITS FALSE NEIGHBOUR: 'it returns false'. Refute it at one input. -/
def fnProgValidWrong : ChangeSpec := { name := "fnProgValid", fn := fun _ => fun
  | [d] => { results := [.lit (.bool false)], args := [d] }
  | _ => none }
def FnProgValidWrongFalsely : Prop := fnProgValidRow.holds Try.pinned (OpenSpec.ofChange fnProgValidWrong)

/-- 'laws.FnExactCodeThread': WHATEVER THE INPUT: true; the input reads as it did. -/
def fnExactCodeThreadSpec : ChangeSpec := { name := "fnExactCodeThread", fn := fun _ => fun
  | [d] => { results := [.lit (.bool true)], args := [d] }
  | _ => none }
def fnExactCodeThreadRow : OpenClaim := { program := "ytnhdachenckceaa", sum := "b01281dfa5ce26f3141f063580c900608b176af75c28a2471836736045c73676", func := "loop.example/kleenetests/laws.FnExactCodeThread", spec := "fnExactCodeThread", apart := false }
def FnExactCodeThreadSaid : Prop := fnExactCodeThreadRow.holds Try.pinned (OpenSpec.ofChange fnExactCodeThreadSpec)

/-- ITS FALSE NEIGHBOUR: 'it returns false'. Refute it at one input. -/
def fnExactCodeThreadWrong : ChangeSpec := { name := "fnExactCodeThread", fn := fun _ => fun
  | [d] => { results := [.lit (.bool false)], args := [d] }
  | _ => none }
def FnExactCodeThreadWrongFalsely : Prop := fnExactCodeThreadRow.holds Try.pinned (OpenSpec.ofChange fnExactCodeThreadWrong)

/-- 'laws.FnExactCodeReached': WHATEVER THE INPUT: true; the input reads as it did. -/
def fnExactCodeReachedSpec : ChangeSpec := { name := "fnExactCodeReached", fn := fun _ => fun
  | [d] => { results := [.lit (.bool true)], args := [d] }
  | _ => none }
def fnExactCodeReachedRow : OpenClaim := { program := "ytnhdachenckceaa", sum := "b01281dfa5ce26f3141f063580c900608b176af75c28a2471836736045c73676", func := "loop.example/kleenetests/laws.FnExactCodeReached", spec := "fnExactCodeReached", apart := false }
def FnExactCodeReachedSaid : Prop := fnExactCodeReachedRow.holds Try.pinned (OpenSpec.ofChange fnExactCodeReachedSpec)

/-- ITS FALSE NEIGHBOUR: 'it returns false'. Refute it at one input. -/
def fnExactCodeReachedWrong : ChangeSpec := { name := "fnExactCodeReached", fn := fun _ => fun
  | [d] => { results := [.lit (.bool false)], args := [d] }
  | _ => none }
def FnExactCodeReachedWrongFalsely : Prop := fnExactCodeReachedRow.holds Try.pinned (OpenSpec.ofChange fnExactCodeReachedWrong)

/-- 'laws.FnExactProgCode': WHATEVER THE INPUT: true; the input reads as it did. -/
def fnExactProgCodeSpec : ChangeSpec := { name := "fnExactProgCode", fn := fun _ => fun
  | [d] => { results := [.lit (.bool true)], args := [d] }
  | _ => none }
def fnExactProgCodeRow : OpenClaim := { program := "ytnhdachenckceaa", sum := "b01281dfa5ce26f3141f063580c900608b176af75c28a2471836736045c73676", func := "loop.example/kleenetests/laws.FnExactProgCode", spec := "fnExactProgCode", unfollowed := true, recurses := true, apart := false }
def FnExactProgCodeSaid : Prop := fnExactProgCodeRow.holds Try.pinned (OpenSpec.ofChange fnExactProgCodeSpec)

/-- ITS FALSE NEIGHBOUR: 'it returns false'. Refute it at one input. -/
def fnExactProgCodeWrong : ChangeSpec := { name := "fnExactProgCode", fn := fun _ => fun
  | [d] => { results := [.lit (.bool false)], args := [d] }
  | _ => none }
def FnExactProgCodeWrongFalsely : Prop := fnExactProgCodeRow.holds Try.pinned (OpenSpec.ofChange fnExactProgCodeWrong)

/-- 'laws.FnExactProgText': WHATEVER THE INPUT: true; the input reads as it did. -/
def fnExactProgTextSpec : ChangeSpec := { name := "fnExactProgText", fn := fun _ => fun
  | [d] => { results := [.lit (.bool true)], args := [d] }
  | _ => none }
def fnExactProgTextRow : OpenClaim := { program := "ytnhdachenckceaa", sum := "b01281dfa5ce26f3141f063580c900608b176af75c28a2471836736045c73676", func := "loop.example/kleenetests/laws.FnExactProgText", spec := "fnExactProgText", unfollowed := true, recurses := true, apart := false }
def FnExactProgTextSaid : Prop := fnExactProgTextRow.holds Try.pinned (OpenSpec.ofChange fnExactProgTextSpec)

/-- ITS FALSE NEIGHBOUR: 'it returns false'. Refute it at one input. -/
def fnExactProgTextWrong : ChangeSpec := { name := "fnExactProgText", fn := fun _ => fun
  | [d] => { results := [.lit (.bool false)], args := [d] }
  | _ => none }
def FnExactProgTextWrongFalsely : Prop := fnExactProgTextRow.holds Try.pinned (OpenSpec.ofChange fnExactProgTextWrong)

/-- 'laws.FnCodeValid': WHATEVER THE INPUT: true; the input reads as it did. -/
def fnCodeValidSpec : ChangeSpec := { name := "fnCodeValid", fn := fun _ => fun
  | [d] => { results := [.lit (.bool true)], args := [d] }
  | _ => none }
def fnCodeValidRow : OpenClaim := { program := "ytnhdachenckceaa", sum := "b01281dfa5ce26f3141f063580c900608b176af75c28a2471836736045c73676", func := "loop.example/kleenetests/laws.FnCodeValid", spec := "fnCodeValid", recurses := true, apart := false }
def FnCodeValidSaid : Prop := fnCodeValidRow.holds Try.pinned (OpenSpec.ofChange fnCodeValidSpec)

/-- ITS FALSE NEIGHBOUR: 'it returns false'. Refute it at one input. -/
def fnCodeValidWrong : ChangeSpec := { name := "fnCodeValid", fn := fun _ => fun
  | [d] => { results := [.lit (.bool false)], args := [d] }
  | _ => none }
def FnCodeValidWrongFalsely : Prop := fnCodeValidRow.holds Try.pinned (OpenSpec.ofChange fnCodeValidWrong)

/-- 'laws.FnExactProgKat': WHATEVER THE INPUT: true; the input reads as it did. -/
def fnExactProgKatSpec : ChangeSpec := { name := "fnExactProgKat", fn := fun _ => fun
  | [d] => { results := [.lit (.bool true)], args := [d] }
  | _ => none }
def fnExactProgKatRow : OpenClaim := { program := "ytnhdachenckceaa", sum := "b01281dfa5ce26f3141f063580c900608b176af75c28a2471836736045c73676", func := "loop.example/kleenetests/laws.FnExactProgKat", spec := "fnExactProgKat", unfollowed := true, recurses := true, apart := false }
def FnExactProgKatSaid : Prop := fnExactProgKatRow.holds Try.pinned (OpenSpec.ofChange fnExactProgKatSpec)

/-- ITS FALSE NEIGHBOUR: 'it returns false'. Refute it at one input. -/
def fnExactProgKatWrong : ChangeSpec := { name := "fnExactProgKat", fn := fun _ => fun
  | [d] => { results := [.lit (.bool false)], args := [d] }
  | _ => none }
def FnExactProgKatWrongFalsely : Prop := fnExactProgKatRow.holds Try.pinned (OpenSpec.ofChange fnExactProgKatWrong)

/-- 'laws.FnExactCodeShort': WHATEVER THE INPUT: true; the input reads as it did. -/
def fnExactCodeShortSpec : ChangeSpec := { name := "fnExactCodeShort", fn := fun _ => fun
  | [d] => { results := [.lit (.bool true)], args := [d] }
  | _ => none }
def fnExactCodeShortRow : OpenClaim := { program := "ytnhdachenckceaa", sum := "b01281dfa5ce26f3141f063580c900608b176af75c28a2471836736045c73676", func := "loop.example/kleenetests/laws.FnExactCodeShort", spec := "fnExactCodeShort", apart := false }
def FnExactCodeShortSaid : Prop := fnExactCodeShortRow.holds Try.pinned (OpenSpec.ofChange fnExactCodeShortSpec)

/-- ITS FALSE NEIGHBOUR: 'it returns false'. Refute it at one input. -/
def fnExactCodeShortWrong : ChangeSpec := { name := "fnExactCodeShort", fn := fun _ => fun
  | [d] => { results := [.lit (.bool false)], args := [d] }
  | _ => none }
def FnExactCodeShortWrongFalsely : Prop := fnExactCodeShortRow.holds Try.pinned (OpenSpec.ofChange fnExactCodeShortWrong)

/-- 'laws.FnProgText': WHATEVER THE INPUT: true; the input reads as it did. -/
def fnProgTextSpec : ChangeSpec := { name := "fnProgText", fn := fun _ => fun
  | [d1, d2] => { results := [.lit (.bool true)], args := [d1, d2] }
  | _ => none }
def fnProgTextRow : OpenClaim := { program := "ytnhdachenckceaa", sum := "b01281dfa5ce26f3141f063580c900608b176af75c28a2471836736045c73676", func := "loop.example/kleenetests/laws.FnProgText", spec := "fnProgText", unfollowed := true, recurses := true, apart := false }
def FnProgTextSaid : Prop := fnProgTextRow.holds Try.pinned (OpenSpec.ofChange fnProgTextSpec)

/-- ITS FALSE NEIGHBOUR: 'it returns false'. Refute it at one input. -/
def fnProgTextWrong : ChangeSpec := { name := "fnProgText", fn := fun _ => fun
  | [d1, d2] => { results := [.lit (.bool false)], args := [d1, d2] }
  | _ => none }
def FnProgTextWrongFalsely : Prop := fnProgTextRow.holds Try.pinned (OpenSpec.ofChange fnProgTextWrong)

/-- 'laws.FnCodeReached': WHATEVER THE INPUT: true; the input reads as it did. -/
def fnCodeReachedSpec : ChangeSpec := { name := "fnCodeReached", fn := fun _ => fun
  | [d] => { results := [.lit (.bool true)], args := [d] }
  | _ => none }
def fnCodeReachedRow : OpenClaim := { program := "ytnhdachenckceaa", sum := "b01281dfa5ce26f3141f063580c900608b176af75c28a2471836736045c73676", func := "loop.example/kleenetests/laws.FnCodeReached", spec := "fnCodeReached", recurses := true, apart := false }
def FnCodeReachedSaid : Prop := fnCodeReachedRow.holds Try.pinned (OpenSpec.ofChange fnCodeReachedSpec)

/-- ITS FALSE NEIGHBOUR: 'it returns false'. Refute it at one input. -/
def fnCodeReachedWrong : ChangeSpec := { name := "fnCodeReached", fn := fun _ => fun
  | [d] => { results := [.lit (.bool false)], args := [d] }
  | _ => none }
def FnCodeReachedWrongFalsely : Prop := fnCodeReachedRow.holds Try.pinned (OpenSpec.ofChange fnCodeReachedWrong)

/- THE SECOND FORM. 'bulk': how many values and letters a reading holds, each counted each time it is reached (what is shared counts as often as it is met; a slice's spare places count too). A statement '..UptoSaid' is the law's where the arguments, and the package variables that the reading takes, are together of bulk at most 1048576: NARROWER than '..Said'. Prove '..Said' where nothing that the law and all that it calls make is longer than what came in: it says more and counts as full. Else prove '..UptoSaid'. A law counts once. -/
mutual
def uptoBulk {H : Type} : DataW H → Nat
  | .lit (.string bytes) => bytes.length + 1
  | .lit _ => 1
  | .nil => 1
  | .ptr d => uptoBulk d + 1
  | .slice elems spare => uptoBulkAll elems + uptoBulkAll spare + 1
  | .agg parts => uptoBulkAll parts + 1
  | .iface _ d => uptoBulk d + 1
  | .map entries => uptoBulkEntries entries + 1
  | .held _ => 1
def uptoBulkAll {H : Type} : List (DataW H) → Nat
  | [] => 0
  | d :: r => uptoBulk d + uptoBulkAll r
def uptoBulkEntries {H : Type} : List (Lit × DataW H) → Nat
  | [] => 0
  | x :: r => uptoBulkEntry x + uptoBulkEntries r
def uptoBulkEntry {H : Type} : Lit × DataW H → Nat
  | (.string bytes, d) => bytes.length + uptoBulk d + 1
  | (_, d) => uptoBulk d + 1
 end
def uptoSmall : (H : Type) → List (DataW H) → Bool := fun _ ds => decide (uptoBulkAll ds ≤ 1048576)
def OpenSpec.upto (s : _root_.Go.ChangeSpec) : _root_.Go.OpenSpec := { _root_.Go.OpenSpec.ofChange s with cond := some uptoSmall }

/-- 'laws.FnExactProgValid', WHERE WHAT IT READS IS OF BULK AT MOST 1048576: true; the input reads as it did. -/
def fnExactProgValidUptoRow : OpenClaim := { program := "ytnhdachenckceaa", sum := "b01281dfa5ce26f3141f063580c900608b176af75c28a2471836736045c73676", func := "loop.example/kleenetests/laws.FnExactProgValid", spec := "fnExactProgValid", apart := false, narrowed := true }
def FnExactProgValidUptoSaid : Prop := fnExactProgValidUptoRow.holds Try.pinned (OpenSpec.upto fnExactProgValidSpec)

/-- 'laws.FnExactCodeValid', WHERE WHAT IT READS IS OF BULK AT MOST 1048576: true; the input reads as it did. -/
def fnExactCodeValidUptoRow : OpenClaim := { program := "ytnhdachenckceaa", sum := "b01281dfa5ce26f3141f063580c900608b176af75c28a2471836736045c73676", func := "loop.example/kleenetests/laws.FnExactCodeValid", spec := "fnExactCodeValid", apart := false, narrowed := true }
def FnExactCodeValidUptoSaid : Prop := fnExactCodeValidUptoRow.holds Try.pinned (OpenSpec.upto fnExactCodeValidSpec)

/-- 'laws.FnProgValid', WHERE WHAT IT READS IS OF BULK AT MOST 1048576: true; the input reads as it did. -/
def fnProgValidUptoRow : OpenClaim := { program := "ytnhdachenckceaa", sum := "b01281dfa5ce26f3141f063580c900608b176af75c28a2471836736045c73676", func := "loop.example/kleenetests/laws.FnProgValid", spec := "fnProgValid", recurses := true, apart := false, narrowed := true }
def FnProgValidUptoSaid : Prop := fnProgValidUptoRow.holds Try.pinned (OpenSpec.upto fnProgValidSpec)

/-- 'laws.FnExactCodeThread', WHERE WHAT IT READS IS OF BULK AT MOST 1048576: true; the input reads as it did. -/
def fnExactCodeThreadUptoRow : OpenClaim := { program := "ytnhdachenckceaa", sum := "b01281dfa5ce26f3141f063580c900608b176af75c28a2471836736045c73676", func := "loop.example/kleenetests/laws.FnExactCodeThread", spec := "fnExactCodeThread", apart := false, narrowed := true }
def FnExactCodeThreadUptoSaid : Prop := fnExactCodeThreadUptoRow.holds Try.pinned (OpenSpec.upto fnExactCodeThreadSpec)

/-- 'laws.FnExactCodeReached', WHERE WHAT IT READS IS OF BULK AT MOST 1048576: true; the input reads as it did. -/
def fnExactCodeReachedUptoRow : OpenClaim := { program := "ytnhdachenckceaa", sum := "b01281dfa5ce26f3141f063580c900608b176af75c28a2471836736045c73676", func := "loop.example/kleenetests/laws.FnExactCodeReached", spec := "fnExactCodeReached", apart := false, narrowed := true }
def FnExactCodeReachedUptoSaid : Prop := fnExactCodeReachedUptoRow.holds Try.pinned (OpenSpec.upto fnExactCodeReachedSpec)

/-- 'laws.FnExactProgCode', WHERE WHAT IT READS IS OF BULK AT MOST 1048576: true; the input reads as it did. -/
def fnExactProgCodeUptoRow : OpenClaim := { program := "ytnhdachenckceaa", sum := "b01281dfa5ce26f3141f063580c900608b176af75c28a2471836736045c73676", func := "loop.example/kleenetests/laws.FnExactProgCode", spec := "fnExactProgCode", unfollowed := true, recurses := true, apart := false, narrowed := true }
def FnExactProgCodeUptoSaid : Prop := fnExactProgCodeUptoRow.holds Try.pinned (OpenSpec.upto fnExactProgCodeSpec)

/-- 'laws.FnExactProgText', WHERE WHAT IT READS IS OF BULK AT MOST 1048576: true; the input reads as it did. -/
def fnExactProgTextUptoRow : OpenClaim := { program := "ytnhdachenckceaa", sum := "b01281dfa5ce26f3141f063580c900608b176af75c28a2471836736045c73676", func := "loop.example/kleenetests/laws.FnExactProgText", spec := "fnExactProgText", unfollowed := true, recurses := true, apart := false, narrowed := true }
def FnExactProgTextUptoSaid : Prop := fnExactProgTextUptoRow.holds Try.pinned (OpenSpec.upto fnExactProgTextSpec)

/-- 'laws.FnCodeValid', WHERE WHAT IT READS IS OF BULK AT MOST 1048576: true; the input reads as it did. -/
def fnCodeValidUptoRow : OpenClaim := { program := "ytnhdachenckceaa", sum := "b01281dfa5ce26f3141f063580c900608b176af75c28a2471836736045c73676", func := "loop.example/kleenetests/laws.FnCodeValid", spec := "fnCodeValid", recurses := true, apart := false, narrowed := true }
def FnCodeValidUptoSaid : Prop := fnCodeValidUptoRow.holds Try.pinned (OpenSpec.upto fnCodeValidSpec)

/-- 'laws.FnExactProgKat', WHERE WHAT IT READS IS OF BULK AT MOST 1048576: true; the input reads as it did. -/
def fnExactProgKatUptoRow : OpenClaim := { program := "ytnhdachenckceaa", sum := "b01281dfa5ce26f3141f063580c900608b176af75c28a2471836736045c73676", func := "loop.example/kleenetests/laws.FnExactProgKat", spec := "fnExactProgKat", unfollowed := true, recurses := true, apart := false, narrowed := true }
def FnExactProgKatUptoSaid : Prop := fnExactProgKatUptoRow.holds Try.pinned (OpenSpec.upto fnExactProgKatSpec)

/-- 'laws.FnExactCodeShort', WHERE WHAT IT READS IS OF BULK AT MOST 1048576: true; the input reads as it did. -/
def fnExactCodeShortUptoRow : OpenClaim := { program := "ytnhdachenckceaa", sum := "b01281dfa5ce26f3141f063580c900608b176af75c28a2471836736045c73676", func := "loop.example/kleenetests/laws.FnExactCodeShort", spec := "fnExactCodeShort", apart := false, narrowed := true }
def FnExactCodeShortUptoSaid : Prop := fnExactCodeShortUptoRow.holds Try.pinned (OpenSpec.upto fnExactCodeShortSpec)

/-- 'laws.FnProgText', WHERE WHAT IT READS IS OF BULK AT MOST 1048576: true; the input reads as it did. -/
def fnProgTextUptoRow : OpenClaim := { program := "ytnhdachenckceaa", sum := "b01281dfa5ce26f3141f063580c900608b176af75c28a2471836736045c73676", func := "loop.example/kleenetests/laws.FnProgText", spec := "fnProgText", unfollowed := true, recurses := true, apart := false, narrowed := true }
def FnProgTextUptoSaid : Prop := fnProgTextUptoRow.holds Try.pinned (OpenSpec.upto fnProgTextSpec)

/-- 'laws.FnCodeReached', WHERE WHAT IT READS IS OF BULK AT MOST 1048576: true; the input reads as it did. -/
def fnCodeReachedUptoRow : OpenClaim := { program := "ytnhdachenckceaa", sum := "b01281dfa5ce26f3141f063580c900608b176af75c28a2471836736045c73676", func := "loop.example/kleenetests/laws.FnCodeReached", spec := "fnCodeReached", recurses := true, apart := false, narrowed := true }
def FnCodeReachedUptoSaid : Prop := fnCodeReachedUptoRow.holds Try.pinned (OpenSpec.upto fnCodeReachedSpec)

end Rows
end Go.Proofs.Ytnhdachenckceaa
