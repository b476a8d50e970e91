/- Contracts: validity of rows and models. -/
import Derived.Test.YtcjnihhinnedkaaDoorA
namespace Go.Proofs.YtcjnihhinnedkaaDoor
set_option linter.unusedVariables false
open Go.RowKit Go.Kt

/-- Rows are valid. -/
def rvB (n : Int) (l : List Int) : Bool := decide (1 ≤ n ∧ n ≤ 5 ∧ (l.length : Int) = n ∧ ∀ x ∈ l, 0 ≤ x ∧ x < 2 ^ n.toNat)

/-- Not a set of so many states. -/
def notSet (s : Nat) (x : Int) : Bool := !decide (0 ≤ x ∧ x < 2 ^ s)

end Go.Proofs.YtcjnihhinnedkaaDoor
