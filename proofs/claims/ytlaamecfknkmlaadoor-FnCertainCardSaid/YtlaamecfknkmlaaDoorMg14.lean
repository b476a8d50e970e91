/- Merged texts: contracts and plain lemmas (Tw). -/
import Derived.Test.YtlaamecfknkmlaaDoorMg13
/- Contracts: the text of an expression, in the reference. -/
namespace Go.Kt
/-- Whether an expression stands in brackets where so much strength is asked. -/
def Kt.br (t : Kt) (k : Nat) : Bool := (t.top == 20 && decide (1 < k)) || (t.top == 19 && decide (2 < k))
theorem Kt.br_1 (t : Kt) : t.br 1 = false := by simp [Kt.br]
theorem Kt.br_2 (t : Kt) : t.br 2 = (t.top == 20) := by simp [Kt.br]
theorem Kt.br_3 (t : Kt) : t.br 3 = (t.top == 20 || t.top == 19) := by simp [Kt.br]
theorem Kt.br_3' (t : Kt) : t.br 3 = (t.top == 19 || t.top == 20) := by rw [Kt.br_3, Bool.or_comm]
theorem Kt.br_0 (t : Kt) : t.br 0 = false := by simp [Kt.br]
end Go.Kt
namespace Go.Proofs.YtlaamecfknkmlaaDoor
set_option linter.unusedVariables false
open Go.RowKit Go.Kt

end Go.Proofs.YtlaamecfknkmlaaDoor
