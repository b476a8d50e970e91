/- Contracts of the small functions over numbers and sets. -/
import Derived.Test.YtcjnihhinnedkaaDoorRows
import Derived.Test.YtcjnihhinnedkaaDoorSets
import Derived.BigQuiet
import Derived.Deep.QuietTactic
import Derived.Deep.LoopGhost
namespace Go.Proofs.YtcjnihhinnedkaaDoor
set_option linter.unusedVariables false
open Go.RowKit Go.Kt

/-- Within bounds. -/
def inB (n a b : Int) : Bool := decide (a ≤ n ∧ n ≤ b)

theorem l1In_c (n a b : Int) (w : World) :
    Calls Tryd.prog 31 #[.int .i64 n, .int .i64 a, .int .i64 b] w fun e w' => e = .returned (.bool (inB n a b)) ∧ w = w' := by
  by_cases h1 : a ≤ n
  all_goals
    go_enter Tryd.func31, Tryd.ntmps31
    go_wp2
    go_ret
    exact ⟨by simp [inB, h1]; try omega, rfl⟩
theorem holds_c (t a : Nat) (w : World) (ht : t < 4294967296) (_ha : a < 60) :
    Calls Tryd.prog 49 #[.int .i64 t, .int .i64 a] w fun e w' => e = .returned (.bool (t.testBit a)) ∧ w = w' := by
  go_enter Tryd.func49, Tryd.ntmps49
  go_wp2
  go_ret
  exact ⟨by rw [← i64_bit_eq t a (by omega)]; rfl, rfl⟩
theorem l1Bit_c (t a : Nat) (w : World) (_ht : t < 4294967296) (_ha : a < 60) :
    Calls Tryd.prog 46 #[.int .i64 t, .int .i64 a] w fun e w' => e = .returned (.int .i64 ((t.testBit a).toNat : Nat)) ∧ w = w' := by
  go_enter Tryd.func46, Tryd.ntmps46
  go_wp2
  go_ret
  exact ⟨by rw [← tmod_bit t a]; rfl, rfl⟩
/-- A set of so many states. -/
def setB (s : Nat) (x : Int) : Bool := decide (0 ≤ x ∧ x < 2 ^ s)

end Go.Proofs.YtcjnihhinnedkaaDoor
