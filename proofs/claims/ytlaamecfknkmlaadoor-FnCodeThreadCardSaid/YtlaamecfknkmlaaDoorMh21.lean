/- Merged texts: contracts and plain lemmas (Ca). -/
import Derived.Test.YtlaamecfknkmlaaDoorMh3
import Derived.Test.YtlaamecfknkmlaaDoorMh14
import Derived.Deep.RegionLaw
/- Contracts: the laws' helpers over slices of instructions. -/
namespace Go.Proofs.YtlaamecfknkmlaaDoor
set_option linter.unusedVariables false
open Go.RowKit Go.Kt

theorem infoIns : (Tryd.prog.info? 61).map (fun i => (i.zero, i.size, i.bytes)) = some (some (.agg #[.int .i64 0, .int .i64 0, .int .i64 0]), 3, 24) := by kernel_rfl
abbrev insV (k a t : Int) : Value := .agg #[.int .i64 k, .int .i64 a, .int .i64 t]
theorem fillTo_zero' (L : List Int) (n : Nat) (h : L.length = n * 3) : fillTo L 0 = List.replicate (n * 3) 0 := by rw [fillTo_zero, h]
end Go.Proofs.YtlaamecfknkmlaaDoor
