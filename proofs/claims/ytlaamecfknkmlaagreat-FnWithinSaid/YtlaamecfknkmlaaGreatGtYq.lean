/- Merged texts: contracts and plain lemmas (Yq). -/
import Derived.Test.YtlaamecfknkmlaaGreatGt13
import Derived.Deep.RegionHeld3
namespace Go.Proofs.YtlaamecfknkmlaaGreat
set_option linter.unusedVariables false
open Go.RowKit Go.Kt

end Go.Proofs.YtlaamecfknkmlaaGreat
