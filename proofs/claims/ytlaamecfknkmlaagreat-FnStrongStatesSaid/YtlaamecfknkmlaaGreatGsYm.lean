/- Merged texts: contracts and plain lemmas (Ym). -/
import Derived.Test.YtlaamecfknkmlaaGreatGsYk
import Derived.Test.YtlaamecfknkmlaaGreatGs4
import Derived.Test.YtlaamecfknkmlaaGreatGs2
import Derived.Deep.RegionHeld3
namespace Go.Proofs.YtlaamecfknkmlaaGreat
set_option linter.unusedVariables false
open Go.RowKit Go.Kt

end Go.Proofs.YtlaamecfknkmlaaGreat
