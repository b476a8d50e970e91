/- Merged texts: contracts and plain lemmas (Kd). -/
import Derived.Test.YtlaamecfknkmlaaDoorMh24
import Derived.Test.YtlaamecfknkmlaaDoorMh15
import Derived.Deep.DeepCutAuto
import Derived.Deep.CutBlock
/- Contracts: expressions drawn. -/
namespace Go.Proofs.YtlaamecfknkmlaaDoor
set_option linter.unusedVariables false
open Go.RowKit Go.Kt

end Go.Proofs.YtlaamecfknkmlaaDoor
