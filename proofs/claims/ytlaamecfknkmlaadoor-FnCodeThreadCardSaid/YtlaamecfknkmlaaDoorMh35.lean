/- Merged texts: contracts and plain lemmas (Pk). -/
import Derived.Test.YtlaamecfknkmlaaDoorMh32
import Derived.Test.YtlaamecfknkmlaaDoorMh34
/- Contracts: the code of a program: the program's own. -/
namespace Go.Proofs.YtlaamecfknkmlaaDoor
set_option linter.unusedVariables false
open Go.RowKit Go.Kt

end Go.Proofs.YtlaamecfknkmlaaDoor
