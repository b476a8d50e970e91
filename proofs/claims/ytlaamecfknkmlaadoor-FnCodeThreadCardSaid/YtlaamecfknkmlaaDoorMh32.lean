/- Merged texts: contracts and plain lemmas (Pb). -/
import Derived.Test.YtlaamecfknkmlaaDoorMh23
import Derived.Test.YtlaamecfknkmlaaDoorMh31
import Derived.Test.YtlaamecfknkmlaaDoorMh28
import Derived.Deep.DeepCutAuto
import Derived.Deep.RegionLaw
/- Contracts: programs of words: the program's reader. -/
namespace Go.Proofs.YtlaamecfknkmlaaDoor
set_option linter.unusedVariables false
open Go.RowKit Go.Kt

theorem World.ownsRow_ext2 {w w' : World} {B E n : Nat} {v : Value} {xs : List Value} (h : w.ownsRow B E 1 v n xs) (e : Ext w w') : w'.ownsRow B E 1 v n xs := own_ext h e
end Go.Proofs.YtlaamecfknkmlaaDoor
