/- All contracts of models that are there so far, under one name. -/
import Derived.Test.YtgpfebpjiddjjaaE
import Derived.Test.YtgpfebpjiddjjaaH
import Derived.Test.YtgpfebpjiddjjaaI
import Derived.Deep.RegionHeld3
