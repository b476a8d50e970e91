/- All contracts of models that are there so far, under one name. -/
import Derived.Test.YtgpfebpjiddjjaaDoorE
import Derived.Test.YtgpfebpjiddjjaaDoorH
import Derived.Test.YtgpfebpjiddjjaaDoorI
import Derived.Deep.RegionHeld3
