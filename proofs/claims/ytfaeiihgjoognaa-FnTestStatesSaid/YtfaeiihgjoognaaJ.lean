/- All contracts of models that are there so far, under one name. -/
import Derived.Test.YtfaeiihgjoognaaE
import Derived.Test.YtfaeiihgjoognaaH
import Derived.Test.YtfaeiihgjoognaaI
import Derived.Deep.RegionHeld3
