/- Which profiles are refused, in the reference. -/
import Derived.Test.YthpekfpeoglbgaaGreatDoorW9
import Derived.Test.YthpekfpeoglbgaaGreatDoorL2
import Derived.Deep.RegionHeld3
import Derived.Deep.RegionWith
namespace Go.Proofs.YthpekfpeoglbgaaGreatDoor
open Go.RowKit Go.Hw
set_option linter.unusedVariables false
set_option linter.unusedSimpArgs false

end Go.Proofs.YthpekfpeoglbgaaGreatDoor
