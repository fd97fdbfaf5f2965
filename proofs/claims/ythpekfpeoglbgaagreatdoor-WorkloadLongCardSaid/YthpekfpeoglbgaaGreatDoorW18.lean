/- Generate of the reference. -/
import Derived.Test.YthpekfpeoglbgaaGreatDoorW17
import Derived.Deep.RegionHeld3
namespace Go.Proofs.YthpekfpeoglbgaaGreatDoor
open Go.RowKit Go.Hw
set_option linter.unusedVariables false
set_option linter.unusedSimpArgs false

end Go.Proofs.YthpekfpeoglbgaaGreatDoor
