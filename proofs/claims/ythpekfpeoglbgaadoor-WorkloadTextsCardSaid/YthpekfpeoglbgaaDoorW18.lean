/- Generate of the reference. -/
import Derived.Test.YthpekfpeoglbgaaDoorW17
import Derived.Deep.RegionHeld3
namespace Go.Proofs.YthpekfpeoglbgaaDoor
open Go.RowKit Go.Hw
set_option linter.unusedVariables false
set_option linter.unusedSimpArgs false

end Go.Proofs.YthpekfpeoglbgaaDoor
