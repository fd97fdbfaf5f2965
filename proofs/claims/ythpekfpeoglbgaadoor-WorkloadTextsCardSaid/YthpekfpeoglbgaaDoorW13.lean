/- Which profiles are refused, in the reference. -/
import Derived.Test.YthpekfpeoglbgaaDoorW9
import Derived.Test.YthpekfpeoglbgaaDoorL2
import Derived.Deep.RegionHeld3
import Derived.Deep.RegionWith
namespace Go.Proofs.YthpekfpeoglbgaaDoor
open Go.RowKit Go.Hw
set_option linter.unusedVariables false
set_option linter.unusedSimpArgs false

end Go.Proofs.YthpekfpeoglbgaaDoor
