/- The texts N60 N62 Y17, one behind the other. -/
import Derived.Test.YtjjaknmnhhfjeaaGreatDoorKAU
import Derived.Test.YtjjaknmnhhfjeaaGreatDoorKAM
/- At of the reference. -/
namespace Go.Proofs.YtjjaknmnhhfjeaaGreatDoor
open Go.RowKit Go.Hw Go
set_option linter.unusedVariables false
set_option linter.unusedSimpArgs false

open Tm Go.Sort Go.Proofs Go.ChangeMaps
end Go.Proofs.YtjjaknmnhhfjeaaGreatDoor

/- Put of the reference. -/
namespace Go.Proofs.YtjjaknmnhhfjeaaGreatDoor
open Go.RowKit Go.Hw Go
set_option linter.unusedVariables false
set_option linter.unusedSimpArgs false

open Tm Go.Sort Go.Proofs Go.ChangeMaps
end Go.Proofs.YtjjaknmnhhfjeaaGreatDoor

/- Replace of the reference. -/
namespace Go.Proofs.YtjjaknmnhhfjeaaGreatDoor
open Go.RowKit Go.Hw Go Go.Sort Go.Proofs Go.ChangeMaps
set_option linter.unusedVariables false
set_option linter.unusedSimpArgs false

open Tm
end Go.Proofs.YtjjaknmnhhfjeaaGreatDoor
