/- The texts JPuts, one behind the other. -/
import Derived.Test.YtjjaknmnhhfjeaaGreatDoorRows
import Derived.Test.YtjjaknmnhhfjeaaGreatDoorTie
import Derived.Test.YtjjaknmnhhfjeaaGreatDoorCards
import Derived.JoinedOf
import Derived.WalkKit
import Derived.ProofKit
import Derived.Handy
/- The closed facts of the row TermPuts: in a text of their own, since the kernel wants 9 GB for them. -/
namespace Go.Proofs.YtjjaknmnhhfjeaaGreatDoor
open Go.ChangeShapes Go.WideShapes Go.ChangeAt Go.RowKit
theorem termPuts_facts : joinedFacts Tryz.checked.prog 6 Tryz.f6 Rows.termPutsSpec Rows.termPutsRow = true := by kernel_rfl
end Go.Proofs.YtjjaknmnhhfjeaaGreatDoor
