/- The texts JSignatures, one behind the other. -/
import Derived.Test.YtjjaknmnhhfjeaaGreatDoorRows
import Derived.Test.YtjjaknmnhhfjeaaGreatDoorTie
import Derived.Test.YtjjaknmnhhfjeaaGreatDoorCards
import Derived.JoinedOf
import Derived.WalkKit
import Derived.ProofKit
import Derived.Handy
/- The closed facts of the row TermSignatures: in a text of their own, since the kernel wants 9 GB for them. -/
namespace Go.Proofs.YtjjaknmnhhfjeaaGreatDoor
open Go.ChangeShapes Go.WideShapes Go.ChangeAt Go.RowKit
theorem termSignatures_facts : joinedFacts Tryz.checked.prog 4 Tryz.f4 Rows.termSignaturesSpec Rows.termSignaturesRow = true := by kernel_rfl
end Go.Proofs.YtjjaknmnhhfjeaaGreatDoor
