/- The texts JComposes, one behind the other. -/
import Derived.Test.YtlkcjmaiahnodaaGreatDoorRows
import Derived.Test.YtlkcjmaiahnodaaGreatDoorTie
import Derived.Test.YtlkcjmaiahnodaaGreatDoorCards
import Derived.JoinedOf
import Derived.WalkKit
import Derived.ProofKit
import Derived.Handy
/- The closed facts of the row UnifyComposes: in a text of their own, since the kernel wants 9 GB for them. -/
namespace Go.Proofs.YtlkcjmaiahnodaaGreatDoor
open Go.ChangeShapes Go.WideShapes Go.ChangeAt Go.RowKit
theorem unifyComposes_facts : joinedFacts Tryz.checked.prog 6 Tryz.f6 Rows.unifyComposesSpec Rows.unifyComposesRow = true := by kernel_rfl
end Go.Proofs.YtlkcjmaiahnodaaGreatDoor
