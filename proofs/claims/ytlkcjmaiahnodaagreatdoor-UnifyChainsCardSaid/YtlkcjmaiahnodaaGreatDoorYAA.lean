/- The texts JChains, one behind the other. -/
import Derived.Test.YtlkcjmaiahnodaaGreatDoorRows
import Derived.Test.YtlkcjmaiahnodaaGreatDoorTie
import Derived.Test.YtlkcjmaiahnodaaGreatDoorCards
import Derived.JoinedOf
import Derived.WalkKit
import Derived.ProofKit
import Derived.Handy
/- The closed facts of the row UnifyChains: in a text of their own, since the kernel wants 9 GB for them. -/
namespace Go.Proofs.YtlkcjmaiahnodaaGreatDoor
open Go.ChangeShapes Go.WideShapes Go.ChangeAt Go.RowKit
theorem unifyChains_facts : joinedFacts Tryz.checked.prog 7 Tryz.f7 Rows.unifyChainsSpec Rows.unifyChainsRow = true := by kernel_rfl
end Go.Proofs.YtlkcjmaiahnodaaGreatDoor
