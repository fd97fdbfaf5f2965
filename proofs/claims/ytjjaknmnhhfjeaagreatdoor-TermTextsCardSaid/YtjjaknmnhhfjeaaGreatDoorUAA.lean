/- The texts JTexts, one behind the other. -/
import Derived.Test.YtjjaknmnhhfjeaaGreatDoorRows
import Derived.Test.YtjjaknmnhhfjeaaGreatDoorTie
import Derived.Test.YtjjaknmnhhfjeaaGreatDoorCards
import Derived.JoinedOf
import Derived.WalkKit
import Derived.ProofKit
import Derived.Handy
/- The closed facts of the row TermTexts: in a text of their own, since the kernel wants 9 GB for them. -/
namespace Go.Proofs.YtjjaknmnhhfjeaaGreatDoor
open Go.ChangeShapes Go.WideShapes Go.ChangeAt Go.RowKit
theorem termTexts_facts : joinedFacts Tryz.checked.prog 5 Tryz.f5 Rows.termTextsSpec Rows.termTextsRow = true := by kernel_rfl
end Go.Proofs.YtjjaknmnhhfjeaaGreatDoor
