/- The texts JSteps, one behind the other. -/
import Derived.Test.YtlkcjmaiahnodaaGreatDoorRows
import Derived.Test.YtlkcjmaiahnodaaGreatDoorTie
import Derived.Test.YtlkcjmaiahnodaaGreatDoorCards
import Derived.JoinedOf
import Derived.WalkKit
import Derived.ProofKit
import Derived.Handy
namespace Go.Proofs.YtlkcjmaiahnodaaGreatDoor
open Go.RowKit
section
open Go.ChangeShapes Go.WideShapes Go.ChangeAt
theorem EX:joinedFacts Tryz.checked.prog 11 Tryz.f11 Rows.rewriteStepsSpec Rows.rewriteStepsRow=true:=by kernel_rfl
end
end Go.Proofs.YtlkcjmaiahnodaaGreatDoor
