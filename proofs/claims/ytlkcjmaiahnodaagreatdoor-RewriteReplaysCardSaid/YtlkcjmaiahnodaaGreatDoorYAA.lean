/- The texts JReplays, one behind the other. -/
import Derived.Test.YtlkcjmaiahnodaaGreatDoorRows
import Derived.Test.YtlkcjmaiahnodaaGreatDoorTie
import Derived.Test.YtlkcjmaiahnodaaGreatDoorCards
import Derived.JoinedOf
import Derived.WalkKit
import Derived.ProofKit
import Derived.Handy
namespace Go.Proofs.YtlkcjmaiahnodaaGreatDoor
open Go.RowKit
section
open Go.ChangeShapes Go.WideShapes Go.ChangeAt
theorem z_:joinedFacts Tryz.checked.prog 10 Tryz.f10 Rows.rewriteReplaysSpec Rows.rewriteReplaysRow=true:=by kernel_rfl
end
end Go.Proofs.YtlkcjmaiahnodaaGreatDoor
