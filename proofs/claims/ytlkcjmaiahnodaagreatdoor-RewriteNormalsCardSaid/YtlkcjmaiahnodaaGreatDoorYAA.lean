/- The texts JNormals, one behind the other. -/
import Derived.Test.YtlkcjmaiahnodaaGreatDoorRows
import Derived.Test.YtlkcjmaiahnodaaGreatDoorTie
import Derived.Test.YtlkcjmaiahnodaaGreatDoorCards
import Derived.JoinedOf
import Derived.WalkKit
import Derived.ProofKit
import Derived.Handy
namespace Go.Proofs.YtlkcjmaiahnodaaGreatDoor
open Go.RowKit
section
open Go.ChangeShapes Go.WideShapes Go.ChangeAt
theorem BM:joinedFacts Tryz.checked.prog 9 Tryz.f9 Rows.rewriteNormalsSpec Rows.rewriteNormalsRow=true:=by kernel_rfl
end
end Go.Proofs.YtlkcjmaiahnodaaGreatDoor
