/- ValidProfile of the reference. -/
import Derived.Test.YthpekfpeoglbgaaGreatDoorW13
import Derived.Test.YthpekfpeoglbgaaGreatDoorW7
import Derived.Test.YthpekfpeoglbgaaGreatDoorW10
namespace Go.Proofs.YthpekfpeoglbgaaGreatDoor
open Go.RowKit Go.Hw
set_option linter.unusedVariables false
set_option linter.unusedSimpArgs false

theorem any_take (p : Int → Bool) (l : List Int) (j : Nat) (h : j < l.length) : (l.take (j + 1)).any p = ((l.take j).any p || p (l.getD j 0)) := by
  rw [List.take_succ_eq_append_getElem h, List.any_append]; simp [h]

end Go.Proofs.YthpekfpeoglbgaaGreatDoor
