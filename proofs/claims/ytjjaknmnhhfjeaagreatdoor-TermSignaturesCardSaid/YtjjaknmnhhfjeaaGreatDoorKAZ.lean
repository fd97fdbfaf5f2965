/- The texts Y21, one behind the other. -/
import Derived.Test.YtjjaknmnhhfjeaaGreatDoorKAY
/- The law TermPuts. -/
namespace Go.Proofs.YtjjaknmnhhfjeaaGreatDoor
open Go.RowKit Go.Hw Go Go.Sort Go.Proofs Go.ChangeMaps
set_option linter.unusedVariables false
set_option linter.unusedSimpArgs false

open Tm
theorem tl_ne {a b : By} (h : ¬ a = b) : ¬ ByteArray.toList a = ByteArray.toList b := fun e => h (ba_list (by rw [← Lib.toList_data, ← Lib.toList_data, e]))
end Go.Proofs.YtjjaknmnhhfjeaaGreatDoor
