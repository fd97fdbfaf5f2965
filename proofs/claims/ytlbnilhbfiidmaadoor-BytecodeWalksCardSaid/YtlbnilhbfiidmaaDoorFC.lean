/- The frame of a card: the tables out of the condition, the witness. -/
import Derived.Test.YtlbnilhbfiidmaaDoorFO
import Derived.Test.YtlbnilhbfiidmaaDoorLX
import Derived.Test.YtlbnilhbfiidmaaDoorB11
import Derived.Test.YtlbnilhbfiidmaaDoorTie
import Derived.Test.YtlbnilhbfiidmaaDoorCards
import Derived.WalkKit
import Derived.ProofKit
import Derived.Handy
import Derived.Lay
import Derived.MakeChecks
import Derived.OpenShut
import Derived.LaidSub
import Derived.SevenTiedAt
namespace Go.Proofs.YtlbnilhbfiidmaaDoor
open Go.ChangeShapes Go.WideShapes Go.ChangeAt Go.RowKit Go.Hw
set_option linter.unusedVariables false
set_option linter.unusedSimpArgs false
def tabs3 : List (String × DataW Unit) := [("math/bits.deBruijn64tab", Rows.laid_math_bits_deBruijn64tab), ("unicode.White_Space", Rows.laid_unicode_White_Space), ("strings.asciiSpace", Rows.laid_strings_asciiSpace)]
def bruijnZ : List Int := Lib.deBruijn64tab.map Int.ofNat
theorem bruijn_data : (Rows.laid_math_bits_deBruijn64tab : DataW Unit) = Lib.tabData .u8 bruijnZ := by kernel_rfl
theorem space_data : (Rows.laid_strings_asciiSpace : DataW Unit) = Lib.tabData .u8 Lib.asciiSpaceTab := by kernel_rfl
theorem tabs3_bruijn : (tabs3.filter fun x => x.1 == "math/bits.deBruijn64tab") = [("math/bits.deBruijn64tab", Lib.tabData .u8 bruijnZ)] := by
  rw [← bruijn_data]; kernel_rfl
theorem tabs3_space : (tabs3.filter fun x => x.1 == "strings.asciiSpace") = [("strings.asciiSpace", Lib.tabData .u8 Lib.asciiSpaceTab)] := by
  rw [← space_data]; kernel_rfl
set_option maxRecDepth 100000 in
theorem tabs_of_laid {W : World} (h : laidMetH Tryd.prog tabs3 W) : AscT W ∧ ∀ W', Ext W W' → TabAt 0 Lib.deBruijn64tab W' := by
  rw [MakeChecks.laidMetH_plain _ _ _ (by kernel_rfl)] at h
  refine ⟨?_, fun W' hx j hj => ?_⟩
  · have h2 := laidMet.filter (fun x => x.1 == "strings.asciiSpace") h
    rw [tabs3_space] at h2
    exact Lib.tabIs_of_head (g := (Tryd.prog.globalNamed "strings.asciiSpace").getD 0) (t := 94) (e := 5) (n := 256) (by kernel_rfl) (by kernel_rfl) (by kernel_rfl) (by kernel_rfl) (by kernel_rfl) (by kernel_rfl) h2
  · have h2 := laidMet.filter (fun x => x.1 == "math/bits.deBruijn64tab") h
    rw [tabs3_bruijn] at h2
    have h3 : Lib.TabIs Tryd.prog W "math/bits.deBruijn64tab" .u8 bruijnZ := Lib.tabIs_of_head (g := (Tryd.prog.globalNamed "math/bits.deBruijn64tab").getD 0) (t := 91) (e := 5) (n := 64) (by kernel_rfl) (by kernel_rfl) (by kernel_rfl) (by kernel_rfl) (by kernel_rfl) (by kernel_rfl) h2
    have h4 := h3.cell (g := 0) (by kernel_rfl) j (by unfold bruijnZ; rw [List.length_map]; exact hj)
    have h5 : bruijnZ.getD j 0 = ((Lib.deBruijn64tab.getD j 0 : Nat) : Int) := by unfold bruijnZ; simp [hj]
    rw [h5] at h4
    exact hx.cell h4 (fun h => h)
end Go.Proofs.YtlbnilhbfiidmaaDoor
