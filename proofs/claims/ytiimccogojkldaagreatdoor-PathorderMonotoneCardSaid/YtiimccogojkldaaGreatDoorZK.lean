/- The texts CF, one behind the other. -/
import Derived.Test.YtiimccogojkldaaGreatDoorZI
import Derived.Test.YtiimccogojkldaaGreatDoorTie
import Derived.Test.YtiimccogojkldaaGreatDoorCards
import Derived.WalkKit
import Derived.ProofKit
import Derived.Handy
import Derived.Lay
import Derived.MakeChecks
import Derived.OpenShut
import Derived.LaidSub
import Derived.SevenTiedAt
import Derived.Lib.SmallJoins
/- The frame of a card: what the row's variables hold. -/
namespace Go.Proofs.YtiimccogojkldaaGreatDoor
open Go.ChangeShapes Go.WideShapes Go.ChangeAt Go.RowKit Go.Hw
set_option linter.unusedVariables false
set_option linter.unusedSimpArgs false
def tabsL : List (String × DataW Unit) := [("math/bits.deBruijn32tab", Rows.laid_math_bits_deBruijn32tab), ("math/bits.deBruijn64tab", Rows.laid_math_bits_deBruijn64tab), ("internal/strconv.uint64pow10", Rows.laid_internal_strconv_uint64pow10), ("unicode.White_Space", Rows.laid_unicode_White_Space), ("strings.asciiSpace", Rows.laid_strings_asciiSpace)]
theorem pow10_data : (Rows.laid_internal_strconv_uint64pow10 : DataW Unit) = Lib.tabData .u64 Lib.pow10Tab := by kernel_rfl
theorem tabsL_pow : (tabsL.filter fun x => x.1 == "internal/strconv.uint64pow10") = [("internal/strconv.uint64pow10", Lib.tabData .u64 Lib.pow10Tab)] := by
  rw [← pow10_data]; kernel_rfl
set_option maxRecDepth 100000 in
theorem tab_of_laid {W : World} (h : laidMetH Tryz.prog tabsL W) : Lib.TabIs Tryz.prog W "internal/strconv.uint64pow10" .u64 Lib.pow10Tab := by
  rw [MakeChecks.laidMetH_plain _ _ _ (by kernel_rfl)] at h
  have h2 := laidMet.filter (fun x => x.1 == "internal/strconv.uint64pow10") h
  rw [tabsL_pow] at h2
  exact Lib.tabIs_of_head (g := (Tryz.prog.globalNamed "internal/strconv.uint64pow10").getD 0) (t := 204) (e := 181) (n := 20) (by kernel_rfl) (by kernel_rfl) (by kernel_rfl) (by kernel_rfl) (by kernel_rfl) (by kernel_rfl) h2

open Go.Deep Go.Joins Tm
set_option maxRecDepth 100000 in
theorem asc_data : (Rows.laid_strings_asciiSpace : DataW Unit) = Lib.tabData .u8 Lib.asciiSpaceTab := by kernel_rfl
set_option maxRecDepth 100000 in
theorem tabsL_asc : (tabsL.filter fun x => x.1 == "strings.asciiSpace") = [("strings.asciiSpace", Lib.tabData .u8 Lib.asciiSpaceTab)] := by
  rw [← asc_data]; kernel_rfl
set_option maxRecDepth 100000 in
theorem asc_of_laid {W : World} (h : laidMetH Tryz.prog tabsL W) : AscT W := by
  rw [MakeChecks.laidMetH_plain _ _ _ (by kernel_rfl)] at h
  have h2 := laidMet.filter (fun x => x.1 == "strings.asciiSpace") h
  rw [tabsL_asc] at h2
  exact Lib.tabIs_of_head (g := (Tryz.prog.globalNamed "strings.asciiSpace").getD 0) (t := 177) (e := 5) (n := 256) (by kernel_rfl) (by kernel_rfl) (by kernel_rfl) (by kernel_rfl) (by kernel_rfl) (by kernel_rfl) h2
set_option maxRecDepth 100000 in
theorem open_tm {H : Type} {enc : TypeId × Value → H} {W : World} {r : Reach} {b0 : Nat} {v : Value} {d : DataW H} {ps : List MemPlace} (hv : Value.okWide Tryz.prog W r b0 25 v) (h : DataW.Trod enc Tryz.prog W 0 (fun _ => true) true 25 v d ps) : ∃ t : Tm, TmR (fun b => b < W.heap.size) W t v :=
  open_term h (by
    obtain ⟨cs, rfl, hsz⟩ := okWide_struct Tryz.underlying25 hv
    obtain ⟨c0, c1, c2, rfl⟩ := array3 (hsz.trans cells25)
    exact ⟨c0, c1, c2, rfl, by simp [Value.cells]⟩)
end Go.Proofs.YtiimccogojkldaaGreatDoor
