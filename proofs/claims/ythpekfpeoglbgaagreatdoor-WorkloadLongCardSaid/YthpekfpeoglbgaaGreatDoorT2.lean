/- The tables. -/
import Derived.Test.YthpekfpeoglbgaaGreatDoorT1
import Derived.Test.YthpekfpeoglbgaaGreatDoorA
namespace Go.Proofs.YthpekfpeoglbgaaGreatDoor
open Go.RowKit Go.Hw
set_option linter.unusedVariables false
set_option linter.unusedSimpArgs false

/-- the table of a kind in memory, its names too -/
structure WordsN (kind : Int) (w w' : World) (v : Value) : Prop where
  ext : Ext w w'
  row : ∃ g, v = .slice (some ⟨g, 0, none⟩) (nW kind) (nW kind) ∧ ∀ i, i < nW kind → w'.cell? ⟨g, i * 3, none⟩ = some (.string (bs ((wNm kind).getD i [])))
set_option maxHeartbeats 1000000 in
theorem wordsN_known (kind : Int) (w : World) (hk : 1 ≤ kind ∧ kind ≤ 6) : Calls Tryz.prog 47 #[.int .i64 kind] w fun e w' => ∃ v, e = .returned v ∧ WordsN kind w w' v := by
  have : kind = 1 ∨ kind = 2 ∨ kind = 3 ∨ kind = 4 ∨ kind = 5 ∨ kind = 6 := by omega
  rcases this with rfl | rfl | rfl | rfl | rfl | rfl
  all_goals
    go_enter Tryz.func47, Tryz.ntmps47
    go_wp2_with fail
    go_ret
    refine ⟨_, rfl, (Upd.refl _ w).alloc _, w.heap.size, rfl, ?_⟩
    intro i hi
    have hi8 : i < 8 := Nat.lt_of_lt_of_le hi (nW_le _)
    simp only [cell_of_row _ _ _ _ _ _ (alloc0 _ _)]
    rcases i with _ | _ | _ | _ | _ | _ | _ | _ | i <;> first | exact rfl | (exact absurd hi (by decide)) | omega
/-- the table of the names of a kind (the reference's) -/
structure RNames (kind : Int) (w w' : World) (v : Value) : Prop where
  ext : Ext w w'
  row : ∃ g, v = .slice (some ⟨g, 0, none⟩) (nW kind) (nW kind) ∧ ∀ i, i < nW kind → w'.cell? ⟨g, i, none⟩ = some (.string (bs ((wNm kind).getD i [])))
set_option maxHeartbeats 1000000 in
theorem rnames_known (kind : Int) (w : World) (hk : 1 ≤ kind ∧ kind ≤ 6) : Calls Tryz.prog 53 #[.int .i64 kind] w fun e w' => ∃ v, e = .returned v ∧ RNames kind w w' v := by
  have : kind = 1 ∨ kind = 2 ∨ kind = 3 ∨ kind = 4 ∨ kind = 5 ∨ kind = 6 := by omega
  rcases this with rfl | rfl | rfl | rfl | rfl | rfl
  all_goals
    go_enter Tryz.func53, Tryz.ntmps53
    go_wp2_with fail
    go_ret
    refine ⟨_, rfl, (Upd.refl _ w).alloc _, w.heap.size, rfl, ?_⟩
    intro i hi
    have hi8 : i < 8 := Nat.lt_of_lt_of_le hi (nW_le _)
    simp only [cell_of_row _ _ _ _ _ _ (alloc0 _ _)]
    rcases i with _ | _ | _ | _ | _ | _ | _ | _ | i <;> first | exact rfl | (exact absurd hi (by decide)) | omega
/-- workload.words -/
theorem kwords_any (w : World) : Calls Tryz.prog 22 #[] w fun e w' => ∃ g, e = .returned (.slice (some ⟨g, 0, none⟩) 6 6) ∧ Ext w w' ∧ ∀ i : Nat, i < 6 → w'.cell? ⟨g, i, none⟩ = some (.string (bs (kWd ((i : Int) + 1)))) := by
  go_enter Tryz.func22, Tryz.ntmps22
  go_wp2_with fail
  go_ret
  refine ⟨w.heap.size, rfl, (Upd.refl _ w).alloc _, ?_⟩
  intro i hi
  simp only [cell_of_row _ _ _ _ _ _ (alloc0 _ _)]
  rcases i with _ | _ | _ | _ | _ | _ | i <;> first | exact rfl | omega
/-- heartwoodref51.Word -/
theorem rword_any (kind : Int) (w : World) (hk : 1 ≤ kind ∧ kind ≤ 6) : Calls Tryz.prog 52 #[.int .i64 kind] w fun e w' => e = .returned (.string (bs (kWd kind))) ∧ Ext w w' := by
  have : kind = 1 ∨ kind = 2 ∨ kind = 3 ∨ kind = 4 ∨ kind = 5 ∨ kind = 6 := by omega
  rcases this with rfl | rfl | rfl | rfl | rfl | rfl
  all_goals
    go_enter Tryz.func52, Tryz.ntmps52
    go_wp2_with fail
    go_ret
    exact ⟨rfl, (Upd.refl _ w).alloc _⟩


end Go.Proofs.YthpekfpeoglbgaaGreatDoor
