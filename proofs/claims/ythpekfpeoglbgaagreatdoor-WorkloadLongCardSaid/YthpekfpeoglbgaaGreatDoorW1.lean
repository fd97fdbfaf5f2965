/- The tables' functions. -/
import Derived.Test.YthpekfpeoglbgaaGreatDoorA
namespace Go.Proofs.YthpekfpeoglbgaaGreatDoor
open Go.RowKit Go.Hw
set_option linter.unusedVariables false
set_option linter.unusedSimpArgs false

/-- what the table of a kind is in memory -/
structure WordsP (kind : Int) (w w' : World) (v : Value) : Prop where
  ext : Ext w w'
  row : ∃ g, v = .slice (some ⟨g, 0, none⟩) (nW kind) (nW kind) ∧ ∀ i, i < nW kind → ∃ s b, w'.cell? ⟨g, i * 3, none⟩ = some (.string s) ∧ w'.cell? ⟨g, i * 3 + 1, none⟩ = some (.int .i64 ((arL kind).getD i 0)) ∧ w'.cell? ⟨g, i * 3 + 2, none⟩ = some (.bool b)

set_option maxHeartbeats 1000000 in
theorem words_known (kind : Int) (w : World) (hk : 1 ≤ kind ∧ kind ≤ 6) : Calls Tryz.prog 47 #[.int .i64 kind] w fun e w' => ∃ v, e = .returned v ∧ WordsP kind w w' v := by
  have : kind = 1 ∨ kind = 2 ∨ kind = 3 ∨ kind = 4 ∨ kind = 5 ∨ kind = 6 := by omega
  rcases this with rfl | rfl | rfl | rfl | rfl | rfl
  all_goals
    go_enter Tryz.func47, Tryz.ntmps47
    go_wp2_with fail
    go_ret
    refine ⟨_, rfl, (Upd.refl _ w).alloc _, w.heap.size, rfl, ?_⟩
    intro i hi
    have hi8 : i < 8 := Nat.lt_of_lt_of_le hi (nW_le _)
    simp only [cell_of_row _ _ _ _ _ _ (alloc0 _ _)]
    rcases i with _ | _ | _ | _ | _ | _ | _ | _ | i <;> first | (exact ⟨_, _, rfl, rfl, rfl⟩) | (exact absurd hi (by decide)) | omega
theorem words_none (kind : Int) (w : World) (hk : ¬ (1 ≤ kind ∧ kind ≤ 6)) : Calls Tryz.prog 47 #[.int .i64 kind] w fun e w' => e = .returned (.slice none 0 0) ∧ w = w' := by
  have h1 : (kind == 1) = false := by simp; omega
  have h2 : (kind == 2) = false := by simp; omega
  have h3 : (kind == 3) = false := by simp; omega
  have h4 : (kind == 4) = false := by simp; omega
  have h5 : (kind == 5) = false := by simp; omega
  have h6 : (kind == 6) = false := by simp; omega
  go_enter Tryz.func47, Tryz.ntmps47
  go_wp2_with fail
  go_ret
  exact ⟨rfl, rfl⟩

end Go.Proofs.YthpekfpeoglbgaaGreatDoor
