/- The choice of a code, in the reference. -/
import Derived.Test.YthpekfpeoglbgaaGreatDoorW9
namespace Go.Proofs.YthpekfpeoglbgaaGreatDoor
open Go.RowKit Go.Hw
set_option linter.unusedVariables false
set_option linter.unusedSimpArgs false

theorem sum_take_bd (ws : List Int) (h : ∀ x ∈ ws, 0 ≤ x ∧ x ≤ 2000) (j : Nat) : 0 ≤ (ws.take j).sum ∧ (ws.take j).sum ≤ 2000 * (ws.take j).length := by
  have h2 : ∀ x ∈ ws.take j, 0 ≤ x ∧ x ≤ 2000 := fun x hx => h x (List.mem_of_mem_take hx)
  exact ⟨sum_nonneg _ (fun x hx => (h2 x hx).1), sum_le _ h2⟩
end Go.Proofs.YthpekfpeoglbgaaGreatDoor
