/- WorkloadEven. -/
import Derived.Test.YthpekfpeoglbgaaGreatDoorW23
namespace Go.Proofs.YthpekfpeoglbgaaGreatDoor
open Go.RowKit Go.Hw
set_option linter.unusedVariables false
set_option linter.unusedSimpArgs false

theorem fewB_len {l : List OpV} {n : Int} (h : fewB (opsL l) n = true) : (l.length : Int) ≤ n ∨ (2000 < l.length ∧ l.length < 2005) := by
  unfold fewB at h
  rw [opsL_length] at h
  simp only [Bool.and_eq_true, Bool.or_eq_true, decide_eq_true_eq] at h
  exact h.1
theorem fewB_args {l : List OpV} {n : Int} (h : fewB (opsL l) n = true) : ∀ o ∈ l, o.op.args.length ≤ 100000000 := fun o ho => by
  unfold fewB at h
  simp only [Bool.and_eq_true, List.all_eq_true, decide_eq_true_eq] at h
  have := h.2 o.op (List.mem_map_of_mem ho)
  omega
end Go.Proofs.YthpekfpeoglbgaaGreatDoor
