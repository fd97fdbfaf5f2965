/- Heights, more of the plain part. -/
import Derived.Test.YtlbnilhbfiidmaaDoorP1
import Derived.Test.YtlbnilhbfiidmaaDoorB7
namespace Go.Proofs.YtlbnilhbfiidmaaDoor
open Go.RowKit Go.Hw
set_option linter.unusedVariables false
set_option linter.unusedSimpArgs false

theorem fnot_all (p : Nat → Bool) : ∀ n k, fnot p n k < 0 → ∀ i, k ≤ i → i < k + n → p i = true
  | 0, k, _, i, h1, h2 => by omega
  | n + 1, k, h, i, h1, h2 => by
    unfold fnot at h
    cases hp : p k with
    | true =>
      rw [hp] at h
      by_cases e : i = k
      · subst e; exact hp
      · exact fnot_all p n (k + 1) (by simpa using h) i (by omega) (by omega)
    | false => rw [hp] at h; simp at h; omega
theorem wrF_all (c : Cd) : ∀ n i, (wrF c n i).2.2 = false → ∀ j, i ≤ j → j < i + n → rowBad c (c.funcs.getD j default) < 0
  | 0, i, _, j, h1, h2 => by omega
  | n + 1, i, h, j, h1, h2 => by
    unfold wrF at h
    by_cases hb : rowBad c (c.funcs.getD i default) < 0
    · rw [if_pos hb] at h
      by_cases e : j = i
      · subst e; exact hb
      · exact wrF_all c n (i + 1) h j (by omega) (by omega)
    · rw [if_neg hb] at h; cases h
theorem formed_parts {c : Cd} (h : formB c = true) : headB c = true ∧ (wrP c).2.2 = false := by
  unfold formB at h
  simp at h
  exact h
theorem head_fn {c : Cd} (h : headB c = true) {f : Fn} (hf : f ∈ c.funcs) : fn1B f = true := by
  unfold headB at h
  simp only [Bool.and_eq_true] at h
  obtain ⟨i, hi, rfl⟩ := List.getElem_of_mem hf
  have := List.all_eq_true.1 h.2.2 i (List.mem_range.2 hi)
  unfold fnAt at this
  simp only [Bool.and_eq_true] at this
  have e : c.funcs.getD i default = c.funcs[i] := by simp [hi]
  rw [← e]
  exact this.1
theorem fn1_parts {f : Fn} (h : fn1B f = true) : nmB f.name = true ∧ 0 ≤ f.params ∧ f.params ≤ 6 ∧ f.params ≤ f.locals ∧ f.locals ≤ 100 ∧ 1 ≤ f.code.length ∧ f.code.length ≤ 1048576 := by
  unfold fn1B at h
  simp only [Bool.and_eq_true] at h
  exact ⟨h.1, of_decide_eq_true h.2⟩
theorem head_len {c : Cd} (h : headB c = true) : c.fields.length ≤ 12 ∧ 0 ≤ c.glob ∧ c.glob ≤ 8 ∧ c.funcs.length ≤ 40 := by
  unfold headB at h
  simp only [Bool.and_eq_true] at h
  have h1 := of_decide_eq_true h.1.1
  have h2 := of_decide_eq_true h.2.1
  omega
theorem formed_right {c : Cd} (h : formB c = true) {f : Fn} (hf : f ∈ c.funcs) {k : Nat} (hk : k < f.code.length) : rightB c f (f.code.getD k (0, 0)).1 (f.code.getD k (0, 0)).2 = true := by
  obtain ⟨h1, h2⟩ := formed_parts h
  obtain ⟨i, hi, rfl⟩ := List.getElem_of_mem hf
  have e : c.funcs.getD i default = c.funcs[i] := by simp [hi]
  have := wrF_all c c.funcs.length 0 h2 i (by omega) (by omega)
  rw [e] at this
  exact fnot_all _ _ _ this k (by omega) (by omega)
theorem oneB_bd (b : Bool) : 0 ≤ oneB b ∧ oneB b ≤ 1 := by cases b <;> simp [oneB]
theorem mv_bd {c : Cd} (h : headB c = true) (f : Fn) (op x : Int) (hr : rightB c f op x = true) : 0 ≤ (mvP c f op x).1 ∧ (mvP c f op x).1 ≤ 6 ∧ 0 ≤ (mvP c f op x).2 ∧ (mvP c f op x).2 ≤ 2 := by
  by_cases h9 : op = 9
  · subst h9
    obtain ⟨x0, x1⟩ := right9 c f x hr
    have hm : c.funcs.getD x.toNat default ∈ c.funcs := fn_mem (by omega)
    obtain ⟨_, q0, q1, _⟩ := fn1_parts (head_fn h hm)
    have := oneB_bd (c.funcs.getD x.toNat default).result
    unfold mvP
    rw [if_pos rfl]
    dsimp only
    omega
  · have := oneB_bd f.result
    unfold mvP
    rw [if_neg h9]
    (repeat' split) <;> simp <;> omega
theorem nxt_len (op x : Int) (i : Nat) : (nxt op x i).length ≤ 2 := by unfold nxt; (repeat' split) <;> simp
theorem nxt_nn {c : Cd} {f : Fn} {op x : Int} {i : Nat} (hr : rightB c f op x = true) : ∀ k ∈ nxt op x i, 0 ≤ k := by
  intro k hk
  unfold nxt at hk
  split at hk
  · simp at hk
  · split at hk
    · rename_i h1 h2
      have := right11 c f op x (.inl h2) hr
      simp at hk; omega
    · split at hk
      · rename_i h1 h2 h3
        have := right11 c f op x (.inr h3) hr
        simp at hk; omega
      · simp at hk; omega
def HtsP (c : Cd) (f : Fn) (w : World) (e : Ending) (w' : World) : Prop := ∃ v, e = .returned (.tuple #[v, .int .i64 (hP c f).2.1, .int .i64 (hP c f).2.2]) ∧ SlR Any1 w' 1 v (hP c f).1.length ((hP c f).1.map (.int .i64)) ∧ Ext w w'

end Go.Proofs.YtlbnilhbfiidmaaDoor
