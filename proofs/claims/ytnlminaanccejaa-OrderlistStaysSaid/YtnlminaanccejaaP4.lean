/- A spread, and a step of a script. -/
import Derived.Test.YtnlminaanccejaaP3
namespace Go.Proofs.Ytnlminaanccejaa
open Go.RowKit Go.Hw
set_option linter.unusedVariables false
set_option linter.unusedSimpArgs false

/-- M' is M but for labels and moves -/
structure Same (M M' : LM) : Prop where
  len : M'.l.length = M.l.length
  first : M'.first = M.first
  n : M'.n = M.n
  nxt : ∀ k : Nat, (M'.at (k : Nat)).nxt = (M.at (k : Nat)).nxt
  prev : ∀ k : Nat, (M'.at (k : Nat)).prev = (M.at (k : Nat)).prev
  inn : ∀ k : Nat, (M'.at (k : Nat)).inn = (M.at (k : Nat)).inn
theorem Same.refl (M : LM) : Same M M := ⟨rfl, rfl, rfl, fun _ => rfl, fun _ => rfl, fun _ => rfl⟩
theorem Same.trans {A B C : LM} (h : Same A B) (k : Same B C) : Same A C :=
  ⟨k.len.trans h.len, k.first.trans h.first, k.n.trans h.n, fun i => (k.nxt i).trans (h.nxt i), fun i => (k.prev i).trans (h.prev i), fun i => (k.inn i).trans (h.inn i)⟩
theorem Same.setLab (M : LM) (a : Nat) (lb : Int) : Same M (M.setLab a lb) := by
  refine ⟨setLab_len _ _ _, ?_, ?_, fun k => setLab_nxt _ _ _ _, fun k => ?_, fun k => ?_⟩
  · unfold LM.setLab; split <;> rfl
  · unfold LM.setLab; split <;> rfl
  · rw [setLab_at]; split <;> rfl
  · rw [setLab_at]; split <;> rfl

theorem setLab_lbl (M : LM) (a k : Nat) (lb : Int) : lbl (M.setLab a lb) k = if k = a ∧ k < M.l.length then lb else lbl M k := by
  unfold lbl; rw [setLab_at]; split <;> rfl

theorem spreadL_spec (step : Int) : ∀ (r : List Nat) (M : LM) (lb : Int), r.Nodup → (∀ a ∈ r, a < M.l.length) →
    Same M (spreadL step M lb r) ∧ (∀ k, k ∉ r → lbl (spreadL step M lb r) k = lbl M k) ∧ (∀ i, i < r.length → lbl (spreadL step M lb r) (r.getD i 0) = lb + step * i) ∧
    M.moves ≤ (spreadL step M lb r).moves ∧ (spreadL step M lb r).moves ≤ M.moves + r.length := by
  intro r
  induction r with
  | nil => intro M lb _ _; exact ⟨Same.refl M, fun _ _ => rfl, by simp, Int.le_refl _, by simp [spreadL]⟩
  | cons a r ih =>
    intro M lb hn hl
    have ha := hl a (by simp)
    obtain ⟨hna, hnr⟩ := List.nodup_cons.1 hn
    obtain ⟨h1, h2, h3, h4, h5⟩ := ih (M.setLab a lb) (lb + step) hnr (fun k hk => by rw [setLab_len]; exact hl k (List.mem_cons_of_mem _ hk))
    have hm := setLab_moves M a lb
    refine ⟨(Same.setLab M a lb).trans h1, ?_, ?_, ?_, ?_⟩
    · intro k hk
      simp only [List.mem_cons, not_or] at hk
      show lbl (spreadL step (M.setLab a lb) (lb + step) r) k = _
      rw [h2 k hk.2, setLab_lbl, if_neg (by intro h; exact hk.1 h.1)]
    · intro i hi
      show lbl (spreadL step (M.setLab a lb) (lb + step) r) _ = _
      cases i with
      | zero =>
        simp only [List.getD_cons_zero]
        rw [h2 a hna, setLab_lbl, if_pos ⟨rfl, ha⟩]; simp
      | succ i =>
        simp only [List.getD_cons_succ]
        rw [h3 i (by simpa using hi)]
        rw [show ((i + 1 : Nat) : Int) = (i : Int) + 1 by omega, Int.mul_add]; omega
    · show M.moves ≤ (spreadL step (M.setLab a lb) (lb + step) r).moves; omega
    · show (spreadL step (M.setLab a lb) (lb + step) r).moves ≤ _; simp only [List.length_cons]; omega

def stepOf (n : Nat) : Int := 1099511627776 / ((n : Int) + 1)
theorem stepOf_bd {n : Nat} (h : n ≤ 2000) : 2 ≤ stepOf n ∧ stepOf n * n + stepOf n ≤ TOP := by
  unfold stepOf TOP
  have h1 : 1099511627776 / ((n : Int) + 1) * ((n : Int) + 1) ≤ 1099511627776 := Int.ediv_mul_le _ (by omega)
  rw [Int.mul_add, Int.mul_one] at h1
  refine ⟨?_, h1⟩
  apply (Int.le_ediv_iff_mul_le (by omega)).2
  omega
theorem step_mono (s : Int) (h : 0 ≤ s) {i j : Nat} (hij : i ≤ j) : s * i ≤ s * j := Int.mul_le_mul_of_nonneg_left (by omega) h

section
variable {M : LM} {ord : List Nat}
theorem spread_eq (h : Inv M ord) : M.spread ord = spreadL (stepOf ord.length) M (stepOf ord.length) ord := by
  unfold LM.spread stepOf; rw [h.n]
theorem Inv.spreadSpec (h : Inv M ord) : Same M (M.spread ord) ∧ (∀ k, k ∉ ord → lbl (M.spread ord) k = lbl M k) ∧ (∀ i, i < ord.length → lbl (M.spread ord) (ord.getD i 0) = stepOf ord.length * i + stepOf ord.length) ∧
    M.moves ≤ (M.spread ord).moves ∧ (M.spread ord).moves ≤ M.moves + ord.length := by
  rw [spread_eq h]
  obtain ⟨h1, h2, h3, h4, h5⟩ := spreadL_spec (stepOf ord.length) ord M (stepOf ord.length) h.nd h.lt
  exact ⟨h1, h2, fun i hi => by rw [h3 i hi]; omega, h4, h5⟩

theorem Inv.spread (h : Inv M ord) (hm : M.moves ≤ 2000 * M.l.length) : Inv (M.spread ord) ord := by
  obtain ⟨hs, h2, h3, h4, h5⟩ := h.spreadSpec
  have hol := h.ordLen
  have hst := stepOf_bd (n := ord.length) (by have := h.len; omega)
  refine ⟨by rw [hs.len]; exact h.len, h.nd, fun a ha => by rw [hs.len]; exact h.lt a ha, fun k hk => by rw [hs.inn]; rw [hs.len] at hk; exact h.inn k hk, by rw [hs.first]; exact h.first, fun i hi => by rw [hs.nxt]; exact h.nxt i hi, fun i hi => by rw [hs.prev]; exact h.prev i hi, ?_, ?_, ?_, by rw [hs.n]; exact h.n, by have := h.m0; omega, by rw [hs.len]; have := h.len; omega⟩
  · intro i j hij hj
    rw [h3 i (by omega), h3 j hj]
    have := step_mono (stepOf ord.length) (by omega) (i := i + 1) (j := j) hij
    rw [show ((i + 1 : Nat) : Int) = (i : Int) + 1 by omega, Int.mul_add] at this
    omega
  · intro k hk
    rw [hs.len] at hk
    by_cases hm : k ∈ ord
    · obtain ⟨i, hi, e⟩ := mem_getD hm
      rw [← e, h3 i hi]
      have := step_mono (stepOf ord.length) (by omega) (i := i + 1) (j := ord.length) (by omega)
      rw [show ((i + 1 : Nat) : Int) = (i : Int) + 1 by omega, Int.mul_add] at this
      have h0 : 0 ≤ stepOf ord.length * (i : Int) := Int.mul_nonneg (by omega) (by omega)
      omega
    · rw [h2 k hm]; exact h.lab k hk
  · intro k hk
    rw [hs.len] at hk ⊢
    rw [hs.nxt, hs.prev]
    exact h.lk k hk

/-- the gap behind a spread -/
theorem Inv.spreadGap (h : Inv M ord) (hm : M.moves ≤ 2000 * M.l.length) {x : Int} {K : Nat} (hA : At ord x K) :
    stepOf ord.length ≤ (M.spread ord).gapHigh x - (M.spread ord).gapLow x ∧ 0 ≤ (M.spread ord).gapLow x + (M.spread ord).gapHigh x := by
  have h' := h.spread hm
  obtain ⟨hs, h2, h3, h4, h5⟩ := h.spreadSpec
  have hst := stepOf_bd (n := ord.length) (by have := h.len; have := h.ordLen; omega)
  have hK := hA.le
  rw [h'.low hA, h'.high hA]
  unfold TOP at hst
  by_cases h0 : K = 0
  · subst h0
    rw [if_pos rfl]
    split
    · rw [h3 0 (by assumption)]; simp; omega
    · have : ord.length = 0 := by omega
      rw [this]
      unfold stepOf; simp
  · rw [if_neg h0, h3 (K - 1) (by omega)]
    have e1 : stepOf ord.length * ((K - 1 : Nat) : Int) + stepOf ord.length = stepOf ord.length * (K : Int) := by
      rw [show (K : Int) = ((K - 1 : Nat) : Int) + 1 by omega, Int.mul_add, Int.mul_one]
    rw [e1]
    have hk0 : 0 ≤ stepOf ord.length * (K : Int) := Int.mul_nonneg (by omega) (by omega)
    split
    · rw [h3 K (by assumption)]; omega
    · have : K = ord.length := by omega
      subst this; omega
end

/-! ### steps of a script -/
def insK (ord : List Nat) (x : Int) : Option Nat := if x = -1 then some 0 else if 0 ≤ pos ord x then some (pos ord x + 1).toNat else none
def insOrd (ord : List Nat) (n : Nat) (x : Int) : List Nat := match insK ord x with | none => ord | some K => if 2000 ≤ n then ord else insAt ord K n
def insRes (ord : List Nat) (n : Nat) (x : Int) : Int × Int := match insK ord x with | none => (0, 12) | some _ => if 2000 ≤ n then (0, 4) else (n, 0)
def insN (ord : List Nat) (n : Nat) (x : Int) : Nat := match insK ord x with | none => n | some _ => if 2000 ≤ n then n else n + 1
def insM (M : LM) (ord : List Nat) (x : Int) : LM := match insK ord x with | none => M | some _ => if 2000 ≤ M.l.length then M else (M.prep x ord).ins x
def delOrd (ord : List Nat) (x : Int) : List Nat := if 0 ≤ pos ord x then rem ord (pos ord x).toNat else ord
def delRes (ord : List Nat) (x : Int) : Int := if 0 ≤ pos ord x then 0 else 12
def delM (M : LM) (ord : List Nat) (x : Int) : LM := if 0 ≤ pos ord x then M.del x else M

theorem insK_at {ord : List Nat} {x : Int} {K : Nat} (h : insK ord x = some K) : At ord x K := by
  unfold insK at h
  split at h
  · rename_i e; simp at h; exact .inl ⟨e, h.symm⟩
  · split at h
    · rename_i e1 e2
      simp at h
      obtain ⟨k, hk⟩ := Int.eq_ofNat_of_zero_le e2
      obtain ⟨h1, h2⟩ := pos_at hk
      rw [hk] at h
      have : K = k + 1 := by omega
      subst this
      exact .inr ⟨by omega, by omega, by simpa using h2.symm⟩
    · simp at h

theorem Inv.prep {M : LM} {ord : List Nat} (h : Inv M ord) (hm : M.moves ≤ 2000 * M.l.length) {x : Int} {K : Nat} (hA : At ord x K) :
    Inv (M.prep x ord) ord ∧ (M.prep x ord).l.length = M.l.length ∧ 2 ≤ (M.prep x ord).gapHigh x - (M.prep x ord).gapLow x := by
  unfold LM.prep
  split
  · have hst := stepOf_bd (n := ord.length) (by have := h.len; have := h.ordLen; omega)
    have := h.spreadGap hm hA
    exact ⟨h.spread hm, h.spreadSpec.1.len, by omega⟩
  · exact ⟨h, rfl, by omega⟩

/-- what is kept between the steps -/
structure Good (M : LM) (ord : List Nat) (n : Nat) : Prop where
  inv : Inv M ord
  mv : M.moves ≤ 2000 * M.l.length
  len : M.l.length = n

theorem Good.ins {M : LM} {ord : List Nat} {n : Nat} (h : Good M ord n) (x : Int) : Good (insM M ord x) (insOrd ord n x) (insN ord n x) := by
  unfold insM insOrd insN
  cases hk : insK ord x with
  | none => exact h
  | some K =>
    dsimp only
    have hl := h.len
    by_cases hf : 2000 ≤ n
    · rw [if_pos (by omega), if_pos hf, if_pos hf]; exact h
    · rw [if_neg (by omega), if_neg hf, if_neg hf]
      obtain ⟨h1, h2, h3⟩ := h.inv.prep h.mv (insK_at hk)
      have := h1.ins (insK_at hk) (by omega) h3
      rw [h2, hl] at this
      exact ⟨this, by rw [ins_moves, ins_len]; have := h1.m1; omega, by rw [ins_len]; omega⟩
theorem Good.del {M : LM} {ord : List Nat} {n : Nat} (h : Good M ord n) (x : Int) : Good (delM M ord x) (delOrd ord x) n := by
  unfold delM delOrd
  split
  · rename_i hp
    obtain ⟨k, hk⟩ := Int.eq_ofNat_of_zero_le hp
    obtain ⟨h1, h2⟩ := pos_at hk
    rw [hk, ← h2]
    simp only [Int.toNat_natCast]
    exact ⟨h.inv.del h1, by rw [del_moves, del_len]; exact h.mv, by rw [del_len]; exact h.len⟩
  · exact h
theorem Good.new : Good ⟨[], -1, -1, 0, 0⟩ [] 0 := ⟨new_inv, by simp, rfl⟩

end Go.Proofs.Ytnlminaanccejaa
