/- The list's plain law: what stays true of it, and that it does what the reference does. -/
import Derived.Test.YtnlminaanccejaaW5
import Derived.Test.YtnlminaanccejaaW6
import Derived.Test.YtnlminaanccejaaW10
namespace Go.Proofs.Ytnlminaanccejaa
open Go.RowKit Go.Hw
set_option linter.unusedVariables false
set_option linter.unusedSimpArgs false

/-- the element at a place, or -1 -/
def nb (ord : List Nat) (i : Int) : Int := if 0 ≤ i ∧ i < ord.length then (ord.getD i.toNat 0 : Nat) else -1
def lbl (M : LM) (k : Nat) : Int := (M.at k).label
def TOP : Int := 1099511627776

structure Inv (M : LM) (ord : List Nat) : Prop where
  len : M.l.length ≤ 2000
  nd : ord.Nodup
  lt : ∀ a, a ∈ ord → a < M.l.length
  inn : ∀ k, k < M.l.length → ((M.at (k : Nat)).inn = true ↔ k ∈ ord)
  first : M.first = nb ord 0
  nxt : ∀ i, i < ord.length → (M.at (ord.getD i 0 : Nat)).nxt = nb ord (i + 1)
  prev : ∀ i, i < ord.length → (M.at (ord.getD i 0 : Nat)).prev = nb ord ((i : Int) - 1)
  asc : ∀ i j, i < j → j < ord.length → lbl M (ord.getD i 0) < lbl M (ord.getD j 0)
  lab : ∀ k, k < M.l.length → 0 ≤ lbl M k ∧ lbl M k ≤ TOP
  lk : ∀ k, k < M.l.length → ((M.at (k : Nat)).nxt < 0 ∨ (M.at (k : Nat)).nxt < M.l.length) ∧ ((M.at (k : Nat)).prev < 0 ∨ (M.at (k : Nat)).prev < M.l.length)
  n : M.n = ord.length
  m0 : 0 ≤ M.moves
  m1 : M.moves ≤ 2000 * M.l.length + 2000

theorem getD_mem {ord : List Nat} {i : Nat} (h : i < ord.length) : ord.getD i 0 ∈ ord := by
  simp [h]
theorem nb_in {ord : List Nat} {i : Nat} (h : i < ord.length) : nb ord i = (ord.getD i 0 : Nat) := by
  unfold nb; rw [if_pos ⟨by omega, by omega⟩]; simp
theorem nb_out {ord : List Nat} {i : Int} (h : i < 0 ∨ ord.length ≤ i) : nb ord i = -1 := by
  unfold nb; rw [if_neg (by omega)]
theorem inj_of_nd {ord : List Nat} (h : ord.Nodup) {i j : Nat} (hi : i < ord.length) (hj : j < ord.length) (e : ord.getD i 0 = ord.getD j 0) : i = j := by
  simp [hi, hj] at e
  have hp := List.pairwise_iff_getElem.1 h
  rcases Nat.lt_trichotomy i j with h1 | h1 | h1
  · exact absurd e (hp i j hi hj h1)
  · exact h1
  · exact absurd e.symm (hp j i hj hi h1)

theorem nodup_len : ∀ (N : Nat) (l : List Nat), l.Nodup → (∀ a ∈ l, a < N) → l.length ≤ N := by
  intro N
  induction N with
  | zero =>
    intro l _ h
    cases l with
    | nil => simp
    | cons a r => have := h a (by simp); omega
  | succ N ih =>
    intro l hn h
    have h1 := ih (l.erase N) (hn.erase N) (fun a ha => by
      have h2 := (hn.mem_erase_iff).1 ha
      have := h a h2.2
      have := h2.1
      omega)
    rw [List.length_erase] at h1
    split at h1 <;> omega

theorem Inv.ordLen {M : LM} {ord : List Nat} (h : Inv M ord) : ord.length ≤ M.l.length := nodup_len _ _ h.nd h.lt

theorem Inv.wf {M : LM} {ord : List Nat} (h : Inv M ord) : WF M := by
  refine ⟨h.len, ?_, ?_, by rw [h.n]; omega, by rw [h.n]; have := h.ordLen; omega, h.m0, h.m1⟩
  · rw [h.first]
    by_cases h0 : 0 < ord.length
    · right; rw [show (0 : Int) = ((0 : Nat) : Int) from rfl, nb_in h0]; have := h.lt _ (getD_mem h0); omega
    · left; rw [nb_out (by omega)]; omega
  · intro k hk
    exact ⟨(h.lk k hk).1, (h.lk k hk).2, (h.lab k hk).1, (h.lab k hk).2⟩

theorem Inv.chainFrom {M : LM} {ord : List Nat} (h : Inv M ord) : ∀ (d i : Nat), i + d = ord.length → Chain M (nb ord i) (ord.drop i) := by
  intro d
  induction d with
  | zero => intro i hi; rw [List.drop_eq_nil_of_le (by omega), nb_out (by omega)]; show (-1 : Int) < 0; omega
  | succ d ih =>
    intro i hi
    rw [List.drop_eq_getElem_cons (by omega : i < ord.length), nb_in (by omega)]
    have e : ord.getD i 0 = ord[i] := by simp [show i < ord.length by omega]
    rw [e]
    refine ⟨rfl, by rw [← e]; exact h.lt _ (getD_mem (by omega)), ?_⟩
    have h2 := h.nxt i (by omega)
    rw [e] at h2
    rw [h2]
    exact ih (i + 1) (by omega)
theorem Inv.chain {M : LM} {ord : List Nat} (h : Inv M ord) : Chain M M.first ord := by
  have := h.chainFrom ord.length 0 (by omega)
  rw [h.first]; simpa using this

theorem new_inv : Inv ⟨[], -1, -1, 0, 0⟩ [] := by
  refine ⟨by simp, List.nodup_nil, by simp, by simp, rfl, by simp, by simp, by simp, by simp, by simp, rfl, by simp, by simp⟩

/-! ### places -/
theorem posFrom_mem (xs : List Nat) (x : Int) : ∀ i, posFrom xs x i = -1 → ∀ a ∈ xs, (a : Int) ≠ x := by
  induction xs with
  | nil => intro i h a ha; simp at ha
  | cons b r ih =>
    intro i h a ha
    unfold posFrom at h
    split at h
    · omega
    · rename_i hb
      rcases List.mem_cons.1 ha with rfl | ha
      · exact hb
      · exact ih _ h a ha
theorem posFrom_at (xs : List Nat) (x : Int) : ∀ i (k : Nat), posFrom xs x i = k → i ≤ k ∧ k < i + xs.length ∧ ((xs.getD (k - i) 0 : Nat) : Int) = x := by
  induction xs with
  | nil => intro i k h; unfold posFrom at h; omega
  | cons b r ih =>
    intro i k h
    unfold posFrom at h
    split at h
    · rename_i hb
      have : k = i := by omega
      subst this
      simp [hb]
    · obtain ⟨h1, h2, h3⟩ := ih _ _ h
      refine ⟨by omega, by simp; omega, ?_⟩
      have : k - i = (k - (i + 1)) + 1 := by omega
      rw [this]; simpa using h3
theorem pos_at {xs : List Nat} {x : Int} {k : Nat} (h : pos xs x = k) : k < xs.length ∧ ((xs.getD k 0 : Nat) : Int) = x := by
  have := posFrom_at xs x 0 k h
  exact ⟨by omega, by simpa using this.2.2⟩
theorem pos_none {xs : List Nat} {x : Int} (h : pos xs x = -1) : ∀ a ∈ xs, (a : Int) ≠ x := posFrom_mem xs x 0 h

theorem Inv.has {M : LM} {ord : List Nat} (h : Inv M ord) (x : Int) : M.has x = decide (0 ≤ pos ord x) := by
  rcases pos_bd ord x with hp | ⟨hp, hp2⟩
  · have hn := pos_none hp
    rw [hp]
    cases hh : M.has x
    · rfl
    · obtain ⟨h0, h1, h2⟩ := has_in hh
      obtain ⟨k, rfl⟩ := Int.eq_ofNat_of_zero_le h0
      exact absurd rfl (hn k ((h.inn k (by omega)).1 h2))
  · obtain ⟨k, hk⟩ := Int.eq_ofNat_of_zero_le hp
    obtain ⟨h1, h2⟩ := pos_at hk
    have hm := getD_mem h1
    have hl := h.lt _ hm
    have hin := (h.inn _ hl).2 hm
    have : M.has x = true := by
      rw [← h2]
      simp only [LM.has, Bool.and_eq_true, decide_eq_true_eq]
      exact ⟨⟨by omega, by omega⟩, hin⟩
    rw [this]; simp [hp]

/-- x stands at place K - 1, or is -1 and K is 0 -/
def At (ord : List Nat) (x : Int) (K : Nat) : Prop := (x = -1 ∧ K = 0) ∨ (1 ≤ K ∧ K ≤ ord.length ∧ x = (ord.getD (K - 1) 0 : Nat))
theorem At.le {ord : List Nat} {x : Int} {K : Nat} (h : At ord x K) : K ≤ ord.length := by
  rcases h with ⟨_, h⟩ | h <;> omega

section
variable {M : LM} {ord : List Nat} {x : Int} {K : Nat}
theorem Inv.after (h : Inv M ord) (hA : At ord x K) : M.after x = nb ord K := by
  rcases hA with ⟨rfl, rfl⟩ | ⟨h1, h2, rfl⟩
  · simp [LM.after, h.first]
  · unfold LM.after
    rw [if_neg (by omega), h.nxt (K - 1) (by omega)]
    congr 1; omega
theorem Inv.low (h : Inv M ord) (hA : At ord x K) : M.gapLow x = if K = 0 then -1 else lbl M (ord.getD (K - 1) 0) := by
  rcases hA with ⟨rfl, rfl⟩ | ⟨h1, h2, rfl⟩
  · simp [LM.gapLow]
  · unfold LM.gapLow
    rw [if_neg (by omega), if_neg (by omega)]; rfl
theorem Inv.high (h : Inv M ord) (hA : At ord x K) : M.gapHigh x = if K < ord.length then lbl M (ord.getD K 0) else 1099511627777 := by
  unfold LM.gapHigh
  rw [h.after hA]
  have := hA.le
  by_cases hk : K < ord.length
  · rw [nb_in hk, if_neg (by omega), if_pos hk]; rfl
  · rw [nb_out (by omega), if_pos (by omega), if_neg hk]
end

/-! ### elements behind a change -/
theorem upd_at (M : LM) (a k : Nat) (f : El → El) : (M.upd (a : Int) f).at (k : Nat) = if k = a ∧ k < M.l.length then f (M.at (a : Nat)) else M.at (k : Nat) := by
  simp only [LM.at, LM.upd, List.getD_eq_getElem?_getD, Int.toNat_natCast]
  rw [List.getElem?_set]
  split
  · rename_i h; subst h
    split
    · rename_i h2; simp [h2]
    · rename_i h2; simp [h2]
  · rename_i h; rw [if_neg (by intro h2; exact h h2.1.symm)]
theorem push_at (M : LM) (lb : Int) (k : Nat) : (M.push lb).at (k : Nat) = if k = M.l.length then newEl lb else M.at (k : Nat) := by
  simp only [LM.at, LM.push, List.getD_eq_getElem?_getD, Int.toNat_natCast]
  by_cases h : k < M.l.length
  · rw [List.getElem?_append_left h, if_neg (by omega)]
  · rw [List.getElem?_append_right (by omega)]
    by_cases h2 : k = M.l.length
    · subst h2; simp
    · rw [if_neg h2]
      have : k - M.l.length ≠ 0 := by omega
      simp [List.getElem?_eq_none (Nat.le_of_not_lt h), this]
theorem push_len (M : LM) (lb : Int) : (M.push lb).l.length = M.l.length + 1 := by simp [LM.push]

end Go.Proofs.Ytnlminaanccejaa
