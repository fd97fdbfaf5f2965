/- What stays between two times: the order of two elements, and the number of labels that changed. -/
import Derived.Test.YtnlminaanccejaaW13
namespace Go.Proofs.Ytnlminaanccejaa
open Go.RowKit Go.Hw
set_option linter.unusedVariables false
set_option linter.unusedSimpArgs false

theorem len_le_of_sub : ∀ (l D : List Nat), l.Nodup → (∀ a ∈ l, a ∈ D) → l.length ≤ D.length := by
  intro l
  induction l with
  | nil => intro D _ _; simp
  | cons a r ih =>
    intro D hn hs
    have ha : a ∈ D := hs a (by simp)
    have hn' := List.nodup_cons.1 hn
    have := ih (D.erase a) hn'.2 (fun x hx => (List.mem_erase_of_ne (by rintro rfl; exact hn'.1 hx)).2 (hs x (by simp [hx])))
    rw [List.length_erase_of_mem ha] at this
    have : 0 < D.length := List.length_pos_of_mem ha
    simp only [List.length_cons]; omega

theorem pos_mem {ord : List Nat} {a : Nat} (h : a ∈ ord) : 0 ≤ pos ord a := by
  rcases pos_bd ord a with e | e
  · exact absurd rfl (pos_none e a h)
  · exact e.1
theorem mem_pos {ord : List Nat} {a : Nat} (h : 0 ≤ pos ord (a : Nat)) : a ∈ ord := by
  obtain ⟨k, hk⟩ := Int.eq_ofNat_of_zero_le h
  obtain ⟨h1, h2⟩ := pos_at hk
  have : ord.getD k 0 = a := by omega
  exact this ▸ getD_mem h1
theorem pos_getD {ord : List Nat} (hn : ord.Nodup) {i : Nat} (h : i < ord.length) : pos ord (ord.getD i 0 : Nat) = i := by
  obtain ⟨k, hk⟩ := Int.eq_ofNat_of_zero_le (pos_mem (getD_mem h))
  obtain ⟨h1, h2⟩ := pos_at hk
  have := inj_of_nd hn h1 h (by omega)
  omega

/-- two elements of both lists stand alike -/
theorem sub_order {ord ord' : List Nat} {n : Nat} (hn : ord.Nodup) (hs : (ord'.filter (fun a => decide (a < n))).Sublist ord) {a c : Nat}
    (ha : a < n) (hc : c < n) (ha' : a ∈ ord') (hc' : c ∈ ord') (h : pos ord a < pos ord c) : pos ord' a < pos ord' c := by
  have hp : ord.Pairwise (fun x y => pos ord (x : Nat) < pos ord (y : Nat)) := by
    rw [List.pairwise_iff_getElem]
    intro i j hi hj hij
    have e1 := pos_getD hn hi
    have e2 := pos_getD hn hj
    simp only [List.getD_eq_getElem?_getD, List.getElem?_eq_getElem hi, List.getElem?_eq_getElem hj, Option.getD_some] at e1 e2
    rw [e1, e2]; omega
  have hq := hp.sublist hs
  rw [List.pairwise_filter] at hq
  rw [List.pairwise_iff_getElem] at hq
  obtain ⟨i, hi⟩ := Int.eq_ofNat_of_zero_le (pos_mem ha')
  obtain ⟨j, hj⟩ := Int.eq_ofNat_of_zero_le (pos_mem hc')
  obtain ⟨hi1, hi2⟩ := pos_at hi
  obtain ⟨hj1, hj2⟩ := pos_at hj
  rw [hi, hj]
  apply Decidable.byContradiction
  intro hlt
  by_cases e : i = j
  · subst e
    have : a = c := by omega
    subst this; omega
  · have h3 := hq j i hj1 hi1 (by omega)
    have ei : ord'[i] = a := by
      have : ord'.getD i 0 = a := by omega
      simpa [List.getD_eq_getElem?_getD, List.getElem?_eq_getElem hi1] using this
    have ej : ord'[j] = c := by
      have : ord'.getD j 0 = c := by omega
      simpa [List.getD_eq_getElem?_getD, List.getElem?_eq_getElem hj1] using this
    rw [ei, ej] at h3
    have := h3 (by simpa using hc) (by simpa using ha)
    omega

/-- the loop that compares: what it has seen -/
def lastS (ord ord' : List Nat) : Nat → Int
  | 0 => -1
  | k + 1 => if 0 ≤ pos ord' (ord.getD k 0 : Nat) then (ord.getD k 0 : Nat) else lastS ord ord' k
def chg (M M' : LM) (ord ord' : List Nat) (k : Nat) : Nat := ((ord.take k).filter (fun a => decide (0 ≤ pos ord' (a : Nat)) && decide (lbl M' a ≠ lbl M a))).length

theorem lastS_prop (ord ord' : List Nat) : ∀ k, k ≤ ord.length → lastS ord ord' k = -1 ∨ ∃ j, j < k ∧ lastS ord ord' k = (ord.getD j 0 : Nat) ∧ 0 ≤ pos ord' (ord.getD j 0 : Nat) := by
  intro k
  induction k with
  | zero => intro _; exact .inl rfl
  | succ k ih =>
    intro h
    unfold lastS
    split
    · exact .inr ⟨k, by omega, rfl, by assumption⟩
    · rcases ih (by omega) with e | ⟨j, hj, e1, e2⟩
      · exact .inl e
      · exact .inr ⟨j, by omega, e1, e2⟩
theorem chg_succ {M M' : LM} {ord ord' : List Nat} {k : Nat} (h : k < ord.length) :
    chg M M' ord ord' (k + 1) = chg M M' ord ord' k + if 0 ≤ pos ord' (ord.getD k 0 : Nat) ∧ lbl M' (ord.getD k 0) ≠ lbl M (ord.getD k 0) then 1 else 0 := by
  unfold chg
  have e : ord.take (k + 1) = ord.take k ++ [ord.getD k 0] := by
    rw [List.take_add_one]; simp [h]
  rw [e, List.filter_append, List.length_append]
  congr 1
  clear e
  generalize ord.getD k 0 = a at *
  by_cases h1 : 0 ≤ pos ord' (a : Nat)
  · by_cases h2 : lbl M' a = lbl M a
    · rw [if_neg (fun h => h.2 h2), List.filter_cons_of_neg (by simp [h2])]; rfl
    · rw [if_pos ⟨h1, h2⟩, List.filter_cons_of_pos (by simp only [Bool.and_eq_true, decide_eq_true_eq]; exact ⟨h1, h2⟩)]; rfl
  · rw [if_neg (fun h => h1 h.1), List.filter_cons_of_neg (by simp only [Bool.and_eq_true, decide_eq_true_eq]; exact fun h => h1 h.1)]; rfl
theorem chg_le (M M' : LM) (ord ord' : List Nat) (k : Nat) : chg M M' ord ord' k ≤ k := by
  unfold chg
  have h1 := List.length_filter_le (fun a => decide (0 ≤ pos ord' (a : Nat)) && decide (lbl M' a ≠ lbl M a)) (ord.take k)
  have h2 := List.length_take_le k ord
  omega
theorem Since.chg_moves {M M' : LM} {ord ord' : List Nat} {n n' : Nat} (hs : Since M ord n M' ord' n') (hg : Good M ord n) (k : Nat) : (chg M M' ord ord' k : Int) ≤ M'.moves - M.moves := by
  obtain ⟨D, hD, hd⟩ := hs.drift
  have : chg M M' ord ord' k ≤ D.length := by
    refine len_le_of_sub _ D ?_ ?_
    · exact ((hg.inv.nd.sublist (List.take_sublist k ord)).sublist List.filter_sublist)
    · intro a ha
      rw [List.mem_filter] at ha
      obtain ⟨h1, h2⟩ := ha
      simp only [Bool.and_eq_true, decide_eq_true_eq] at h2
      apply Decidable.byContradiction
      intro hno
      exact h2.2 (hd a (by have := hg.inv.lt a (List.mem_of_mem_take h1); have := hg.len; omega) hno)
  omega

/-- what is compared in a round -/
theorem Since.cmp {M M' : LM} {ord ord' : List Nat} {n n' k : Nat} (hs : Since M ord n M' ord' n') (hg : Good M ord n) (hg' : Good M' ord' n') (hk : k < ord.length)
    (hl : 0 ≤ lastS ord ord' k) (hp : 0 ≤ pos ord' (ord.getD k 0 : Nat)) :
    M'.compareR (lastS ord ord' k) (ord.getD k 0 : Nat) = (-1, 0) ∧ M'.compareR (ord.getD k 0 : Nat) (lastS ord ord' k) = (1, 0) := by
  rcases lastS_prop ord ord' k (by omega) with e | ⟨j, hj, e1, e2⟩
  · omega
  · have hlt : ∀ i, i < ord.length → ord.getD i 0 < n := fun i hi => by have := hg.inv.lt _ (getD_mem hi); have := hg.len; omega
    have h := sub_order hg.inv.nd hs.sub (hlt j (by omega)) (hlt k hk) (mem_pos e2) (mem_pos hp) (by rw [pos_getD hg.inv.nd (by omega), pos_getD hg.inv.nd hk]; omega)
    rw [hg'.compare, hg'.compare, e1]
    unfold refCmp
    constructor
    · rw [if_neg (by omega), if_pos h]
    · rw [if_neg (by omega), if_neg (by omega), if_pos h]

end Go.Proofs.Ytnlminaanccejaa
