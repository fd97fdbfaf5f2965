/- Heights, the plain part. -/
import Derived.Test.YtlbnilhbfiidmaaDoorB10
namespace Go.Proofs.YtlbnilhbfiidmaaDoor
open Go.RowKit Go.Hw
set_option linter.unusedVariables false
set_option linter.unusedSimpArgs false

/-! ### heights, the plain part -/
def pend (h : List Int) (d : List Bool) (i : Nat) : Bool := decide (0 ≤ h.getD i (-1)) && !d.getD i true
def fst1 (p : Nat → Bool) : Nat → Nat → Nat
  | 0, k => k
  | n + 1, k => if p k then k else fst1 p n (k + 1)
def nxt (op x : Int) (i : Nat) : List Int := if op = 10 then [] else if op = 11 then [x] else if op = 12 then [(i : Int) + 1, x] else [(i : Int) + 1]
def suc (n : Int) : List Int → List Int → Int × List Int
  | [], h => (0, h)
  | k :: ks, h => if (h.length : Int) ≤ k then (8, h) else if 0 ≤ h.getD k.toNat (-1) ∧ h.getD k.toNat (-1) ≠ n then (13, h) else suc n ks (h.set k.toNat n)
def hts (c : Cd) (f : Fn) : Nat → List Int → List Bool → List Int × Int × Int
  | 0, h, _ => (h, 0, 0)
  | g + 1, h, d =>
    if fst1 (pend h d) h.length 0 = h.length then (h, 0, 0)
    else if h.getD (fst1 (pend h d) h.length 0) (-1) < (mvP c f (f.code.getD (fst1 (pend h d) h.length 0) (0, 0)).1 (f.code.getD (fst1 (pend h d) h.length 0) (0, 0)).2).1 then ([], (fst1 (pend h d) h.length 0 : Int), 14)
    else if (f.code.getD (fst1 (pend h d) h.length 0) (0, 0)).1 = 10 ∧ (mvP c f (f.code.getD (fst1 (pend h d) h.length 0) (0, 0)).1 (f.code.getD (fst1 (pend h d) h.length 0) (0, 0)).2).1 < h.getD (fst1 (pend h d) h.length 0) (-1) then ([], (fst1 (pend h d) h.length 0 : Int), 3)
    else if (suc (h.getD (fst1 (pend h d) h.length 0) (-1) - (mvP c f (f.code.getD (fst1 (pend h d) h.length 0) (0, 0)).1 (f.code.getD (fst1 (pend h d) h.length 0) (0, 0)).2).1 + (mvP c f (f.code.getD (fst1 (pend h d) h.length 0) (0, 0)).1 (f.code.getD (fst1 (pend h d) h.length 0) (0, 0)).2).2) (nxt (f.code.getD (fst1 (pend h d) h.length 0) (0, 0)).1 (f.code.getD (fst1 (pend h d) h.length 0) (0, 0)).2 (fst1 (pend h d) h.length 0)) h).1 = 0
      then hts c f g (suc (h.getD (fst1 (pend h d) h.length 0) (-1) - (mvP c f (f.code.getD (fst1 (pend h d) h.length 0) (0, 0)).1 (f.code.getD (fst1 (pend h d) h.length 0) (0, 0)).2).1 + (mvP c f (f.code.getD (fst1 (pend h d) h.length 0) (0, 0)).1 (f.code.getD (fst1 (pend h d) h.length 0) (0, 0)).2).2) (nxt (f.code.getD (fst1 (pend h d) h.length 0) (0, 0)).1 (f.code.getD (fst1 (pend h d) h.length 0) (0, 0)).2 (fst1 (pend h d) h.length 0)) h).2 (d.set (fst1 (pend h d) h.length 0) true)
      else ([], (fst1 (pend h d) h.length 0 : Int), (suc (h.getD (fst1 (pend h d) h.length 0) (-1) - (mvP c f (f.code.getD (fst1 (pend h d) h.length 0) (0, 0)).1 (f.code.getD (fst1 (pend h d) h.length 0) (0, 0)).2).1 + (mvP c f (f.code.getD (fst1 (pend h d) h.length 0) (0, 0)).1 (f.code.getD (fst1 (pend h d) h.length 0) (0, 0)).2).2) (nxt (f.code.getD (fst1 (pend h d) h.length 0) (0, 0)).1 (f.code.getD (fst1 (pend h d) h.length 0) (0, 0)).2 (fst1 (pend h d) h.length 0)) h).1)
/-- one step, with what it looks at named -/
theorem hts_step (c : Cd) (f : Fn) (g : Nat) (h : List Int) (d : List Bool) (k : Nat) (op x pops pushes y : Int) (e : Int) (h' : List Int)
    (hk : fst1 (pend h d) h.length 0 = k) (hop : f.code.getD k (0, 0) = (op, x)) (hm : mvP c f op x = (pops, pushes)) (hy : h.getD k (-1) = y) (hs : suc (y - pops + pushes) (nxt op x k) h = (e, h')) :
    hts c f (g + 1) h d = if k = h.length then (h, 0, 0) else if y < pops then ([], (k : Int), 14) else if op = 10 ∧ pops < y then ([], (k : Int), 3) else if e = 0 then hts c f g h' (d.set k true) else ([], (k : Int), e) := by
  rw [hts]
  simp only [hk, hop, hm, hy, hs]
theorem fst1_ge (p : Nat → Bool) : ∀ n k, k ≤ fst1 p n k ∧ fst1 p n k ≤ k + n
  | 0, k => by simp [fst1]
  | n + 1, k => by
    unfold fst1
    split
    · omega
    · have := fst1_ge p n (k + 1); omega
theorem fst1_hit (p : Nat → Bool) : ∀ n k, fst1 p n k < k + n → p (fst1 p n k) = true
  | 0, k, h => by simp [fst1] at h
  | n + 1, k, h => by
    unfold fst1 at h ⊢
    cases hp : p k with
    | true => simp [hp]
    | false =>
      rw [hp] at h
      simp only [Bool.false_eq_true, if_false] at h ⊢
      exact fst1_hit p n (k + 1) (by omega)
theorem fst1_least (p : Nat → Bool) : ∀ n k j, k ≤ j → j < fst1 p n k → p j = false
  | 0, k, j, h1, h2 => by simp [fst1] at h2; omega
  | n + 1, k, j, h1, h2 => by
    unfold fst1 at h2
    cases hp : p k with
    | true => rw [hp] at h2; simp at h2; omega
    | false =>
      rw [hp] at h2
      simp only [Bool.false_eq_true, if_false] at h2
      by_cases e : k = j
      · subst e; exact hp
      · exact fst1_least p n (k + 1) j (by omega) h2
/-- the least one is found, however it is looked for -/
theorem fst1_is (p : Nat → Bool) (n k j : Nat) (h1 : k ≤ j) (h2 : j ≤ k + n) (h3 : ∀ i, k ≤ i → i < j → p i = false) (h4 : j < k + n → p j = true) : fst1 p n k = j := by
  obtain ⟨a, b⟩ := fst1_ge p n k
  rcases Nat.lt_trichotomy (fst1 p n k) j with h | h | h
  · have := fst1_hit p n k (by omega)
    rw [h3 _ a h] at this; cases this
  · exact h
  · have := fst1_least p n k j h1 h
    rw [h4 (by omega)] at this; cases this
def cntF (d : List Bool) : Nat := d.count false
theorem cntF_set : ∀ (d : List Bool) (k : Nat), d.getD k true = false → cntF (d.set k true) + 1 = cntF d
  | [], k, h => by simp at h
  | x :: r, 0, h => by
    simp at h; subst h
    simp [cntF]
  | x :: r, k + 1, h => by
    have ih := cntF_set r k (by simpa using h)
    unfold cntF at ih ⊢
    simp only [List.set_cons_succ, List.count_cons]
    omega
theorem cntF_pos : ∀ (d : List Bool) (k : Nat), d.getD k true = false → 0 < cntF d := fun d k h => by have := cntF_set d k h; omega
theorem cntF_le (d : List Bool) : cntF d ≤ d.length := List.count_le_length
theorem pend_parts {h : List Int} {d : List Bool} {i : Nat} (hp : pend h d i = true) : 0 ≤ h.getD i (-1) ∧ d.getD i true = false := by
  unfold pend at hp
  simp at hp
  exact hp
theorem getD_set_int (h : List Int) (i j : Nat) (v : Int) (hi : i < h.length) : (h.set i v).getD j (-1) = if j = i then v else h.getD j (-1) := by
  by_cases e : j = i
  · subst e; simp [hi]
  · rw [if_neg e]; simp [List.getElem?_set_ne (Ne.symm e)]
theorem getD_set_bool (h : List Bool) (i j : Nat) (v : Bool) (hi : i < h.length) : (h.set i v).getD j true = if j = i then v else h.getD j true := by
  by_cases e : j = i
  · subst e; simp [hi]
  · rw [if_neg e]; simp [List.getElem?_set_ne (Ne.symm e)]
/-- the heights of a function -/
def hP (c : Cd) (f : Fn) : List Int × Int × Int := hts c f (f.code.length + 1) ((List.replicate f.code.length (-1)).set 0 0) (List.replicate f.code.length false)

end Go.Proofs.YtlbnilhbfiidmaaDoor
