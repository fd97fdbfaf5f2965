/- Divisions of a list into phases: two ways to the best one. Plain lists and numbers. -/
import Derived.Below
namespace Go.Proofs.YthpekfpeoglbgaaGreatDoor
set_option linter.unusedVariables false
set_option linter.unusedSimpArgs false

/-- the first of two lists in the order of their first differing elements -/
def lexlt : List Nat → List Nat → Bool
  | a :: r, b :: t => if a = b then lexlt r t else decide (a < b)
  | _, _ => false
theorem lexlt_irrefl : ∀ a, lexlt a a = false := by
  intro a; induction a with
  | nil => rfl
  | cons x r ih => simp [lexlt, ih]
theorem lexlt_anti : ∀ a b : List Nat, a.length = b.length → lexlt a b = false → lexlt b a = false → a = b := by
  intro a; induction a with
  | nil => intro b h _ _; simpa using h.symm
  | cons x r ih =>
    intro b h h1 h2
    cases b with
    | nil => simp at h
    | cons y t =>
      simp only [lexlt] at h1 h2
      by_cases e : x = y
      · subst e; simp at h1 h2; rw [ih t (by simpa using h) h1 h2]
      · simp [e, Ne.symm e] at h1 h2; omega
theorem lexlt_trans : ∀ a b c : List Nat, a.length = b.length → b.length = c.length → lexlt b a = false → lexlt c b = false → lexlt c a = false := by
  intro a; induction a with
  | nil => intro b c h1 h2 _ _; simp at h1; cases c <;> rfl
  | cons x r ih =>
    intro b c h1 h2 h3 h4
    cases b with
    | nil => simp at h1
    | cons y t =>
      cases c with
      | nil => simp at h2
      | cons z s =>
        simp only [lexlt] at h3 h4 ⊢
        by_cases e1 : y = x
        · subst e1
          by_cases e2 : z = y
          · subst e2
            simp at h3 h4 ⊢
            exact ih t s (by simpa using h1) (by simpa using h2) h3 h4
          · simp [e2] at h4 ⊢; exact h4
        · simp [e1] at h3
          by_cases e2 : z = y
          · subst e2; simp [e1]; exact h3
          · simp [e2] at h4
            rw [if_neg (by omega)]; simp; omega

section
variable (U : Nat → Nat → Int) (n : Nat)
/-- what the parts cost that begin at these indexes -/
def cost : List Nat → Int
  | [] => 0
  | i :: r => U i (r.headD n) + cost r
/-- a division of what is left from i on -/
def Dv : Nat → List Nat → Prop
  | i, [] => i = n
  | i, j :: r => i = j ∧ j < n ∧ j < r.headD n ∧ Dv (r.headD n) r
/-- comes before -/
def bet (a b : List Nat) : Bool :=
  if cost U n a = cost U n b then (if a.length = b.length then lexlt a b else decide (a.length < b.length)) else decide (cost U n a < cost U n b)
theorem bet_irrefl (a : List Nat) : bet U n a a = false := by simp [bet, lexlt_irrefl]
theorem bet_anti (a b : List Nat) (h1 : bet U n a b = false) (h2 : bet U n b a = false) : a = b := by
  unfold bet at h1 h2
  by_cases e : cost U n a = cost U n b
  · rw [if_pos e] at h1; rw [if_pos e.symm] at h2
    by_cases e2 : a.length = b.length
    · rw [if_pos e2] at h1; rw [if_pos e2.symm] at h2
      exact lexlt_anti a b e2 h1 h2
    · rw [if_neg e2] at h1; rw [if_neg (Ne.symm e2)] at h2; simp at h1 h2; omega
  · rw [if_neg e] at h1; rw [if_neg (Ne.symm e)] at h2; simp at h1 h2; omega
theorem bet_trans (a b c : List Nat) (h1 : bet U n b a = false) (h2 : bet U n c b = false) : bet U n c a = false := by
  unfold bet at h1 h2 ⊢
  by_cases e1 : cost U n b = cost U n a
  · rw [if_pos e1] at h1
    by_cases e2 : cost U n c = cost U n b
    · rw [if_pos e2] at h2
      rw [if_pos (e2.trans e1)]
      by_cases f1 : b.length = a.length
      · rw [if_pos f1] at h1
        by_cases f2 : c.length = b.length
        · rw [if_pos f2] at h2; rw [if_pos (f2.trans f1)]
          exact lexlt_trans a b c f1.symm f2.symm h1 h2
        · rw [if_neg f2] at h2; rw [if_neg (by omega)]; simp at h2 ⊢; omega
      · rw [if_neg f1] at h1
        by_cases f2 : c.length = b.length
        · rw [if_neg (by omega)]; simp at h1 ⊢; omega
        · rw [if_neg f2] at h2; simp at h1 h2; rw [if_neg (by omega)]; simp; omega
    · rw [if_neg e2] at h2; rw [if_neg (by omega)]; simp at h2 ⊢; omega
  · rw [if_neg e1] at h1
    by_cases e2 : cost U n c = cost U n b
    · rw [if_neg (by omega)]; simp at h1 ⊢; omega
    · rw [if_neg e2] at h2; simp at h1 h2; rw [if_neg (by omega)]; simp; omega
theorem bet_cons (i : Nat) (a b : List Nat) (h : a.headD n = b.headD n) : bet U n (i :: a) (i :: b) = bet U n a b := by
  unfold bet
  simp only [cost, List.length_cons, h]
  by_cases e1 : cost U n a = cost U n b
  · rw [if_pos e1, if_pos (by omega)]
    by_cases e2 : a.length = b.length
    · rw [if_pos e2, if_pos (by omega)]; simp [lexlt]
    · rw [if_neg e2, if_neg (by omega)]; simp
  · rw [if_neg e1, if_neg (by omega)]; simp

variable {n}
theorem Dv.cons {i : Nat} {s : List Nat} (h : Dv n i s) (hi : i < n) : ∃ r, s = i :: r ∧ i < r.headD n ∧ r.headD n ≤ n ∧ Dv n (r.headD n) r := by
  cases s with
  | nil => have : i = n := h; omega
  | cons j r =>
    obtain ⟨rfl, h1, h2, h3⟩ := h
    refine ⟨r, rfl, h2, ?_, h3⟩
    cases r with
    | nil => simp
    | cons k t => obtain ⟨_, h5, _⟩ := h3; simp; omega
theorem Dv.mk {i : Nat} {r : List Nat} (j : Nat) (hi : i < n) (hj : i < j) (h : Dv n j r) : Dv n i (i :: r) ∧ r.headD n = j := by
  have e : r.headD n = j := by
    cases r with
    | nil => have : j = n := h; simp [this]
    | cons k t => simp [h.1]
  exact ⟨⟨rfl, hi, by rw [e]; exact hj, by rw [e]; exact h⟩, e⟩
theorem Dv.end_ {s : List Nat} (h : Dv n n s) : s = [] := by
  cases s with
  | nil => rfl
  | cons j r => obtain ⟨rfl, h1, _⟩ := h; omega
theorem Dv.len {s : List Nat} : ∀ {i : Nat}, Dv n i s → i ≤ n → s.length + i ≤ n := by
  induction s with
  | nil => intro i h hi; simpa using hi
  | cons j r ih =>
    intro i h hi
    obtain ⟨rfl, h1, h2, h3⟩ := h
    have h4 : r.headD n ≤ n := by
      cases r with
      | nil => simp
      | cons k t => obtain ⟨_, h5, _⟩ := h3; simp; omega
    have := ih h3 h4
    simp only [List.length_cons]; omega
theorem Dv.some : ∀ (q i : Nat), 1 ≤ q → q + i ≤ n → ∃ s, Dv n i s ∧ s.length = q := by
  intro q; induction q with
  | zero => intro i h; omega
  | succ q ih =>
    intro i _ h
    by_cases hq : q = 0
    · subst hq
      exact ⟨[i], (Dv.mk (r := []) n (by omega) (by omega) rfl).1, rfl⟩
    · obtain ⟨s, h1, h2⟩ := ih (i + 1) (by omega) (by omega)
      exact ⟨i :: s, (Dv.mk (i + 1) (by omega) (by omega) h1).1, by simp [h2]⟩
theorem Dv.ones : ∀ (d i : Nat), d + i = n → ∃ s, Dv n i s ∧ s.length = d ∧ ((∀ k, U k (k + 1) = 0) → cost U n s = 0) := by
  intro d; induction d with
  | zero => intro i h; exact ⟨[], by show i = n; omega, rfl, fun _ => rfl⟩
  | succ d ih =>
    intro i h
    obtain ⟨s, h1, h2, h3⟩ := ih (i + 1) (by omega)
    obtain ⟨h4, h5⟩ := Dv.mk (i + 1) (by omega : i < n) (by omega) h1
    exact ⟨i :: s, h4, by simp [h2], fun hk => by simp only [cost]; rw [h5, hk i, h3 hk]; rfl⟩
theorem cost_nonneg (hU : ∀ i j, 0 ≤ U i j) (s : List Nat) : 0 ≤ cost U n s := by
  induction s with
  | nil => simp [cost]
  | cons i r ih => simp only [cost]; have := hU i (r.headD n); omega

/-! ### the reference's way -/
variable (n)
def Bs (Bk : Nat → List Nat) (i : Nat) : Nat → List Nat
  | 0 => Bk i
  | d + 1 => if bet U n (i :: Bk (i + 1 + d)) (Bs Bk i d) then i :: Bk (i + 1 + d) else Bs Bk i d
def B : Nat → Nat → List Nat
  | 0, i => [i]
  | k + 1, i => Bs U n (B k) i (n - 1 - i)
variable {n}
structure Opt (k i : Nat) (b : List Nat) : Prop where
  dv : Dv n i b
  len : b.length ≤ k + 1
  best : ∀ s, Dv n i s → s.length ≤ k + 1 → bet U n s b = false
theorem B_opt : ∀ (k i : Nat), i < n → Opt U (n := n) k i (B U n k i) := by
  intro k; induction k with
  | zero =>
    intro i hi
    refine ⟨(Dv.mk (r := []) n hi hi rfl).1, by simp [B], ?_⟩
    intro s h hl
    obtain ⟨r, rfl, _, _, _⟩ := h.cons hi
    have : r = [] := List.eq_nil_of_length_eq_zero (by simp at hl; simpa using hl)
    subst this
    exact bet_irrefl U n _
  | succ k ih =>
    intro i hi
    have key : ∀ d, i + d + 1 ≤ n → Dv n i (Bs U n (B U n k) i d) ∧ (Bs U n (B U n k) i d).length ≤ k + 2 ∧
        (∀ s, Dv n i s → s.length ≤ k + 1 → bet U n s (Bs U n (B U n k) i d) = false) ∧
        (∀ r, Dv n i (i :: r) → r.length ≤ k + 1 → r.headD n ≤ i + d → bet U n (i :: r) (Bs U n (B U n k) i d) = false) := by
      intro d; induction d with
      | zero =>
        intro _
        have O := ih i hi
        refine ⟨O.dv, by have := O.len; simp only [Bs]; omega, O.best, ?_⟩
        intro r h1 h2 h3
        obtain ⟨_, _, h4, _⟩ := h1; omega
      | succ d ihd =>
        intro hd
        obtain ⟨a1, a2, a3, a4⟩ := ihd (by omega)
        have O := ih (i + 1 + d) (by omega)
        obtain ⟨m1, m2⟩ := Dv.mk (i + 1 + d) hi (by omega) O.dv
        have hx : ∀ r, Dv n i (i :: r) → r.length ≤ k + 1 → r.headD n = i + 1 + d → bet U n (i :: r) (i :: B U n k (i + 1 + d)) = false := by
          intro r h1 h2 h3
          rw [bet_cons U n i _ _ (by rw [m2, h3])]
          obtain ⟨_, _, _, h4⟩ := h1
          rw [h3] at h4
          exact O.best r h4 h2
        simp only [Bs]
        by_cases hb : bet U n (i :: B U n k (i + 1 + d)) (Bs U n (B U n k) i d) = true
        · rw [if_pos hb]
          have hcur : bet U n (Bs U n (B U n k) i d) (i :: B U n k (i + 1 + d)) = false := by
            cases hc : bet U n (Bs U n (B U n k) i d) (i :: B U n k (i + 1 + d)) with
            | false => rfl
            | true =>
              exfalso
              unfold bet at hb hc
              by_cases e : cost U n (i :: B U n k (i + 1 + d)) = cost U n (Bs U n (B U n k) i d)
              · rw [if_pos e] at hb; rw [if_pos e.symm] at hc
                by_cases f : (i :: B U n k (i + 1 + d)).length = (Bs U n (B U n k) i d).length
                · rw [if_pos f] at hb; rw [if_pos f.symm] at hc
                  generalize (i :: B U n k (i + 1 + d)) = x at *
                  generalize Bs U n (B U n k) i d = y at *
                  clear e f a1 a2 a3 a4 m1 hx
                  have : ∀ x y, lexlt x y = true → lexlt y x = true → False := by
                    intro x; induction x with
                    | nil => intro y h; simp [lexlt] at h
                    | cons a r ih =>
                      intro y h1 h2
                      cases y with
                      | nil => simp [lexlt] at h1
                      | cons b t =>
                        simp only [lexlt] at h1 h2
                        by_cases e : a = b
                        · subst e; simp at h1 h2; exact ih t h1 h2
                        · simp [e, Ne.symm e] at h1 h2; omega
                  exact this x y hb hc
                · rw [if_neg f] at hb; rw [if_neg (Ne.symm f)] at hc; simp at hb hc; omega
              · rw [if_neg e] at hb; rw [if_neg (Ne.symm e)] at hc; simp at hb hc; omega
          refine ⟨m1, by have := O.len; simp only [List.length_cons]; omega, fun s h1 h2 => bet_trans U n _ _ _ hcur (a3 s h1 h2), ?_⟩
          intro r h1 h2 h3
          by_cases e : r.headD n = i + 1 + d
          · exact hx r h1 h2 e
          · exact bet_trans U n _ _ _ hcur (a4 r h1 h2 (by omega))
        · rw [if_neg hb]
          have hb' : bet U n (i :: B U n k (i + 1 + d)) (Bs U n (B U n k) i d) = false := by simpa using hb
          refine ⟨a1, a2, a3, ?_⟩
          intro r h1 h2 h3
          by_cases e : r.headD n = i + 1 + d
          · exact bet_trans U n _ _ _ hb' (hx r h1 h2 e)
          · exact a4 r h1 h2 (by omega)
    obtain ⟨a1, a2, a3, a4⟩ := key (n - 1 - i) (by omega)
    refine ⟨a1, a2, ?_⟩
    intro s h hl
    obtain ⟨r, rfl, h1, h2, h3⟩ := h.cons hi
    by_cases e : r.headD n = n
    · rw [e] at h3
      have := h3.end_
      subst this
      exact a3 _ h (by simp)
    · exact a4 r h (by simp at hl; omega) (by omega)

/-! ### the program's way -/
variable (n)
def Ts (Tp : Nat → Int) (i : Nat) : Nat → Int
  | 0 => -1
  | d + 1 => if 0 ≤ Tp (i + 1 + d) ∧ (Ts Tp i d < 0 ∨ U i (i + 1 + d) + Tp (i + 1 + d) < Ts Tp i d) then U i (i + 1 + d) + Tp (i + 1 + d) else Ts Tp i d
def T : Nat → Nat → Int
  | 0, i => if i = n then 0 else -1
  | p + 1, i => Ts U (T p) i (n - i)
variable {n}
theorem T_spec (hU : ∀ i j, 0 ≤ U i j) : ∀ (p i : Nat), i ≤ n →
    (0 ≤ T U n p i → ∃ s, Dv n i s ∧ s.length = p ∧ cost U n s = T U n p i) ∧ (∀ s, Dv n i s → s.length = p → 0 ≤ T U n p i ∧ T U n p i ≤ cost U n s) := by
  intro p; induction p with
  | zero =>
    intro i hi
    unfold T
    by_cases e : i = n
    · rw [if_pos e]
      refine ⟨fun _ => ⟨[], e, rfl, rfl⟩, ?_⟩
      intro s h hl
      have : s = [] := List.eq_nil_of_length_eq_zero hl
      subst this
      simp [cost]
    · rw [if_neg e]
      refine ⟨fun h => by omega, ?_⟩
      intro s h hl
      have : s = [] := List.eq_nil_of_length_eq_zero hl
      subst this
      exact absurd h e
  | succ p ih =>
    intro i hi
    have key : ∀ d, i + d ≤ n → (0 ≤ Ts U (T U n p) i d → ∃ r, Dv n i (i :: r) ∧ r.length = p ∧ cost U n (i :: r) = Ts U (T U n p) i d) ∧
        (∀ r, Dv n i (i :: r) → r.length = p → r.headD n ≤ i + d → 0 ≤ Ts U (T U n p) i d ∧ Ts U (T U n p) i d ≤ cost U n (i :: r)) := by
      intro d; induction d with
      | zero =>
        intro _
        simp only [Ts]
        refine ⟨fun h => by omega, ?_⟩
        intro r h _ h3
        obtain ⟨_, _, h4, _⟩ := h; omega
      | succ d ihd =>
        intro hd
        obtain ⟨a1, a2⟩ := ihd (by omega)
        obtain ⟨b1, b2⟩ := ih (i + 1 + d) (by omega)
        simp only [Ts]
        have hu := hU i (i + 1 + d)
        by_cases hc : 0 ≤ T U n p (i + 1 + d) ∧ (Ts U (T U n p) i d < 0 ∨ U i (i + 1 + d) + T U n p (i + 1 + d) < Ts U (T U n p) i d)
        · rw [if_pos hc]
          refine ⟨fun _ => ?_, ?_⟩
          · obtain ⟨s, h1, h2, h3⟩ := b1 hc.1
            obtain ⟨m1, m2⟩ := Dv.mk (i + 1 + d) (by omega : i < n) (by omega) h1
            exact ⟨s, m1, h2, by simp only [cost]; rw [m2, h3]⟩
          · intro r h1 h2 h3
            refine ⟨by omega, ?_⟩
            by_cases e : r.headD n = i + 1 + d
            · obtain ⟨_, _, _, h4⟩ := h1
              rw [e] at h4
              have := (b2 r h4 h2).2
              simp only [cost]; rw [e]; omega
            · have := a2 r h1 h2 (by omega); omega
        · rw [if_neg hc]
          refine ⟨a1, ?_⟩
          intro r h1 h2 h3
          by_cases e : r.headD n = i + 1 + d
          · obtain ⟨_, _, _, h4⟩ := h1
            rw [e] at h4
            have := b2 r h4 h2
            simp only [cost]; rw [e]; omega
          · exact a2 r h1 h2 (by omega)
    unfold T
    by_cases e : i = n
    · subst e
      have e0 : i - i = 0 := by omega
      rw [e0]
      simp only [Ts]
      refine ⟨fun h => by omega, ?_⟩
      intro s h hl
      have := h.end_
      subst this
      simp at hl
    · obtain ⟨a1, a2⟩ := key (n - i) (by omega)
      refine ⟨fun h => ?_, ?_⟩
      · obtain ⟨r, h1, h2, h3⟩ := a1 h
        exact ⟨i :: r, h1, by simp [h2], h3⟩
      · intro s h hl
        obtain ⟨r, rfl, h1, h2, h3⟩ := h.cons (by omega)
        exact a2 r h (by simpa using hl) (by omega)

def srch (f : Nat → Bool) : Nat → Nat → Nat
  | 0, j => j
  | k + 1, j => if f j then j else srch f k (j + 1)
theorem srch_spec (f : Nat → Bool) : ∀ (k j m : Nat), j ≤ m → m < j + k → f m = true → f (srch f k j) = true ∧ srch f k j ≤ m ∧ j ≤ srch f k j ∧ ∀ x, j ≤ x → x < srch f k j → f x = false := by
  intro k; induction k with
  | zero => intro j m h1 h2; omega
  | succ k ih =>
    intro j m h1 h2 h3
    unfold srch
    cases hf : f j with
    | true => simp only [if_true]; exact ⟨hf, h1, Nat.le_refl _, fun x a b => by omega⟩
    | false =>
      have hne : j ≠ m := by intro e; subst e; rw [hf] at h3; cases h3
      obtain ⟨a, b, c, d⟩ := ih (j + 1) m (by omega) (by omega) h3
      simp only [Bool.false_eq_true, if_false]
      refine ⟨a, b, by omega, fun x h4 h5 => ?_⟩
      by_cases e : x = j
      · subst e; exact hf
      · exact d x (by omega) h5
variable (n)
def fits (p i j : Nat) : Bool := decide (0 ≤ T U n p j) && decide (U i j + T U n p j = T U n (p + 1) i)
def J (p i : Nat) : Nat := srch (fits U n p i) (n - i) (i + 1)
def R : Nat → Nat → List Nat
  | 0, _ => []
  | p + 1, i => i :: R p (J U n p i)
variable {n}
theorem fits_of (hU : ∀ i j, 0 ≤ U i j) {p i : Nat} {r : List Nat} (hi : i < n) (h : Dv n i (i :: r)) (hl : r.length = p) (hc : cost U n (i :: r) = T U n (p + 1) i) :
    fits U n p i (r.headD n) = true ∧ cost U n r = T U n p (r.headD n) := by
  obtain ⟨r', e, h1, h2, h3⟩ := h.cons hi
  injection e with _ e
  subst e
  obtain ⟨b1, b2⟩ := T_spec U hU p (r.headD n) h2
  obtain ⟨b3, b4⟩ := b2 r h3 hl
  obtain ⟨s, c1, c2, c3⟩ := b1 b3
  obtain ⟨m1, m2⟩ := Dv.mk (r.headD n) hi h1 c1
  have := ((T_spec U hU (p + 1) i (by omega)).2 (i :: s) m1 (by simp [c2])).2
  simp only [cost] at this hc
  rw [m2, c3] at this
  have e1 : cost U n r = T U n p (r.headD n) := by omega
  refine ⟨?_, e1⟩
  unfold fits
  simp only [Bool.and_eq_true, decide_eq_true_eq]
  exact ⟨b3, by omega⟩
theorem J_spec (hU : ∀ i j, 0 ≤ U i j) {p i : Nat} (hi : i ≤ n) (h : 0 ≤ T U n (p + 1) i) :
    i < n ∧ i < J U n p i ∧ J U n p i ≤ n ∧ 0 ≤ T U n p (J U n p i) ∧ U i (J U n p i) + T U n p (J U n p i) = T U n (p + 1) i ∧
    ∀ x, i < x → x < J U n p i → fits U n p i x = false := by
  obtain ⟨s, h1, h2, h3⟩ := (T_spec U hU (p + 1) i hi).1 h
  have hlt : i < n := by
    rcases Nat.lt_or_ge i n with h | h
    · exact h
    · have e : i = n := by omega
      subst e
      have := h1.end_
      subst this
      simp at h2
  obtain ⟨r, rfl, c1, c2, c3⟩ := h1.cons hlt
  obtain ⟨f1, f2⟩ := fits_of U hU hlt h1 (by simpa using h2) h3
  obtain ⟨a, b, c, d⟩ := srch_spec (fits U n p i) (n - i) (i + 1) (r.headD n) (by omega) (by omega) f1
  have a' : fits U n p i (J U n p i) = true := a
  unfold fits at a'
  simp only [Bool.and_eq_true, decide_eq_true_eq] at a'
  refine ⟨hlt, by unfold J; omega, by unfold J; omega, a'.1, a'.2, fun x h4 h5 => d x (by omega) h5⟩
theorem R_spec (hU : ∀ i j, 0 ≤ U i j) : ∀ (p i : Nat), i ≤ n → 0 ≤ T U n p i → Dv n i (R U n p i) ∧ (R U n p i).length = p ∧ cost U n (R U n p i) = T U n p i ∧
    ∀ s, Dv n i s → s.length = p → cost U n s = T U n p i → lexlt s (R U n p i) = false := by
  intro p; induction p with
  | zero =>
    intro i hi h
    have e : i = n := by
      unfold T at h
      by_cases e : i = n
      · exact e
      · rw [if_neg e] at h; omega
    subst e
    refine ⟨rfl, rfl, by simp [R, cost, T], ?_⟩
    intro s h1 _ _
    have := h1.end_
    subst this
    rfl
  | succ p ih =>
    intro i hi h
    obtain ⟨hlt, j1, j2, j3, j4, j5⟩ := J_spec U hU hi h
    obtain ⟨a, b, c, d⟩ := ih (J U n p i) j2 j3
    obtain ⟨m1, m2⟩ := Dv.mk (J U n p i) hlt j1 a
    refine ⟨m1, by simp [R, b], ?_, ?_⟩
    · simp only [R, cost]; rw [m2, c]; exact j4
    · intro s h1 h2 h3
      obtain ⟨r, rfl, c1, c2, c3⟩ := h1.cons hlt
      obtain ⟨f1, f2⟩ := fits_of U hU hlt h1 (by simpa using h2) h3
      have hle : J U n p i ≤ r.headD n := by
        rcases Nat.lt_or_ge (r.headD n) (J U n p i) with h | h
        · rw [j5 _ c1 h] at f1; cases f1
        · exact h
      simp only [R, lexlt, if_true]
      by_cases e : r.headD n = J U n p i
      · refine d r (by rw [← e]; exact c3) (by simpa using h2) (by rw [f2, e])
      · cases r with
        | nil => cases R U n p (J U n p i) <;> rfl
        | cons k t =>
          simp only [List.headD_cons] at e hle
          cases hR : R U n p (J U n p i) with
          | nil => rfl
          | cons x y =>
            rw [hR] at m2
            simp only [List.headD_cons] at m2
            simp only [lexlt]
            rw [if_neg (by omega)]; simp; omega
/-- the first of the least values, from 1 on -/
def bp (f : Nat → Int) : Nat → Nat
  | 0 => 1
  | d + 1 => if f (d + 2) < f (bp f d) then d + 2 else bp f d
theorem bp_spec (f : Nat → Int) : ∀ d, 1 ≤ bp f d ∧ bp f d ≤ d + 1 ∧ ∀ q, 1 ≤ q → q ≤ d + 1 → f (bp f d) ≤ f q ∧ (f q = f (bp f d) → bp f d ≤ q) := by
  intro d; induction d with
  | zero =>
    refine ⟨Nat.le_refl _, Nat.le_refl _, ?_⟩
    intro q h1 h2
    have : q = 1 := by omega
    subst this
    exact ⟨Int.le_refl _, fun _ => Nat.le_refl _⟩
  | succ d ih =>
    obtain ⟨a, b, c⟩ := ih
    unfold bp
    by_cases h : f (d + 2) < f (bp f d)
    · rw [if_pos h]
      refine ⟨by omega, by omega, ?_⟩
      intro q h1 h2
      by_cases e : q = d + 2
      · subst e; exact ⟨Int.le_refl _, fun _ => Nat.le_refl _⟩
      · have := c q h1 (by omega); exact ⟨by omega, fun h => by omega⟩
    · rw [if_neg h]
      refine ⟨a, by omega, ?_⟩
      intro q h1 h2
      by_cases e : q = d + 2
      · subst e; exact ⟨by omega, fun h => by omega⟩
      · exact c q h1 (by omega)
variable (n)
/-- how many phases the program takes -/
def bpU (m : Nat) : Nat := bp (fun q => T U n q 0) (m - 1)
def Ph (most : Nat) : List Nat := R U n (bpU U n (min most n)) 0
variable {n}
theorem T_pos (hU : ∀ i j, 0 ≤ U i j) {q : Nat} (h1 : 1 ≤ q) (h2 : q ≤ n) : 0 ≤ T U n q 0 := by
  obtain ⟨s, a, b⟩ := Dv.some (n := n) q 0 h1 (by omega)
  exact ((T_spec U hU q 0 (by omega)).2 s a b).1
theorem Ph_opt (hU : ∀ i j, 0 ≤ U i j) (hn : 0 < n) {most : Nat} (hm : 1 ≤ most) : Opt U (n := n) (most - 1) 0 (Ph U n most) := by
  obtain ⟨a, b, c⟩ := bp_spec (fun q => T U n q 0) (min most n - 1)
  have hp : bpU U n (min most n) = bp (fun q => T U n q 0) (min most n - 1) := rfl
  rw [← hp] at a b c
  obtain ⟨d1, d2, d3, d4⟩ := R_spec (n := n) U hU (bpU U n (min most n)) 0 (by omega) (T_pos (n := n) U hU a (by omega))
  refine ⟨d1, by unfold Ph; omega, ?_⟩
  intro s h1 h2
  have hl := h1.len (by omega)
  have hs : 1 ≤ s.length := by
    obtain ⟨r, rfl, _⟩ := h1.cons hn
    simp
  have hc := c s.length hs (by omega)
  have ht := ((T_spec (n := n) U hU s.length 0 (by omega)).2 s h1 rfl).2
  unfold Ph bet
  rw [d3, d2]
  by_cases e : cost U n s = T U n (bpU U n (min most n)) 0
  · rw [if_pos e]
    by_cases e2 : s.length = bpU U n (min most n)
    · rw [if_pos e2]; exact d4 s h1 e2 e
    · rw [if_neg e2]; simp
      omega
  · rw [if_neg e]; simp
    omega
theorem Ph_eq (hU : ∀ i j, 0 ≤ U i j) (hn : 0 < n) {most : Nat} (hm : 1 ≤ most) : Ph U n most = B U n (most - 1) 0 := by
  have A := Ph_opt U hU hn hm
  have C := B_opt U (n := n) (most - 1) 0 hn
  exact bet_anti U n _ _ (C.best _ A.dv A.len) (A.best _ C.dv C.len)
theorem Ph_cost_mono (hU : ∀ i j, 0 ≤ U i j) (hn : 0 < n) {m m' : Nat} (hm : 1 ≤ m) (hmm : m ≤ m') : cost U n (Ph U n m') ≤ cost U n (Ph U n m) := by
  have A := Ph_opt U hU hn hm
  have C := Ph_opt U hU hn (most := m') (by omega)
  have := C.best _ A.dv (by have := A.len; omega)
  unfold bet at this
  by_cases e : cost U n (Ph U n m) = cost U n (Ph U n m')
  · omega
  · rw [if_neg e] at this; simp at this; exact this
theorem Ph_cost_zero (hU : ∀ i j, 0 ≤ U i j) (hU1 : ∀ k, U k (k + 1) = 0) (hn : 0 < n) : cost U n (Ph U n n) = 0 := by
  have C := Ph_opt U hU hn (most := n) hn
  obtain ⟨s, a, b, c⟩ := Dv.ones U (n := n) n 0 (by omega)
  have h0 := c hU1
  have := C.best s a (by omega)
  have hp := cost_nonneg U (n := n) hU (Ph U n n)
  unfold bet at this
  by_cases e : cost U n s = cost U n (Ph U n n)
  · omega
  · rw [if_neg e] at this; simp at this; omega
end

/-! ### unevenness -/
def cnt (c : Int) (l : List Int) : Int := ((l.filter (· == c)).length : Int)
def mxc (l : List Int) : Nat → Int
  | 0 => 0
  | c + 1 => max (mxc l c) (cnt ((c : Int) + 1) l)
def un (K : Nat) (l : List Int) : Int := l.length - mxc l K
theorem cnt_nil (c : Int) : cnt c [] = 0 := rfl
theorem cnt_snoc (c x : Int) (l : List Int) : cnt c (l ++ [x]) = cnt c l + if x = c then 1 else 0 := by
  unfold cnt
  rw [List.filter_append]
  by_cases h : x = c <;> simp [h]
theorem cnt_bd (c : Int) (l : List Int) : 0 ≤ cnt c l ∧ cnt c l ≤ l.length := by
  unfold cnt
  have := List.length_filter_le (fun x : Int => x == c) l
  omega
theorem mxc_bd (l : List Int) : ∀ K, 0 ≤ mxc l K ∧ mxc l K ≤ l.length := by
  intro K; induction K with
  | zero => simp [mxc]
  | succ K ih => have := cnt_bd ((K : Int) + 1) l; unfold mxc; omega
theorem mxc_nil : ∀ K, mxc [] K = 0 := by
  intro K; have := mxc_bd [] K; simp at this; omega
theorem cnt_le_mxc (l : List Int) : ∀ (K : Nat) (x : Int), 1 ≤ x → x ≤ K → cnt x l ≤ mxc l K := by
  intro K; induction K with
  | zero => intro x h1 h2; omega
  | succ K ih =>
    intro x h1 h2
    unfold mxc
    by_cases e : x = (K : Int) + 1
    · subst e; omega
    · have := ih x h1 (by omega); omega
theorem mxc_snoc (l : List Int) (x : Int) : ∀ (K : Nat), (1 ≤ x ∧ x ≤ K → mxc (l ++ [x]) K = max (mxc l K) (cnt x (l ++ [x]))) ∧ (K < x → mxc (l ++ [x]) K = mxc l K) := by
  intro K; induction K with
  | zero => exact ⟨fun h => by omega, fun _ => rfl⟩
  | succ K ih =>
    obtain ⟨a, b⟩ := ih
    have hs := cnt_snoc ((K : Int) + 1) x l
    refine ⟨fun h => ?_, fun h => ?_⟩
    · by_cases e : x = (K : Int) + 1
      · have hb := b (by omega)
        unfold mxc
        rw [hb, ← e]
        rw [← e, if_pos rfl] at hs
        omega
      · have ha := a ⟨h.1, by omega⟩
        rw [if_neg e] at hs
        unfold mxc
        rw [ha, hs]; omega
    · have hb := b (by omega)
      rw [if_neg (by omega)] at hs
      unfold mxc
      rw [hb, hs]; simp
theorem un_nonneg (K : Nat) (l : List Int) : 0 ≤ un K l := by unfold un; have := mxc_bd l K; omega
theorem un_le (K : Nat) (l : List Int) : un K l ≤ l.length := by unfold un; have := mxc_bd l K; omega
/-- the part from i to j -/
def seg (l : List Int) (i j : Nat) : List Int := (l.drop i).take (j - i)
theorem seg_snoc (l : List Int) (i j : Nat) (h : i ≤ j) (hj : j < l.length) : seg l i (j + 1) = seg l i j ++ [l.getD j 0] := by
  unfold seg
  have e : j + 1 - i = (j - i) + 1 := by omega
  rw [e, List.take_succ_eq_append_getElem (by simp; omega)]
  congr 1
  simp [hj, show i + (j - i) = j by omega]
theorem seg_self (l : List Int) (i : Nat) : seg l i i = [] := by simp [seg]
theorem seg_length (l : List Int) (i j : Nat) (h : i ≤ j) (hj : j ≤ l.length) : (seg l i j).length = j - i := by simp [seg]; omega
def UN (K : Nat) (l : List Int) (i j : Nat) : Int := un K (seg l i j)
theorem UN_nonneg (K : Nat) (l : List Int) (i j : Nat) : 0 ≤ UN K l i j := un_nonneg _ _
theorem UN_one (K : Nat) (l : List Int) (hl : ∀ x ∈ l, 1 ≤ x ∧ x ≤ K) (i : Nat) : UN K l i (i + 1) = 0 := by
  unfold UN
  by_cases h : i < l.length
  · rw [seg_snoc l i i (Nat.le_refl _) h, seg_self]
    have hm : l.getD i 0 ∈ l := by simp [h]
    have := (mxc_snoc [] (l.getD i 0) K).1 (hl _ hm)
    unfold un
    rw [this, mxc_nil, cnt_snoc, if_pos rfl, cnt_nil]
    simp; omega
  · have : seg l i (i + 1) = [] := by simp [seg]; omega
    rw [this]; unfold un; rw [mxc_nil]; rfl
end Go.Proofs.YthpekfpeoglbgaaGreatDoor
