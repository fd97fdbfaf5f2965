/- The texts KP6 K45 K46, one behind the other. -/
import Derived.Test.YtncnojhbdkhcjaaZI
import Derived.Test.YtncnojhbdkhcjaaShelf
import Derived.Lib.AppendZeros
import Derived.Deep.DeepCutAuto
/- Swaps, cut at a time. -/
namespace Go.Proofs.Ytncnojhbdkhcjaa
open Go.RowKit Go.Hw Go
set_option linter.unusedVariables false
set_option linter.unusedSimpArgs false

theorem mul_down {α β n d m e : Int} (hα : 0 < α) (he : 1 ≤ e) (hd : 1 ≤ d) (hle : n * e ≤ m * d) (h : α * m < β * e) : α * n < β * d := by
  have h1 : α * (n * e) ≤ α * (m * d) := Int.mul_le_mul_of_nonneg_left hle (by omega)
  have h2 : α * m * d < β * e * d := Int.mul_lt_mul_of_pos_right h (by omega)
  have h3 : α * n * e < β * d * e := by
    rw [Int.mul_assoc α n e]
    refine Int.lt_of_le_of_lt h1 ?_
    rw [← Int.mul_assoc α m d, Int.mul_assoc β d e, Int.mul_comm d e, ← Int.mul_assoc β e d]
    exact h2
  exact Int.lt_of_mul_lt_mul_right h3 (by omega)
/-- of two points the one in front is faster behind the other: ahead by time until they meet -/
theorem lessK_fast {l : List Mo} {a b : Nat} (h : (mg l b).2 < (mg l a).2) (p q : Int) : lessK l p q a b = true ↔ ((mg l a).2 - (mg l b).2) * p < ((mg l b).1 - (mg l a).1) * q := by
  unfold lessK ps
  rw [Int.sub_mul, Int.sub_mul]
  split
  · rename_i e
    rw [if_neg (by omega)]
    simp only [decide_eq_true_eq]
    omega
  · simp only [decide_eq_true_eq]
    omega
theorem le_tr {n d m e p g : Int} (hd : 1 ≤ d) (he : 1 ≤ e) (hg : 1 ≤ g) (h1 : n * e ≤ m * d) (h2 : m * g ≤ p * e) : n * g ≤ p * d := by
  have a1 : n * e * g ≤ m * d * g := Int.mul_le_mul_of_nonneg_right h1 (by omega)
  have a2 : m * g * d ≤ p * e * d := Int.mul_le_mul_of_nonneg_right h2 (by omega)
  have a3 : n * g * e ≤ p * d * e := by
    rw [Int.mul_assoc n g e, Int.mul_comm g e, ← Int.mul_assoc]
    refine Int.le_trans a1 ?_
    rw [Int.mul_assoc m d g, Int.mul_comm d g, ← Int.mul_assoc]
    refine Int.le_trans a2 ?_
    rw [Int.mul_assoc p e d, Int.mul_comm e d, ← Int.mul_assoc]
    exact Int.le_refl _
  exact Int.le_of_mul_le_mul_right a3 (by omega)
theorem isSw_iff (l : List Mo) (n d m e : Int) (a b : Nat) : isSw l n d m e a b = true ↔ lessK l n d a b = true ∧ lessK l m e a b = false := by
  unfold isSw
  cases lessK l n d a b <;> cases lessK l m e a b <;> simp
theorem isSw_split {l : List Mo} {n d m e p g : Int} (hd : 1 ≤ d) (he : 1 ≤ e) (hg : 1 ≤ g) (hn : 0 ≤ n) (hm : 0 ≤ m) (h1 : n * e ≤ m * d) (h2 : m * g ≤ p * e) (a b : Nat) :
    isSw l n d p g a b = true ↔ isSw l n d m e a b = true ∨ isSw l m e p g a b = true := by
  constructor
  · intro h
    obtain ⟨x1, x2⟩ := (isSw_iff _ _ _ _ _ _ _).1 h
    cases hc : lessK l m e a b
    · exact .inl ((isSw_iff _ _ _ _ _ _ _).2 ⟨x1, hc⟩)
    · exact .inr ((isSw_iff _ _ _ _ _ _ _).2 ⟨hc, x2⟩)
  · rintro (h | h)
    · obtain ⟨x1, x2⟩ := (isSw_iff _ _ _ _ _ _ _).1 h
      have hs := sw_meets hd he hn h1 h
      refine (isSw_iff _ _ _ _ _ _ _).2 ⟨x1, ?_⟩
      rw [Bool.eq_false_iff]
      intro hc
      have := (lessK_fast hs p g).1 hc
      have h3 := mul_down (show 0 < (mg l a).2 - (mg l b).2 by omega) hg he h2 this
      rw [(lessK_fast hs m e).2 h3] at x2
      cases x2
    · obtain ⟨x1, x2⟩ := (isSw_iff _ _ _ _ _ _ _).1 h
      have hs := sw_meets he hg hm h2 h
      refine (isSw_iff _ _ _ _ _ _ _).2 ⟨?_, x2⟩
      exact (lessK_fast hs n d).2 (mul_down (show 0 < (mg l a).2 - (mg l b).2 by omega) he hd h1 ((lessK_fast hs m e).1 x1))
theorem meetB_lt {a b : Mo} {n d : Int} (h : meetB a b n d = true) : n * mtD a b < mtN a b * d := by
  unfold meetB at h
  rw [Bool.and_eq_true, decide_eq_true_eq] at h
  exact h.2
/-- the swaps up to a time, then those up to a later one -/
theorem swF_split {l : List Mo} {n d m e p g : Int} (hb : mB l = true) (hd : 1 ≤ d) (he : 1 ≤ e) (hg : 1 ≤ g) (hn : 0 ≤ n) (hm : 0 ≤ m) (h1 : n * e ≤ m * d) (h2 : m * g ≤ p * e) :
    swF l n d m e ++ swF l m e p g = swF l n d p g := by
  have h3 := le_tr hd he hg h1 h2
  refine sorted_ext (fun x hx => ?_) ?_ (swF_sorted hb hd hg hn h3) (fun x => ?_)
  · rcases List.mem_append.1 hx with h | h
    · exact swF_ok hb hd he hn h1 x h
    · exact swF_ok hb he hg hm h2 x h
  · rw [List.pairwise_append]
    refine ⟨swF_sorted hb hd he hn h1, swF_sorted hb he hg hm h2, fun x hx y hy => ?_⟩
    obtain ⟨a, b, _, _, hs, rfl⟩ := (mem_swF _ _ _ _ _ _).1 hx
    obtain ⟨a', b', _, _, hs', rfl⟩ := (mem_swF _ _ _ _ _ _).1 hy
    obtain ⟨_, t1⟩ := sw_time hd he hn h1 hs
    have t2 := meetB_lt (sw_time he hg hm h2 hs').1
    have p1 := okE_pos (sw_ok hb hd he hn h1 hs)
    have p2 := okE_pos (sw_ok hb he hg hm h2 hs')
    rw [earl_iff]
    refine .inl ?_
    have p1' : 0 < mtD (mg l a) (mg l b) := p1
    have p2' : 0 < mtD (mg l a') (mg l b') := p2
    show mtN (mg l a) (mg l b) * mtD (mg l a') (mg l b') < mtN (mg l a') (mg l b') * mtD (mg l a) (mg l b)
    generalize mtN (mg l a) (mg l b) = N1 at *
    generalize mtD (mg l a) (mg l b) = D1 at *
    generalize mtN (mg l a') (mg l b') = N2 at *
    generalize mtD (mg l a') (mg l b') = D2 at *
    -- N1/D1 ≤ m/e < N2/D2
    have u1 : N1 * e * D2 ≤ m * D1 * D2 := Int.mul_le_mul_of_nonneg_right (by omega) (by omega)
    have u2 : m * D2 * D1 < N2 * e * D1 := Int.mul_lt_mul_of_pos_right t2 p1'
    have u3 : N1 * D2 * e < N2 * D1 * e := by
      rw [Int.mul_assoc N1, Int.mul_comm D2 e, ← Int.mul_assoc]
      refine Int.lt_of_le_of_lt u1 ?_
      rw [Int.mul_assoc m, Int.mul_comm D1 D2, ← Int.mul_assoc]
      refine Int.lt_of_lt_of_le u2 ?_
      rw [Int.mul_assoc N2, Int.mul_comm e D1, ← Int.mul_assoc]
      exact Int.le_refl _
    exact Int.lt_of_mul_lt_mul_right u3 (by omega)
  · rw [List.mem_append, mem_swF, mem_swF, mem_swF]
    constructor
    · rintro (⟨a, b, ha, hb', hs, rfl⟩ | ⟨a, b, ha, hb', hs, rfl⟩)
      · exact ⟨a, b, ha, hb', (isSw_split hd he hg hn hm h1 h2 a b).2 (.inl hs), rfl⟩
      · exact ⟨a, b, ha, hb', (isSw_split hd he hg hn hm h1 h2 a b).2 (.inr hs), rfl⟩
    · rintro ⟨a, b, ha, hb', hs, rfl⟩
      rcases (isSw_split hd he hg hn hm h1 h2 a b).1 hs with h | h
      · exact .inl ⟨a, b, ha, hb', h, rfl⟩
      · exact .inr ⟨a, b, ha, hb', h, rfl⟩

theorem adj_swap {l : List Mo} {n d m e : Int} {i : Nat} : ∀ k, i + k + 1 < l.length → lessK l m e ((ordF l n d).getD i 0) ((ordF l n d).getD (i + k + 1) 0) = false → ∃ q, q + 1 < l.length ∧ isSw l n d m e ((ordF l n d).getD q 0) ((ordF l n d).getD (q + 1) 0) = true
  | 0, h, hs => ⟨i, h, (isSw_iff _ _ _ _ _ _ _).2 ⟨ordF_lt l n d (by omega) h, hs⟩⟩
  | k + 1, h, hs => by
    cases hc : lessK l m e ((ordF l n d).getD (i + k + 1) 0) ((ordF l n d).getD (i + k + 1 + 1) 0)
    · exact ⟨i + k + 1, h, (isSw_iff _ _ _ _ _ _ _).2 ⟨ordF_lt l n d (by omega) h, hc⟩⟩
    · refine adj_swap (i := i) (n := n) (d := d) (m := m) (e := e) k (by omega) ?_
      rw [Bool.eq_false_iff]
      intro h2
      have := lessK_trans h2 hc
      rw [show i + (k + 1) + 1 = i + k + 1 + 1 by omega] at hs
      rw [hs] at this
      cases this
def tle (x y : Sw) : Prop := x.1 * y.2.1 ≤ y.1 * x.2.1
theorem tle_trans {x y z : Sw} (hx : 0 < x.2.1) (hy : 0 < y.2.1) (hz : 0 < z.2.1) (h1 : tle x y) (h2 : tle y z) : tle x z := (fr_lt_trans hx hy hz h1 h2).1
theorem better_le (b y : Sw) : tle (better b y) b ∧ tle (better b y) y := by
  unfold better tle
  split
  · exact ⟨by omega, Int.le_refl _⟩
  · exact ⟨Int.le_refl _, by omega⟩
theorem better_ok {b y : Sw} (hb : okE b) (hy : okE y) : okE (better b y) := by
  unfold better
  split
  · exact hy
  · exact hb
theorem fold_le : ∀ (r : List Sw) (b : Sw), okE b → (∀ y ∈ r, okE y) → tle (r.foldl better b) b ∧ ∀ y ∈ r, tle (r.foldl better b) y
  | [], b, _, _ => ⟨Int.le_refl _, fun y hy => by cases hy⟩
  | x :: r, b, hb, hr => by
    have hx := hr x List.mem_cons_self
    have hr' := fun y hy => hr y (List.mem_cons_of_mem _ hy)
    obtain ⟨h1, h2⟩ := fold_le r (better b x) (better_ok hb hx) hr'
    have ho := okE_pos (fold_ok r (better b x) (better_ok hb hx) hr')
    rw [List.foldl_cons]
    refine ⟨tle_trans ho (okE_pos (better_ok hb hx)) (okE_pos hb) h1 (better_le b x).1, fun y hy => ?_⟩
    rcases List.mem_cons.1 hy with e | hy
    · rw [e]
      exact tle_trans ho (okE_pos (better_ok hb hx)) (okE_pos hx) h1 (better_le b x).2
    · exact h2 y hy
theorem best_le {c : List Sw} (hok : ∀ y ∈ c, okE y) {y : Sw} (hy : y ∈ c) : 0 < c.length ∧ tle (bw c) y ∧ okE (bw c) := by
  cases c with
  | nil => cases hy
  | cons x r =>
    refine ⟨by simp, ?_, fold_ok r x (hok x List.mem_cons_self) (fun y hy => hok y (List.mem_cons_of_mem _ hy))⟩
    obtain ⟨h1, h2⟩ := fold_le r x (hok x List.mem_cons_self) (fun y hy => hok y (List.mem_cons_of_mem _ hy))
    rcases List.mem_cons.1 hy with e | hy
    · rw [e]; exact h1
    · exact h2 y hy
/-- where something swaps by a time, two neighbours meet by then -/
theorem swap_next {l : List Mo} {n d m e : Int} (hb : mB l = true) (hd : 1 ≤ d) (he : 1 ≤ e) (hn : 0 ≤ n) (hle : n * e ≤ m * d) (h : 0 < (swF l n d m e).length) :
    0 < (certF l n d).length ∧ okE (bw (certF l n d)) ∧ ¬ m * (bw (certF l n d)).2.1 < (bw (certF l n d)).1 * e := by
  obtain ⟨z, hz⟩ := List.exists_mem_of_length_pos h
  obtain ⟨a, b, ha, hb', hs, rfl⟩ := (mem_swF _ _ _ _ _ _).1 hz
  obtain ⟨i, hi, rfl⟩ := ordF_idx l n d ha
  obtain ⟨j, hj, rfl⟩ := ordF_idx l n d hb'
  obtain ⟨x1, x2⟩ := (isSw_iff _ _ _ _ _ _ _).1 hs
  have hij := ordF_pos l n d hi hj x1
  obtain ⟨k, rfl⟩ : ∃ k, j = i + k + 1 := ⟨j - i - 1, by omega⟩
  obtain ⟨q, hq, hsq⟩ := adj_swap (n := n) (d := d) k hj x2
  obtain ⟨t1, t2⟩ := sw_time hd he hn hle hsq
  have hc : sw l ((ordF l n d).getD q 0) ((ordF l n d).getD (q + 1) 0) ∈ certF l n d := by
    unfold certF certP
    rw [List.mem_filterMap]
    refine ⟨q, by rw [List.mem_range]; omega, ?_⟩
    unfold certAt
    rw [if_pos t1]
    rfl
  obtain ⟨h1, h2, h3⟩ := best_le (certF_ok hb) hc
  refine ⟨h1, h3, fun h4 => ?_⟩
  have p1 : 0 < mtD (mg l ((ordF l n d).getD q 0)) (mg l ((ordF l n d).getD (q + 1) 0)) := okE_pos (certF_ok hb _ hc)
  have p2 := okE_pos h3
  unfold tle at h2
  simp only [sw] at h2
  generalize mtN (mg l ((ordF l n d).getD q 0)) (mg l ((ordF l n d).getD (q + 1) 0)) = N1 at *
  generalize mtD (mg l ((ordF l n d).getD q 0)) (mg l ((ordF l n d).getD (q + 1) 0)) = D1 at *
  generalize (bw (certF l n d)).1 = B at *
  generalize (bw (certF l n d)).2.1 = G at *
  -- B/G ≤ N1/D1 ≤ m/e < B/G
  have u1 : B * D1 * e ≤ N1 * G * e := Int.mul_le_mul_of_nonneg_right h2 (by omega)
  have u2 : N1 * e * G ≤ m * D1 * G := Int.mul_le_mul_of_nonneg_right (by omega) (by omega)
  have u3 : m * G * D1 < B * e * D1 := Int.mul_lt_mul_of_pos_right h4 p1
  have e1 : B * D1 * e = B * e * D1 := by rw [Int.mul_assoc, Int.mul_comm D1 e, ← Int.mul_assoc]
  have e2 : N1 * G * e = N1 * e * G := by rw [Int.mul_assoc, Int.mul_comm G e, ← Int.mul_assoc]
  have e3 : m * G * D1 = m * D1 * G := by rw [Int.mul_assoc, Int.mul_comm G D1, ← Int.mul_assoc]
  omega
/-- how often two points are swapped -/
def cnt (c : List Sw) (x y : Int) : Nat := c.countP fun z => z.2.2.1 == x && z.2.2.2 == y
theorem cnt_take (c : List Sw) (x y : Int) (k : Nat) (h : k < c.length) : cnt (c.take (k + 1)) x y = cnt (c.take k) x y + (if ((sg4 c k).2.2.1 == x && (sg4 c k).2.2.2 == y) = true then 1 else 0) := by
  unfold cnt sg4
  rw [List.take_add_one, List.getElem?_eq_getElem h, List.countP_append, List.getD_eq_getElem?_getD, List.getElem?_eq_getElem h]
  simp [List.countP_cons]
theorem cnt_le : ∀ (c : List Sw) (x y : Int), c.Pairwise (fun x y => x.2.2 ≠ y.2.2) → cnt c x y ≤ 1
  | [], _, _, _ => by simp [cnt]
  | z :: c, x, y, h => by
    rw [List.pairwise_cons] at h
    have ih := cnt_le c x y h.2
    unfold cnt at ih ⊢
    rw [List.countP_cons]
    split
    · rename_i hz
      have : c.countP (fun z => z.2.2.1 == x && z.2.2.2 == y) = 0 := by
        rw [List.countP_eq_zero]
        intro u hu hc
        simp only [Bool.and_eq_true, beq_iff_eq] at hz hc
        exact h.1 u hu (Prod.ext (hz.1.trans hc.1.symm) (hz.2.trans hc.2.symm))
      omega
    · omega
theorem cnt_swF (l : List Mo) (n d m e : Int) {a b : Nat} (ha : a < l.length) (hb : b < l.length) : cnt (swF l n d m e) a b = if isSw l n d m e a b then 1 else 0 := by
  have h1 := cnt_le (swF l n d m e) a b (ne_perm (sortE_perm _) (colP_ne l n d m e))
  split
  · rename_i hs
    have h2 : 0 < cnt (swF l n d m e) a b := by
      unfold cnt
      rw [List.countP_pos_iff]
      refine ⟨sw l a b, (mem_swF _ _ _ _ _ _).2 ⟨a, b, ha, hb, hs, rfl⟩, ?_⟩
      unfold sw
      simp
    omega
  · rename_i hs
    unfold cnt
    rw [List.countP_eq_zero]
    intro z hz hc
    obtain ⟨a', b', _, _, hs', rfl⟩ := (mem_swF _ _ _ _ _ _).1 hz
    unfold sw at hc
    simp at hc
    obtain ⟨e1, e2⟩ := hc
    have e1' : a' = a := by omega
    have e2' : b' = b := by omega
    subst e1'; subst e2'
    exact hs hs'
theorem pos_x (l : List Mo) (n d : Int) {a : Nat} (ha : a < l.length) (hl : l.length ≤ 100000) : ∃ i, i < l.length ∧ (ordF l n d).getD i 0 = a ∧ ∀ (S : Nat → Prop) (v : Value) (w : World), IR S w v (ordF l n d) → Calls Try.prog 37 #[v, .int .i64 (a : Int)] w fun e w' => e = .returned (.int .i64 (i : Int)) ∧ w' = w := by
  obtain ⟨i, hi, rfl⟩ := ordF_idx l n d ha
  refine ⟨i, hi, rfl, fun S v w hR => ?_⟩
  have hol := ordF_len l n d
  obtain ⟨a0, cap, rfl⟩ := hR.shape
  obtain ⟨g, off, rfl⟩ := hR.at_ (by omega)
  have hc : ∀ j, j < l.length → w.cell? ⟨g, off + j, none⟩ = some (.int .i64 (((ordF l n d).map Int.ofNat).getD j 0)) := fun j hj => by
    rw [hR.cell (by omega)]
    simp [List.getD_eq_getElem?_getD, List.getElem?_map, List.getElem?_eq_getElem (show j < (ordF l n d).length by omega)]
  have h := Try.slices_Index_int g off (ordF l n d).length cap ((ordF l n d).map Int.ofNat) ((ordF l n d).getD i 0 : Nat) w (by rw [List.length_map]; omega) (by omega) (fun j hj => hc j (by rw [List.length_map] at hj; omega))
  rw [Lib.idxOf_hit _ _ i _ (by omega) (by rw [List.length_map]; omega) ?_ ?_] at h
  · exact h
  · simp [List.getD_eq_getElem?_getD, List.getElem?_map, List.getElem?_eq_getElem (show i < (ordF l n d).length by omega)]
  · intro j hj e
    have hne := ordF_ne l n d hj hi
    apply hne
    simp [List.getD_eq_getElem?_getD, List.getElem?_map, List.getElem?_eq_getElem (show i < (ordF l n d).length by omega), List.getElem?_eq_getElem (show j < (ordF l n d).length by omega)] at e ⊢
    omega
theorem sw_pos (l : List Mo) (n d m e : Int) {i j p q : Nat} {x y : Nat} (hi : i < l.length) (hj : j < l.length) (hp : p < l.length) (hq : q < l.length) (e1 : (ordF l n d).getD i 0 = x) (e2 : (ordF l n d).getD j 0 = y) (e3 : (ordF l m e).getD p 0 = x) (e4 : (ordF l m e).getD q 0 = y) :
    isSw l n d m e x y = true ↔ i < j ∧ q < p := by
  rw [isSw_iff]
  constructor
  · rintro ⟨h1, h2⟩
    rw [← e1, ← e2] at h1
    have hij := ordF_pos l n d hi hj h1
    refine ⟨hij, ?_⟩
    rcases Nat.lt_trichotomy q p with h | h | h
    · exact h
    · exfalso
      have := ordF_ne l n d hij hj
      rw [e1, e2, ← e3, ← e4, h] at this
      exact this rfl
    · exfalso
      have := ordF_lt l m e h hq
      rw [e3, e4, h2] at this
      cases this
  · rintro ⟨h1, h2⟩
    refine ⟨by rw [← e1, ← e2]; exact ordF_lt l n d h1 hj, ?_⟩
    have := ordF_lt l m e h2 hp
    rw [e3, e4] at this
    exact lessK_asymm this

end Go.Proofs.Ytncnojhbdkhcjaa

/- Concat. -/
namespace Go.Proofs.Ytncnojhbdkhcjaa
open Go.RowKit Go.Hw Go
set_option linter.unusedVariables false
set_option linter.unusedSimpArgs false

theorem sCells_one (l : List Sw) : ∀ u ∈ sCells l, u.oneCell' = true := by
  intro u hu
  unfold sCells at hu
  rw [List.mem_flatMap] at hu
  obtain ⟨m, _, h⟩ := hu
  simp at h
  rcases h with rfl | rfl | rfl | rfl <;> rfl
theorem sCells_app (L M : List Sw) : sCells (L ++ M) = sCells L ++ sCells M := by
  unfold sCells
  rw [List.flatMap_append]
set_option maxRecDepth 100000 in
set_option maxHeartbeats 2000000 in
theorem grow_x (n : Nat) (w : World) (hn : n ≤ 100000) :
    Calls Try.prog 62 #[.slice none 0 0, .int .i64 (n : Int)] w fun e w' => ∃ r, e = .returned r ∧ w'.ownsRow w.heap.size 51 4 r 0 [] ∧ Ext w w' := by
  by_cases h0 : n = 0
  · subst h0
    have hrf := Lib.hid (Upd.refl (fun _ => False) w)
    go_enter Try.func62, Try.ntmps62
    go_wp2_with fail
    go_ret
    exact ⟨_, rfl, World.ownsRow_nil _ _ _ _, hrf.out⟩
  · obtain ⟨iS, hi, hz0, hz1, hz2⟩ := info_parts info51
    have hpos : 0 < n := by omega
    have hrz : ∀ ty, (Builtin.append_ #[48, 3] ty #[.slice none 0 0, .int .i64 (n : Int)]).run Try.prog w = .ok (.slice (some ⟨w.heap.size, 0, none⟩) n (grownCap w n 0 51)) (w.drew.alloc (.cells (Builtin.zeroCells (Value.agg #[.int .i64 0, .int .i64 0, .int .i64 0, .int .i64 0]).cells n ++ Builtin.zeroCells (Value.agg #[.int .i64 0, .int .i64 0, .int .i64 0, .int .i64 0]).cells (grownCap w n 0 51 - n)) 51)) := fun ty =>
      Lib.run_append_nil_zeros w 48 3 ty 51 iS (Value.agg #[.int .i64 0, .int .i64 0, .int .i64 0, .int .i64 0]) .i64 .i64 Try.underlying48 Try.underlying3 hi hz0 n hpos (by rw [hz1]; decide) (by omega) (by rw [hz2]; omega)
    have hG1 : n ≤ grownCap w n 0 51 := grownCap_ge w _ _ _
    have hG2 : grownCap w n 0 51 ≤ maxLen := grownCap_le_maxLen w n 0 51 (by unfold maxLen; omega)
    generalize grownCap w n 0 51 = G at *
    have HOW : Hid ((w.drew.alloc (.cells (Builtin.zeroCells (Value.agg #[.int .i64 0, .int .i64 0, .int .i64 0, .int .i64 0]).cells n ++ Builtin.zeroCells (Value.agg #[.int .i64 0, .int .i64 0, .int .i64 0, .int .i64 0]).cells (G - n)) 51)).ownsRow w.heap.size 51 4 (.slice (some ⟨w.heap.size, 0, none⟩) 0 G) 0 []) := Lib.hid ⟨rfl, .inr ⟨w.heap.size, G, _, rfl, Nat.le_refl _, alloc0 w.drew _, Nat.zero_le _, hG2, by
      have hs : ∀ k, (Builtin.zeroCells (Value.agg #[.int .i64 0, .int .i64 0, .int .i64 0, .int .i64 0]).cells k).size = k * 4 := fun k => by
        unfold Builtin.zeroCells
        rw [Array.size_map, Array.size_range]
        rfl
      rw [Array.size_append, hs, hs, ← Nat.add_mul]
      congr 1
      omega, by simp⟩⟩
    have HEX : Hid (Ext w (w.drew.alloc (.cells (Builtin.zeroCells (Value.agg #[.int .i64 0, .int .i64 0, .int .i64 0, .int .i64 0]).cells n ++ Builtin.zeroCells (Value.agg #[.int .i64 0, .int .i64 0, .int .i64 0, .int .i64 0]).cells (G - n)) 51))) := Lib.hid ((Upd.refl (fun _ => False) w).drew.alloc _)
    generalize (w.drew.alloc (.cells (Builtin.zeroCells (Value.agg #[.int .i64 0, .int .i64 0, .int .i64 0, .int .i64 0]).cells n ++ Builtin.zeroCells (Value.agg #[.int .i64 0, .int .i64 0, .int .i64 0, .int .i64 0]).cells (G - n)) 51)) = w2 at *
    have hG63 : G ≤ 9223372036854775807 := by unfold maxLen at hG2; omega
    have h1 : decide ((0 : Int) < (n : Int)) = true := decide_eq_true (by omega)
    have h2 : ¬ ((n : Int) < 0) := by omega
    have h3 : wrap64 ((n : Int)) = (n : Int) := by unfold wrap64; omega
    have h3' : IntKind.i64.wrap (n : Int) = (n : Int) := IntWalk.i64_in _ (by omega)
    clear hG2 hi hz0 hz1 hz2 h0
    go_enter Try.func62, Try.ntmps62
    go_wp2_with (at_builtin; refine Lib.wpList_append_run _ rfl _ _ _ _ rfl _ _ rfl rfl _ _ (hrz _) ?_)
    clear hrz
    go_wp2_with fail
    go_ret
    exact ⟨_, rfl, HOW.out, HEX.out⟩
def acc (L M : List Sw) (k : Nat) : List Sw := if k = 0 then [] else if k = 1 then L else L ++ M
set_option maxRecDepth 100000 in
set_option maxHeartbeats 2000000 in
theorem concat_x (g cap : Nat) (u v : Value) (L M : List Sw) (S T : Nat → Prop) (w : World) (c0 : w.cell? ⟨g, 0, none⟩ = some u) (c1 : w.cell? ⟨g, 1, none⟩ = some v) (hL : SwR S w u L) (hM : SwR T w v M) (hl : L.length ≤ 10000) (hm : M.length ≤ 10000) :
    Calls Try.prog 35 #[.slice (some ⟨g, 0, none⟩) 2 cap] w fun e w' => ∃ r, e = .returned r ∧ w'.ownsRow w.heap.size 51 4 r (L ++ M).length (sCells (L ++ M)) ∧ Ext w w' := by
  obtain ⟨a1, cp1, rfl⟩ := hL.shape
  obtain ⟨a2, cp2, rfl⟩ := hM.shape
  have HL := Lib.hid (And.intro hL hM)
  have HC := Lib.hid (And.intro c0 c1)
  have HGR := Lib.hid (grow_x (L.length + M.length) w (by omega))
  have HW0 := Lib.hid (Upd.refl (fun _ => False) w)
  clear hL hM
  have e1 : IntKind.i64.wrap (L.length : Int) = (L.length : Int) := IntWalk.i64_in _ (by omega)
  have e2 : IntKind.i64.wrap ((L.length : Int) + (M.length : Int)) = (L.length : Int) + (M.length : Int) := IntWalk.i64_in _ (by omega)
  have e3 : decide ((L.length : Int) < 0) = false := decide_eq_false (by omega)
  have e4 : decide ((L.length : Int) + (M.length : Int) < 0) = false := decide_eq_false (by omega)
  go_enter Try.func35, Try.ntmps35
  go_wp2_with fail
  go_loopg [3, 11] 2 (fun gk sv kv wr => ∃ k : Nat, kv = .int .i64 (k : Int) ∧ gk = 2 - k ∧ k ≤ 2 ∧ wr = w ∧ sv = .int .i64 (if k = 0 then 0 else if k = 1 then (L.length : Int) else (L.length : Int) + (M.length : Int)))
  case atStart => exact ⟨0, rfl, rfl, by omega, rfl, rfl⟩
  case round =>
    obtain ⟨k, rfl, rfl, hk, hwr, rfl⟩ := hrel
    have hwr2 := hwr.symm
    subst hwr2
    clear hwr
    have hk3 : k = 0 ∨ k = 1 ∨ k = 2 := by omega
    rcases hk3 with rfl | rfl | rfl
    · simp only [if_true]
      go_wp2_with fail
      go_roundg 1
      case measure => omega
      case rel => exact ⟨1, by go_num, rfl, by omega, rfl, rfl⟩
    · go_wp2_with fail
      go_roundg 0
      case measure => omega
      case rel => exact ⟨2, by go_num, rfl, by omega, rfl, rfl⟩
    · clear c0 c1
      go_wp2_with fail
      refine HGR.out.mono ?_
      rintro e w4 ⟨r, rfl, hO, hE⟩
      have HO4 := Lib.hid hO
      have HE4 := Lib.hid hE
      clear hO hE HGR
      go_wp2_with fail
      go_loopg [6, 27] 2 (fun gk sv kv ws => ∃ k : Nat, kv = .int .i64 (k : Int) ∧ gk = 2 - k ∧ k ≤ 2 ∧ Hid (Ext w ws) ∧ Hid (ws.ownsRow w.heap.size 51 4 sv (acc L M k).length (sCells (acc L M k))))
      case atStart => exact ⟨0, rfl, rfl, by omega, HE4, HO4⟩
      case round =>
        obtain ⟨k, rfl, rfl, hk, HE, HO⟩ := hrel
        have hk3 : k = 0 ∨ k = 1 ∨ k = 2 := by omega
        rcases hk3 with rfl | rfl | rfl
        · have HO1 : Hid (wr.ownsRow w.heap.size 51 4 u6 (0) ([])) := HO
          obtain ⟨a6, c6, hv6⟩ := own_shape HO1.out
          subst hv6
          have cc := HE.out.cell HC.out.1 (fun h => h)
          have hsl := SwR.ext HL.out.1 HE.out
          have hs := HE.out.size
          have HWW := Lib.hid (And.intro HE.out HO1.out.lt)
          obtain ⟨iS, hi, hz0, hz1, hz2⟩ := info_parts info51
          clear HO
          go_wp2_with (at_builtin; refine wpList_append_sl _ rfl (.tmp 31) (.tmp 32) 48 rfl w.heap.size 51 iS (Value.agg #[.int .i64 0, .int .i64 0, .int .i64 0, .int .i64 0]) 4 32 Try.underlying48 hi hz0 hz1 hz2 rfl (by decide) (.slice a6 (0) c6) (0) ([]) rfl HO1.out S (.slice a1 L.length cp1) L.length (sCells L) rfl hsl (sCells_one L) ?c3 ?c4 hs ?_)
          case c3 => unfold maxLen; omega
          case c4 => omega
          intro v10 w10 hG
          have HON := Lib.hid hG.own
          have HEN : Hid (Ext w w10) := Lib.hid (HWW.out.1.trans' hG.upd (fun i hi e => by have := (HWW.out.2 i e).1; omega))
          clear hG cc hsl hs hi hz0 hz1 hz2 HO1
          go_wp2_with fail
          go_roundg 1
          case measure => omega
          case rel => exact ⟨1, by go_num, rfl, by omega, HEN, Lib.hid HON.out⟩
        · have HO1 : Hid (wr.ownsRow w.heap.size 51 4 u6 (L.length) (sCells L)) := HO
          obtain ⟨a6, c6, hv6⟩ := own_shape HO1.out
          subst hv6
          have cc := HE.out.cell HC.out.2 (fun h => h)
          have hsl := SwR.ext HL.out.2 HE.out
          have hs := HE.out.size
          have HWW := Lib.hid (And.intro HE.out HO1.out.lt)
          obtain ⟨iS, hi, hz0, hz1, hz2⟩ := info_parts info51
          clear HO
          go_wp2_with (at_builtin; refine wpList_append_sl _ rfl (.tmp 31) (.tmp 32) 48 rfl w.heap.size 51 iS (Value.agg #[.int .i64 0, .int .i64 0, .int .i64 0, .int .i64 0]) 4 32 Try.underlying48 hi hz0 hz1 hz2 rfl (by decide) (.slice a6 (L.length) c6) (L.length) (sCells L) rfl HO1.out T (.slice a2 M.length cp2) M.length (sCells M) rfl hsl (sCells_one M) ?c3 ?c4 hs ?_)
          case c3 => unfold maxLen; omega
          case c4 => omega
          intro v10 w10 hG
          have HON := Lib.hid hG.own
          have HEN : Hid (Ext w w10) := Lib.hid (HWW.out.1.trans' hG.upd (fun i hi e => by have := (HWW.out.2 i e).1; omega))
          clear hG cc hsl hs hi hz0 hz1 hz2 HO1
          go_wp2_with fail
          go_roundg 0
          case measure => omega
          case rel => exact ⟨2, by go_num, rfl, by omega, HEN, Lib.hid (by have h := HON.out; rw [← List.length_append, ← sCells_app] at h; exact h)⟩
        · have HO1 : Hid (wr.ownsRow w.heap.size 51 4 u6 (L ++ M).length (sCells (L ++ M))) := HO
          clear HO
          go_wp2_with fail
          go_ret
          exact ⟨_, rfl, HO1.out, HE.out⟩

end Go.Proofs.Ytncnojhbdkhcjaa

/- Law of swaps. -/
namespace Go.Proofs.Ytncnojhbdkhcjaa
open Go.RowKit Go.Hw Go
set_option linter.unusedVariables false
set_option linter.unusedSimpArgs false
set_option maxRecDepth 100000 in
set_option maxHeartbeats 2000000 in
theorem swaps_x (l : List Mo) (n d m e0 : Int) (S : Nat → Prop) (v : Value) (w : World) (hR : MoR S w v l) (hS : ∀ k, S k → k < w.heap.size) :
    Calls Try.prog 5 #[v, .agg #[.int .i64 n, .int .i64 d], .agg #[.int .i64 m, .int .i64 e0]] w fun e w' => e = .returned (.bool true) ∧ Ext w w' := by
  have HRL := Lib.hid (And.intro hR hS)
  obtain ⟨a, cap, rfl⟩ := hR.shape
  have HAW := Lib.hid awake_x
  clear hR hS
  have HZ := Lib.hid (((Upd.refl (fun _ => False) w).alloc (.cells #[.int .i64 n, .int .i64 d] 25)).alloc (.cells #[.int .i64 m, .int .i64 e0] 25))
  have hb0 := allocOld (alloc0 w (.cells #[.int .i64 n, .int .i64 d] 25)) (.cells #[.int .i64 m, .int .i64 e0] 25)
  have hb1 := alloc_at (w.alloc (.cells #[.int .i64 n, .int .i64 d] 25)) (.cells #[.int .i64 m, .int .i64 e0] 25) (n := w.heap.size + 1) (by simp)
  have HL : Hid (((w.alloc (.cells #[.int .i64 n, .int .i64 d] 25)).alloc (.cells #[.int .i64 m, .int .i64 e0] 25)).heap.size = w.heap.size + 2) := Lib.hid (by simp)
  have HX : Hid (∀ W, Ext ((w.alloc (.cells #[.int .i64 n, .int .i64 d] 25)).alloc (.cells #[.int .i64 m, .int .i64 e0] 25)) W → W.cell? ⟨w.heap.size, 0, none⟩ = some (.int .i64 n) ∧ W.cell? ⟨w.heap.size, 1, none⟩ = some (.int .i64 d) ∧ W.cell? ⟨w.heap.size + 1, 0, none⟩ = some (.int .i64 m) ∧ W.cell? ⟨w.heap.size + 1, 1, none⟩ = some (.int .i64 e0)) := Lib.hid (fun W hW => ⟨cellRow (hW.heap hb0 (fun h => h)) 0 _ rfl, cellRow (hW.heap hb0 (fun h => h)) 1 _ rfl, cellRow (hW.heap hb1 (fun h => h)) 0 _ rfl, cellRow (hW.heap hb1 (fun h => h)) 1 _ rfl⟩)
  clear hb0 hb1
  have hle1 : w.heap.size ≤ w.heap.size + 1 := by omega
  obtain ⟨k00, k01, k10, k11⟩ := HX.out _ (Upd.refl _ _)
  by_cases h12 : 12 < l.length
  · have t1 : decide ((12 : Int) < (l.length : Int)) = true := decide_eq_true (by omega)
    have t1' : decide (12 < l.length) = true := decide_eq_true h12
    go_enter Try.func5, Try.ntmps5
    go_wp2_with fail
    refine (HAW.out _).mono ?_
    rintro e w4 ⟨rfl, hw4⟩
    have H4 := Lib.hid (hw4)
    clear hw4
    clear k00 k01 k10 k11
    obtain ⟨k00, k01, k10, k11⟩ := HX.out _ H4.out
    go_wp2_with fail
    go_ret
    exact ⟨rfl, HZ.out.ext H4.out⟩
  have t1 : decide ((12 : Int) < (l.length : Int)) = false := decide_eq_false (by omega)
  have t1' : decide (12 < l.length) = false := decide_eq_false h12
  have HL12 := Lib.hid (show l.length ≤ 12 by omega)
  clear h12
  have HMS := Lib.hid (fun W (hW : Ext w W) => rmots_x l S _ W (HRL.out.1.ext hW) (by have := HL12.out; omega))
  cases hm : mB l
  · rw [hm] at HMS
    go_enter Try.func5, Try.ntmps5
    go_wp2_with fail
    refine (HAW.out _).mono ?_
    rintro e w4 ⟨rfl, hw4⟩
    have H4 := Lib.hid (hw4)
    clear hw4
    clear k00 k01 k10 k11
    obtain ⟨k00, k01, k10, k11⟩ := HX.out _ H4.out
    go_wp2_with fail
    refine (HMS.out _ (HZ.out.ext H4.out)).mono ?_
    rintro e w5 ⟨rfl, hw5⟩
    have H5 := Lib.hid (H4.out.ext hw5)
    clear hw5
    clear k00 k01 k10 k11
    obtain ⟨k00, k01, k10, k11⟩ := HX.out _ H5.out
    go_wp2_with fail
    go_ret
    exact ⟨rfl, HZ.out.ext H5.out⟩
  rw [hm] at HMS
  have HT1 := Lib.hid (fun W => rtime_x n d W)
  cases ht1 : timeB n d
  · rw [ht1] at HT1
    clear hm
    go_enter Try.func5, Try.ntmps5
    go_wp2_with fail
    refine (HAW.out _).mono ?_
    rintro e w4 ⟨rfl, hw4⟩
    have H4 := Lib.hid (hw4)
    clear hw4
    clear k00 k01 k10 k11
    obtain ⟨k00, k01, k10, k11⟩ := HX.out _ H4.out
    go_wp2_with fail
    refine (HMS.out _ (HZ.out.ext H4.out)).mono ?_
    rintro e w5 ⟨rfl, hw5⟩
    have H5 := Lib.hid (H4.out.ext hw5)
    clear hw5
    clear k00 k01 k10 k11
    obtain ⟨k00, k01, k10, k11⟩ := HX.out _ H5.out
    go_wp2_with fail
    refine (HT1.out _).mono ?_
    rintro e w6 ⟨rfl, hw6⟩
    have H6 := Lib.hid (H5.out.ext hw6)
    clear hw6
    clear k00 k01 k10 k11
    obtain ⟨k00, k01, k10, k11⟩ := HX.out _ H6.out
    go_wp2_with fail
    go_ret
    exact ⟨rfl, HZ.out.ext H6.out⟩
  rw [ht1] at HT1
  have HT2 := Lib.hid (fun W => rtime_x m e0 W)
  cases ht2 : timeB m e0
  · rw [ht2] at HT2
    clear hm ht1
    go_enter Try.func5, Try.ntmps5
    go_wp2_with fail
    refine (HAW.out _).mono ?_
    rintro e w4 ⟨rfl, hw4⟩
    have H4 := Lib.hid (hw4)
    clear hw4
    clear k00 k01 k10 k11
    obtain ⟨k00, k01, k10, k11⟩ := HX.out _ H4.out
    go_wp2_with fail
    refine (HMS.out _ (HZ.out.ext H4.out)).mono ?_
    rintro e w5 ⟨rfl, hw5⟩
    have H5 := Lib.hid (H4.out.ext hw5)
    clear hw5
    clear k00 k01 k10 k11
    obtain ⟨k00, k01, k10, k11⟩ := HX.out _ H5.out
    go_wp2_with fail
    refine (HT1.out _).mono ?_
    rintro e w6 ⟨rfl, hw6⟩
    have H6 := Lib.hid (H5.out.ext hw6)
    clear hw6
    clear k00 k01 k10 k11
    obtain ⟨k00, k01, k10, k11⟩ := HX.out _ H6.out
    go_wp2_with fail
    refine (HT2.out _).mono ?_
    rintro e w7 ⟨rfl, hw7⟩
    have H7 := Lib.hid (H6.out.ext hw7)
    clear hw7
    clear k00 k01 k10 k11
    obtain ⟨k00, k01, k10, k11⟩ := HX.out _ H7.out
    go_wp2_with fail
    go_ret
    exact ⟨rfl, HZ.out.ext H7.out⟩
  rw [ht2] at HT2
  obtain ⟨hv1, hn0⟩ := (timeB_iff _ _).1 ht1
  obtain ⟨hv2, hm0⟩ := (timeB_iff _ _).1 ht2
  have HCP := Lib.hid (fun W => rcmp_ok n d m e0 W ⟨hv1, hv2⟩)
  have hcz : decide (0 < Lib.compareInt (n * e0) (m * d)) = decide (m * d < n * e0) := by
    rw [cmpI_of]
    by_cases h : n * e0 < m * d
    · simp [h]; omega
    · by_cases h2 : m * d < n * e0 <;> simp [h, h2]
  generalize Lib.compareInt (n * e0) (m * d) = Z at *
  by_cases hle : m * d < n * e0
  · rw [decide_eq_true hle] at hcz
    clear hm ht1 ht2 hv1 hv2 hn0 hm0 hle
    go_enter Try.func5, Try.ntmps5
    go_wp2_with fail
    refine (HAW.out _).mono ?_
    rintro e w4 ⟨rfl, hw4⟩
    have H4 := Lib.hid (hw4)
    clear hw4
    clear k00 k01 k10 k11
    obtain ⟨k00, k01, k10, k11⟩ := HX.out _ H4.out
    go_wp2_with fail
    refine (HMS.out _ (HZ.out.ext H4.out)).mono ?_
    rintro e w5 ⟨rfl, hw5⟩
    have H5 := Lib.hid (H4.out.ext hw5)
    clear hw5
    clear k00 k01 k10 k11
    obtain ⟨k00, k01, k10, k11⟩ := HX.out _ H5.out
    go_wp2_with fail
    refine (HT1.out _).mono ?_
    rintro e w6 ⟨rfl, hw6⟩
    have H6 := Lib.hid (H5.out.ext hw6)
    clear hw6
    clear k00 k01 k10 k11
    obtain ⟨k00, k01, k10, k11⟩ := HX.out _ H6.out
    go_wp2_with fail
    refine (HT2.out _).mono ?_
    rintro e w7 ⟨rfl, hw7⟩
    have H7 := Lib.hid (H6.out.ext hw7)
    clear hw7
    clear k00 k01 k10 k11
    obtain ⟨k00, k01, k10, k11⟩ := HX.out _ H7.out
    go_wp2_with fail
    refine (HCP.out _).mono ?_
    rintro e w8 ⟨rfl, hw8⟩
    have H8 := Lib.hid (H7.out.ext hw8)
    clear hw8
    clear k00 k01 k10 k11
    obtain ⟨k00, k01, k10, k11⟩ := HX.out _ H8.out
    go_wp2_with fail
    go_ret
    exact ⟨rfl, HZ.out.ext H8.out⟩
  rw [decide_eq_false hle] at hcz
  have HH := Lib.hid (show mB l = true ∧ timeB n d = true ∧ timeB m e0 = true ∧ n * e0 ≤ m * d ∧ (1 ≤ d ∧ 1 ≤ e0) ∧ 0 ≤ n ∧ 0 ≤ m from ⟨hm, ht1, ht2, by omega, ⟨(vf_bd hv1).2.1.1, (vf_bd hv2).2.1.1⟩, hn0, hm0⟩)
  have HMD := Lib.hid (fun W (hW : Ext w W) => made_ok l S (.slice a l.length cap) W (by have := HL12.out; omega) (HRL.out.1.ext hW) (fun k hk => Nat.lt_of_lt_of_le (HRL.out.2 k hk) hW.size) hm (by have := HL12.out; omega))
  clear hm ht1 ht2 hv1 hv2 hn0 hm0 hle
  go_enter Try.func5, Try.ntmps5
  go_wp2_with fail
  refine (HAW.out _).mono ?_
  rintro e w4 ⟨rfl, hw4⟩
  have H4 := Lib.hid (hw4)
  clear hw4
  clear k00 k01 k10 k11
  obtain ⟨k00, k01, k10, k11⟩ := HX.out _ H4.out
  go_wp2_with fail
  refine (HMS.out _ (HZ.out.ext H4.out)).mono ?_
  rintro e w5 ⟨rfl, hw5⟩
  have H5 := Lib.hid (H4.out.ext hw5)
  clear hw5
  clear k00 k01 k10 k11
  obtain ⟨k00, k01, k10, k11⟩ := HX.out _ H5.out
  go_wp2_with fail
  refine (HT1.out _).mono ?_
  rintro e w6 ⟨rfl, hw6⟩
  have H6 := Lib.hid (H5.out.ext hw6)
  clear hw6
  clear k00 k01 k10 k11
  obtain ⟨k00, k01, k10, k11⟩ := HX.out _ H6.out
  go_wp2_with fail
  refine (HT2.out _).mono ?_
  rintro e w7 ⟨rfl, hw7⟩
  have H7 := Lib.hid (H6.out.ext hw7)
  clear hw7
  clear k00 k01 k10 k11
  obtain ⟨k00, k01, k10, k11⟩ := HX.out _ H7.out
  go_wp2_with fail
  refine (HCP.out _).mono ?_
  rintro e w8 ⟨rfl, hw8⟩
  have H8 := Lib.hid (H7.out.ext hw8)
  clear hw8
  clear k00 k01 k10 k11
  obtain ⟨k00, k01, k10, k11⟩ := HX.out _ H8.out
  clear H4 H5 H6 H7 HT1 HT2 HCP HAW HMS
  go_wp2_with fail
  refine (HMD.out _ (HZ.out.ext H8.out)).mono ?_
  rintro e w9 ⟨kb, mv, ov, rfl, hL9, hf9, hw9⟩
  have H9 := Lib.hid (H8.out.ext hw9)
  have HK9 := Lib.hid hL9
  have HF9 := Lib.hid hf9
  clear hL9 hf9 hw9
  go_wp2_with fail
  refine (HMD.out _ (HZ.out.ext H9.out)).mono ?_
  rintro e w10 ⟨kc, mu, ou, rfl, hL10, hf10, hw10⟩
  have H10 := Lib.hid (H9.out.ext hw10)
  have HK10 := Lib.hid (HK9.out.ext hw10)
  have HC10 := Lib.hid hL10
  have HKC := Lib.hid (Array.getElem?_eq_some_iff.1 HC10.out.cell).1
  have HMV := Lib.hid (fun g (hg : mv.ownBlock = some g) => (HK9.out.mot.lt g hg).2)
  have HB10 := Lib.hid (show (∀ g, ov.ownBlock = some g → g < w10.heap.size) ∧ (w9.heap.size ≤ kc ∧ (∀ g, mu.ownBlock = some g → w9.heap.size ≤ g) ∧ ∀ g, ou.ownBlock = some g → w9.heap.size ≤ g) ∧ kb < w9.heap.size from ⟨fun g hg => (HK10.out.ord.lt g hg).2, hf10, (Array.getElem?_eq_some_iff.1 HK9.out.cell).1⟩)
  clear hL10 hf10 hw10 HMD
  go_wp2_with fail
  refine (OrderM_x w10 kb mv ov l 0 1 HK10.out).mono ?_
  rintro e w11 ⟨r11, rfl, hO11, hw11⟩
  obtain ⟨a11, c11, rfl⟩ := own_shape hO11
  have H11 := Lib.hid (H10.out.ext hw11)
  have HO11 := Lib.hid hO11
  have HK11 := Lib.hid (HK10.out.ext hw11)
  have HC11 := Lib.hid (HC10.out.ext hw11)
  have HS11 := Lib.hid hw11.size
  clear hO11 hw11
  obtain ⟨E, hE1, hE2, hNX⟩ := Next_u w11 kb mv ov l 0 1 HK11.out
  have HEE := Lib.hid (And.intro hE1 hE2)
  have HNX := Lib.hid (hNX _ (Upd.refl _ _))
  clear hE1 hE2 hNX
  obtain ⟨X, hX⟩ : ∃ X, bw (certF l 0 1) = X := ⟨_, rfl⟩
  rw [hX] at HNX
  have HXC := Lib.hid hX
  clear hX
  obtain ⟨x0, x1, x2, x3⟩ := X
  simp only at HNX
  go_wp2_with fail
  refine HNX.out.mono ?_
  rintro e w12 ⟨rfl, hw12⟩
  have HXB := Lib.hid (alloc0 w12 (.cells #[.int .i64 x0, .int .i64 x1, .int .i64 x2, .int .i64 x3] 51))
  have hw13 := hw12.alloc (.cells #[.int .i64 x0, .int .i64 x1, .int .i64 x2, .int .i64 x3] 51)
  have HSX := Lib.hid hw12.size
  have H13 := Lib.hid (H11.out.ext hw13)
  have HK13 := Lib.hid (HK11.out.ext hw13)
  have HC13 := Lib.hid (HC11.out.ext hw13)
  have HO13 := Lib.hid (own_kept HO11.out hw13 (fun _ _ h => h))
  have HAD1 := Lib.hid (adv_ok _ kb mv ov l 0 1 n d HK13.out HH.out.2.1 (by have := HH.out.2.2.2.2.2.1; omega))
  have HSX2 := Lib.hid (show w12.heap.size < (w12.alloc (.cells #[.int .i64 x0, .int .i64 x1, .int .i64 x2, .int .i64 x3] 51)).heap.size by simp)
  clear hw12 hw13 HNX HO11 HK10 HC10 HK11 HC11 HK9
  clear k00 k01 k10 k11
  obtain ⟨k00, k01, k10, k11⟩ := HX.out _ H13.out
  go_wp2_with fail
  generalize hw13 : w12.alloc (.cells #[.int .i64 x0, .int .i64 x1, .int .i64 x2, .int .i64 x3] 51) = w13 at *
  clear hw13
  obtain ⟨xb, hxb⟩ : ∃ xb, xb = w12.heap.size := ⟨_, rfl⟩
  rw [← hxb] at HXB HSX HSX2 ⊢
  clear hxb
  have HSZ := Lib.hid (show (((w.alloc (.cells #[.int .i64 n, .int .i64 d] 25)).alloc (.cells #[.int .i64 m, .int .i64 e0] 25)).heap.size ≤ kb ∧ kb < w9.heap.size) ∧ (w9.heap.size ≤ kc ∧ kc < w10.heap.size) ∧ w10.heap.size ≤ w11.heap.size ∧ (w11.heap.size ≤ xb ∧ xb < w13.heap.size) by
    have h1 := HF9.out.1
    have h2 := H8.out.size
    have h3 := HB10.out.2.1.1
    have h4 := (Array.getElem?_eq_some_iff.1 HC13.out.cell).1
    exact ⟨⟨by omega, HB10.out.2.2⟩, ⟨h3, HKC.out⟩, HS11.out, HSX.out, HSX2.out⟩)
  clear HF9 HKC HS11 HSX HSX2 H8 H9 H10 H11
  refine HAD1.out.mono ?_
  rintro e w14 ⟨r14, ov1, rfl, hO14, hK14, hov1, hU14⟩
  obtain ⟨a14, c14, rfl⟩ := own_shape hO14
  have hsz := HSZ.out
  have H14 := Lib.hid (H13.out.trans' hU14 (fun j hj h => by omega))
  have HK14 := Lib.hid hK14
  have HC14 := Lib.hid (HC13.out.kept hU14 (by omega) (fun g hg h => by have := HB10.out.2.1.2.1 g hg; omega) (fun g hg h => by have := HB10.out.2.1.2.2 g hg; omega))
  have HB14 := Lib.hid (own_kept HO13.out hU14 (fun g hg h => by have := (HO13.out.lt g hg).1; omega))
  have HX14 := Lib.hid (hU14.heap HXB.out (by omega))
  have HA14 := Lib.hid hO14
  have HAD2 := Lib.hid (adv_ok _ kb mv ov1 l n d m e0 HK14.out HH.out.2.2.1 HH.out.2.2.2.1)
  have HS14 := Lib.hid hU14.size
  clear hO14 hK14 hov1 hU14 hsz HAD1 HO13 HK13 HC13 HXB
  clear k00 k01 k10 k11
  obtain ⟨k00, k01, k10, k11⟩ := HX.out _ H14.out
  go_wp2_with fail
  refine HAD2.out.mono ?_
  rintro e w15 ⟨r15, ov2, rfl, hO15, hK15, hov2, hU15⟩
  obtain ⟨a15, c15, rfl⟩ := own_shape hO15
  have hsz := HSZ.out
  have hs14 := HS14.out
  have H15 := Lib.hid (H14.out.trans' hU15 (fun j hj h => by omega))
  have HK15 := Lib.hid hK15
  have HC15 := Lib.hid (HC14.out.kept hU15 (by omega) (fun g hg h => by have := HB10.out.2.1.2.1 g hg; omega) (fun g hg h => by have := HB10.out.2.1.2.2 g hg; omega))
  have HB15 := Lib.hid (own_kept HB14.out hU15 (fun g hg h => by have := (HB14.out.lt g hg).1; omega))
  have HX15 := Lib.hid (hU15.heap HX14.out (by omega))
  have HA15 := Lib.hid (own_kept HA14.out hU15 (fun g hg h => by have := (HA14.out.lt g hg).1; omega))
  have HO15 := Lib.hid hO15
  have HV15 := Lib.hid hov2
  have HAD3 := Lib.hid (adv_ok _ kc mu ou l 0 1 m e0 HC15.out HH.out.2.2.1 (by have := HH.out.2.2.2.2.2.2; omega))
  have HS15 := Lib.hid hU15.size
  clear hO15 hK15 hov2 hU15 hsz hs14 HAD2 HC14 HB14 HX14 HA14 HK14
  clear k00 k01 k10 k11
  obtain ⟨k00, k01, k10, k11⟩ := HX.out _ H15.out
  go_wp2_with fail
  refine HAD3.out.mono ?_
  rintro e w16 ⟨r16, ou2, rfl, hO16, hC16, hou2, hU16⟩
  obtain ⟨a16, c16, rfl⟩ := own_shape hO16
  have hsz := HSZ.out
  have hs14 := HS14.out
  have hs15 := HS15.out
  have H16 := Lib.hid (H15.out.trans' hU16 (fun j hj h => by omega))
  have HC16 := Lib.hid hC16
  have HK16 := Lib.hid (HK15.out.kept hU16 (by omega) (fun g hg h => by have := HMV.out g hg; omega) (fun g hg h => by have := HV15.out g hg; omega))
  have HB16 := Lib.hid (own_kept HB15.out hU16 (fun g hg h => by have := (HB15.out.lt g hg).1; omega))
  have HX16 := Lib.hid (hU16.heap HX15.out (by omega))
  have HA16 := Lib.hid (own_kept HA15.out hU16 (fun g hg h => by have := (HA15.out.lt g hg).1; omega))
  have HO16 := Lib.hid (own_kept HO15.out hU16 (fun g hg h => by have := (HO15.out.lt g hg).1; omega))
  have HR16 := Lib.hid hO16
  clear hO16 hC16 hou2 hU16 hsz hs14 hs15 HAD3 HC15 HB15 HX15 HA15 HO15 HK15 HS14 HS15 HV15 HB10 HMV
  go_wp2_with fail
  refine (OrderM_x w16 kb mv ov2 l m e0 HK16.out).mono ?_
  rintro e w17 ⟨r17, rfl, hO17, hw17⟩
  obtain ⟨a17, c17, rfl⟩ := own_shape hO17
  obtain ⟨C, hC⟩ : ∃ C, swF l 0 1 m e0 = C := ⟨_, rfl⟩
  have hsp : swF l 0 1 n d ++ swF l n d m e0 = C := by
    rw [← hC]
    have h := HH.out
    exact swF_split h.1 (by omega) h.2.2.2.2.1.1 h.2.2.2.2.1.2 (Int.le_refl 0) h.2.2.2.2.2.1 (by have := h.2.2.2.2.2.1; omega) h.2.2.2.1
  have hc1 : (swF l 0 1 n d).length ≤ 1000 ∧ (swF l n d m e0).length ≤ 1000 := by
    have h1 := swF_len l 0 1 n d
    have h2 := swF_len l n d m e0
    have h3 : l.length * l.length ≤ 12 * 12 := Nat.mul_le_mul HL12.out HL12.out
    omega
  have HNXT := Lib.hid (fun h => swap_next (l := l) (n := 0) (d := 1) (m := m) (e := e0) HH.out.1 (by omega) HH.out.2.2.2.2.1.2 (Int.le_refl 0) (by have := HH.out.2.2.2.2.2.2; omega) h)
  have HCNT := Lib.hid (fun a b ha hb => cnt_swF l 0 1 m e0 (a := a) (b := b) ha hb)
  have HSP := Lib.hid hsp
  have HCL := Lib.hid hc1
  have HCC := Lib.hid (show C.length ≤ 2000 by rw [← hsp, List.length_append]; omega)
  rw [hC] at HR16 HNXT HCNT ⊢
  clear hC hsp hc1
  have H17 := Lib.hid (H16.out.ext hw17)
  have HX17 := Lib.hid (hw17.heap HX16.out (fun h => h))
  have HC17 := Lib.hid (HC16.out.ext hw17)
  have HB17 := Lib.hid (own_kept HB16.out hw17 (fun _ _ h => h))
  have HA17 := Lib.hid (own_kept HA16.out hw17 (fun _ _ h => h))
  have HO17 := Lib.hid (own_kept HO16.out hw17 (fun _ _ h => h))
  have HR17 := Lib.hid (own_kept HR16.out hw17 (fun _ _ h => h))
  have HF17 := Lib.hid hO17
  clear hO17 hw17 HC16 HB16 HX16 HA16 HO16 HR16 HK16
  obtain ⟨A, hA⟩ : ∃ A, swF l 0 1 n d = A := ⟨_, rfl⟩
  obtain ⟨B, hB⟩ : ∃ B, swF l n d m e0 = B := ⟨_, rfl⟩
  rw [hA] at HSP HCL HA17 ⊢
  rw [hB] at HSP HCL HO17 ⊢
  clear hA hB
  have hal := (Upd.refl (fun _ => False) w17).alloc (.cells #[.slice a14 A.length c14, .slice a15 B.length c15] 48)
  have hbk := alloc0 w17 (.cells #[.slice a14 A.length c14, .slice a15 B.length c15] 48)
  have HCAT := Lib.hid (concat_x w17.heap.size 2 (.slice a14 A.length c14) (.slice a15 B.length c15) A B _ _ _ (cellRow hbk 0 _ rfl) (cellRow hbk 1 _ rfl) (SwR.own rfl (own_kept HA17.out hal (fun _ _ h => h))) (SwR.own rfl (own_kept HO17.out hal (fun _ _ h => h))) (by have := HCL.out.1; omega) (by have := HCL.out.2; omega))
  rw [HSP.out] at HCAT
  have HAL := Lib.hid hal
  clear hal hbk
  go_wp2_with fail
  refine HCAT.out.mono ?_
  rintro e w18 ⟨r18, rfl, hO18, hw18⟩
  obtain ⟨a18, c18, rfl⟩ := own_shape hO18
  have HW18 := Lib.hid (HAL.out.ext hw18)
  have HSM := Lib.hid (same_true C w18 _ _ (.slice a18 C.length c18) (.slice a16 C.length c16) (by have := HCC.out; omega) (SwR.own rfl hO18) (SwR.own rfl (own_kept HR17.out HW18.out (fun _ _ h => h))))
  clear hO18 hw18 HCAT HAL HA17 HO17
  go_wp2_with fail
  refine HSM.out.mono ?_
  rintro e w19 ⟨rfl, hw19⟩
  have HW19 := Lib.hid (HW18.out.ext hw19)
  clear hw19 HSM HW18
  go_wp2_with fail
  refine (OrderM_x w19 kc mu ou2 l m e0 (HC17.out.ext HW19.out)).mono ?_
  rintro e w20 ⟨r20, rfl, hO20, hw20⟩
  obtain ⟨a20, c20, rfl⟩ := own_shape hO20
  have HW20 := Lib.hid (HW19.out.ext hw20)
  have HEQ := Lib.hid (eqi_true (ordF l m e0) l.length w20 _ _ (.slice a17 l.length c17) (.slice a20 l.length c20) (ordF_len l m e0) (by have := HL12.out; omega) (own_kept HF17.out HW20.out (fun _ _ h => h)) hO20)
  clear hO20 hw20 HW19 HC17
  go_wp2_with fail
  refine HEQ.out.mono ?_
  rintro e w21 ⟨rfl, hw21⟩
  have HW21 := Lib.hid (HW20.out.ext hw21)
  have H21 := Lib.hid (H17.out.ext HW21.out)
  have HXB := Lib.hid (HW21.out.heap HX17.out (fun h => h))
  have HBF := Lib.hid (IR.own (ordF_len l 0 1) (own_kept HB17.out HW21.out (fun _ _ h => h)))
  have HAF := Lib.hid (IR.own (ordF_len l m e0) (own_kept HF17.out HW21.out (fun _ _ h => h)))
  have HCR := Lib.hid (SwR.own rfl (own_kept HR17.out HW21.out (fun _ _ h => h)))
  clear hw21 HW20 HEQ HW21 HX17 HB17 HF17 HR17 H17 H16 H15 H14 H13
  have tll : ((l.length : Int) != (l.length : Int)) = false := by simp
  clear k00 k01 k10 k11
  obtain ⟨k00, k01, k10, k11⟩ := HX.out _ H21.out
  go_upto_region 17 with fail
  go_cut [175] (fun s ww => s = .bool false ∧ Hid (Ext w21 ww))
  case first =>
    have x0' := cellRow HXB.out 0 (.int .i64 x0) rfl
    have x1' := cellRow HXB.out 1 (.int .i64 x1) rfl
    have hrf := Lib.hid (Upd.refl (fun _ => False) w21)
    rcases Nat.eq_zero_or_pos (certF l 0 1).length with hz | hz
    · obtain rfl := HEE.out.1 hz
      have hc0 : C.length = 0 := by
        rcases Nat.eq_zero_or_pos C.length with h | h
        · exact h
        · have := (HNXT.out h).1; omega
      have hc0' : ((C.length : Nat) : Int) = 0 := by omega
      clear hz hc0
      go_wp2_with fail
      go_meet
      exact ⟨rfl, hrf⟩
    · obtain rfl := HEE.out.2 hz
      have hok : okE (x0, x1, x2, x3) := by
        rw [← HXC.out]
        exact (best_le (certF_ok HH.out.1) (List.getElem_mem hz)).2.2
      have HV := Lib.hid (fun W => rvalid_x x0 x1 W)
      have hvf : vfB x0 x1 = true := hok
      rw [hvf] at HV
      have HCP := Lib.hid (fun W => rcmp_ok m e0 x0 x1 W ⟨((timeB_iff _ _).1 HH.out.2.2.1).1, hvf⟩)
      have hcz2 := cmpI_neg (m * x1) (x0 * e0)
      generalize Lib.compareInt (m * x1) (x0 * e0) = Z2 at *
      have HNX2 : Hid (0 < C.length → x0 * e0 ≤ m * x1) := Lib.hid (fun h => by have h2 := (HNXT.out h).2.2; rw [HXC.out] at h2; first | exact h2 | exact Int.not_lt.1 h2)
      clear hz hok hvf
      go_wp2_with fail
      refine (HV.out _).mono ?_
      rintro e w22 ⟨rfl, hw22⟩
      have H22 := Lib.hid hw22
      clear hw22 x0' x1' k00 k01 k10 k11
      have x0' := cellRow (H22.out.heap HXB.out (fun h => h)) 0 (.int .i64 x0) rfl
      have x1' := cellRow (H22.out.heap HXB.out (fun h => h)) 1 (.int .i64 x1) rfl
      obtain ⟨k00, k01, k10, k11⟩ := HX.out _ (H21.out.ext H22.out)
      by_cases hlt : m * x1 < x0 * e0
      · have hc0 : C.length = 0 := by
          rcases Nat.eq_zero_or_pos C.length with h | h
          · exact h
          · exact absurd hlt (Int.not_lt.2 (HNX2.out h))
        have hc0' : ((C.length : Nat) : Int) = 0 := by omega
        rw [decide_eq_true hlt] at hcz2
        clear hlt hc0
        go_wp2_with fail
        refine (HCP.out _).mono ?_
        rintro e w23 ⟨rfl, hw23⟩
        have H23 := Lib.hid (H22.out.ext hw23)
        clear hw23
        go_wp2_with fail
        go_meet
        exact ⟨rfl, H23⟩
      · rw [decide_eq_false hlt] at hcz2
        clear hlt
        go_wp2_with fail
        refine (HCP.out _).mono ?_
        rintro e w23 ⟨rfl, hw23⟩
        have H23 := Lib.hid (H22.out.ext hw23)
        clear hw23
        go_wp2_with fail
        go_meet
        exact ⟨rfl, H23⟩
  case rest =>
  obtain ⟨rfl, HWC⟩ := hcut
  have HBF2 := Lib.hid (HBF.out.ext HWC.out)
  have HAF2 := Lib.hid (HAF.out.ext HWC.out)
  have HCR2 := Lib.hid (SwR.ext HCR.out HWC.out)
  have HE2 := Lib.hid (H21.out.ext HWC.out)
  clear HBF HAF HCR HWC H21 k00 k01 k10 k11 HEE HXC HXB HNXT HSP HCL hcz tll
  go_wp2_with fail
  go_loopg [178] l.length (fun gk xv wr => ∃ x : Nat, xv = .int .i64 (x : Int) ∧ gk = l.length - x ∧ x ≤ l.length ∧ Hid (Ext wc wr))
  case atStart => exact ⟨0, rfl, rfl, Nat.zero_le _, Lib.hid (Upd.refl _ _)⟩
  case round =>
    obtain ⟨x, rfl, rfl, hx, HEX⟩ := hrel
    have hl12 := HL12.out
    by_cases hlx : x < l.length
    · have hx0 : (0 : Int) ≤ (x : Int) := by omega
      have hx1 : (x : Int) < (l.length : Int) := by omega
      go_wp2_with fail
      go_loopg [183] l.length (fun gk yv ws => ∃ y : Nat, yv = .int .i64 (y : Int) ∧ gk = l.length - y ∧ y ≤ l.length ∧ Hid (Ext wc ws))
      case atStart => exact ⟨0, rfl, rfl, Nat.zero_le _, HEX⟩
      case round =>
        clear HEX
        obtain ⟨y, rfl, rfl, hy, HEY⟩ := hrel
        by_cases hly : y < l.length
        · have hy0 : (0 : Int) ≤ (y : Int) := by omega
          have hy1 : (y : Int) < (l.length : Int) := by omega
          obtain ⟨i, hi, ei, hpi⟩ := pos_x l 0 1 hlx (by omega)
          obtain ⟨j, hj, ej, hpj⟩ := pos_x l 0 1 hly (by omega)
          obtain ⟨p, hp, ep, hpp⟩ := pos_x l m e0 hlx (by omega)
          obtain ⟨q, hq, eq, hpq⟩ := pos_x l m e0 hly (by omega)
          have HI := Lib.hid (hpi _ _ _ (HBF2.out.ext HEY.out))
          have HJ := Lib.hid (hpj _ _ _ (HBF2.out.ext HEY.out))
          have HP := Lib.hid (hpp _ _ _ (HAF2.out.ext HEY.out))
          have HQ := Lib.hid (hpq _ _ _ (HAF2.out.ext HEY.out))
          have hw := sw_pos l 0 1 m e0 hi hj hp hq ei ej ep eq
          have hn := HCNT.out x y hlx hly
          obtain ⟨b1, hb1⟩ : ∃ b, decide (i < j) = b := ⟨_, rfl⟩
          obtain ⟨b2, hb2⟩ : ∃ b, decide (q < p) = b := ⟨_, rfl⟩
          have hsw : isSw l 0 1 m e0 x y = (b1 && b2) := by
            rw [Bool.eq_iff_iff, hw, Bool.and_eq_true, ← hb1, ← hb2, decide_eq_true_eq, decide_eq_true_eq]
          rw [hsw] at hn
          have HN := Lib.hid hn
          have tw1 : decide ((i : Int) < (j : Int)) = b1 := by rw [← hb1]; exact decide_eq_decide.2 Int.ofNat_lt
          have tw2 : decide ((q : Int) < (p : Int)) = b2 := by rw [← hb2]; exact decide_eq_decide.2 Int.ofNat_lt
          have ti : decide ((i : Int) < 0) = false := decide_eq_false (by omega)
          have tj : decide ((j : Int) < 0) = false := decide_eq_false (by omega)
          have tp : decide ((p : Int) < 0) = false := decide_eq_false (by omega)
          have tq : decide ((q : Int) < 0) = false := decide_eq_false (by omega)
          have HTW := Lib.hid (And.intro tw1 tw2)
          clear hpi hpj hpp hpq hw hn hsw hi hj hp hq ei ej ep eq hb1 hb2 tw1 tw2
          generalize ((i : Nat) : Int) = I at *
          generalize ((j : Nat) : Int) = J at *
          generalize ((p : Nat) : Int) = P at *
          generalize ((q : Nat) : Int) = Q at *
          go_wp2_with fail
          refine HI.out.mono ?_
          rintro e w4 ⟨rfl, rfl⟩
          go_wp2_with fail
          refine HJ.out.mono ?_
          rintro e w5 ⟨rfl, rfl⟩
          go_wp2_with fail
          refine HP.out.mono ?_
          rintro e w6 ⟨rfl, rfl⟩
          go_wp2_with fail
          refine HQ.out.mono ?_
          rintro e w7 ⟨rfl, rfl⟩
          clear HI HJ HP HQ
          go_wp2_with fail
          go_loopg [27, 214] C.length (fun gk nv kv wz => ∃ k N : Nat, nv = .int .i64 (N : Int) ∧ kv = .int .i64 (k : Int) ∧ gk = C.length - k ∧ k ≤ C.length ∧ N ≤ k ∧ Hid (cnt (C.take k) x y = N) ∧ Hid (Ext wc wz))
          case atStart => exact ⟨0, 0, rfl, rfl, rfl, Nat.zero_le _, Nat.le_refl _, Lib.hid (by simp [cnt]), HEY⟩
          case round =>
            clear HEY ti tj tp tq
            obtain ⟨k, N, rfl, rfl, rfl, hk, hNk, HNK, HEZ⟩ := hrel
            have hcc := HCC.out
            by_cases hlk : k < C.length
            · have hR := SwR.ext HCR2.out HEZ.out
              obtain ⟨g7, o7, rfl⟩ := hR.at_ (by omega)
              obtain ⟨j0, j1, j2, j3⟩ := hR.cells hlk
              have HNT := Lib.hid (cnt_take C x y k hlk)
              rw [HNK.out] at HNT
              have hk0 : (0 : Int) ≤ (k : Int) := by omega
              have hk1 : (k : Int) < (C.length : Int) := by omega
              generalize sg4 C k = z at *
              obtain ⟨z0, z1, z2, z3⟩ := z
              simp only at j0 j1 j2 j3 HNT
              have hbz := alloc0 wr (.cells #[.int .i64 z0, .int .i64 z1, .int .i64 z2, .int .i64 z3] 51)
              have f2 := cellRow hbz 2 (.int .i64 z2) rfl
              have f3 := cellRow hbz 3 (.int .i64 z3) rfl
              have HEN := Lib.hid (HEZ.out.alloc (.cells #[.int .i64 z0, .int .i64 z1, .int .i64 z2, .int .i64 z3] 51))
              clear hR hbz HTW
              generalize ((x : Nat) : Int) = X at *
              generalize ((y : Nat) : Int) = Y at *
              cases c1 : (z2 == X)
              · have HN2 : Hid (cnt (C.take (k + 1)) X Y = N) := Lib.hid (by rw [HNT.out, c1]; rfl)
                go_wp2_with fail
                go_roundg (C.length - (k + 1))
                case measure => omega
                case rel => exact ⟨k + 1, N, rfl, by go_num, rfl, by omega, by omega, HN2, HEN⟩
              · cases c2 : (z3 == Y)
                · have HN2 : Hid (cnt (C.take (k + 1)) X Y = N) := Lib.hid (by rw [HNT.out, c1, c2]; rfl)
                  go_wp2_with fail
                  go_roundg (C.length - (k + 1))
                  case measure => omega
                  case rel => exact ⟨k + 1, N, rfl, by go_num, rfl, by omega, by omega, HN2, HEN⟩
                · have HN2 : Hid (cnt (C.take (k + 1)) X Y = N + 1) := Lib.hid (by rw [HNT.out, c1, c2]; rfl)
                  go_wp2_with fail
                  go_roundg (C.length - (k + 1))
                  case measure => omega
                  case rel => exact ⟨k + 1, N + 1, by go_num, by go_num, rfl, by omega, by omega, HN2, HEN⟩
            · obtain rfl : k = C.length := by omega
              have hN : N = if (b1 && b2) = true then 1 else 0 := by
                rw [← HNK.out, List.take_length]
                exact HN.out
              obtain ⟨tw1, tw2⟩ := HTW.out
              clear HTW HNK HN hNk
              replace hN := Lib.hid hN
              cases b1 <;> cases b2
              · obtain rfl : N = 0 := hN.out
                go_wp2_with fail
                go_roundg (l.length - (y + 1))
                case measure => omega
                case rel => exact ⟨y + 1, by go_num, rfl, by omega, HEZ⟩
              · obtain rfl : N = 0 := hN.out
                go_wp2_with fail
                go_roundg (l.length - (y + 1))
                case measure => omega
                case rel => exact ⟨y + 1, by go_num, rfl, by omega, HEZ⟩
              · obtain rfl : N = 0 := hN.out
                go_wp2_with fail
                go_roundg (l.length - (y + 1))
                case measure => omega
                case rel => exact ⟨y + 1, by go_num, rfl, by omega, HEZ⟩
              · obtain rfl : N = 1 := hN.out
                go_wp2_with fail
                go_roundg (l.length - (y + 1))
                case measure => omega
                case rel => exact ⟨y + 1, by go_num, rfl, by omega, HEZ⟩
        · obtain rfl : y = l.length := by omega
          go_wp2_with fail
          go_roundg (l.length - (x + 1))
          case measure => omega
          case rel => exact ⟨x + 1, by go_num, rfl, by omega, HEY⟩
    · obtain rfl : x = l.length := by omega
      go_wp2_with fail
      go_ret
      exact ⟨rfl, HZ.out.ext (HE2.out.ext HEX.out)⟩

end Go.Proofs.Ytncnojhbdkhcjaa
