/- The texts KP5 K38 K39 K40 K41 K42 K43 K44, one behind the other. -/
import Derived.Test.YtncnojhbdkhcjaaZF
import Derived.BigQuiet
import Derived.Test.YtncnojhbdkhcjaaZE
import Derived.Handy
import Derived.Test.YtncnojhbdkhcjaaZH
import Derived.Test.YtncnojhbdkhcjaaZG
/- Insertion of swaps. -/
namespace Go.Proofs.Ytncnojhbdkhcjaa
open Go.RowKit Go.Hw Go
set_option linter.unusedVariables false
set_option linter.unusedSimpArgs false

section
variable {α : Type} (z : α)
/-- the row while x is being put into its place -/
def insG (A : List α) (x : α) (k : Nat) : List α := A.take k ++ x :: A.drop k
theorem insG_len (A : List α) (x : α) (k : Nat) (h : k ≤ A.length) : (insG A x k).length = A.length + 1 := by
  unfold insG; simp; omega
theorem insG_end (A : List α) (x : α) : insG A x A.length = A ++ [x] := by unfold insG; simp
theorem insG_at (A : List α) (x : α) (k : Nat) (h : k ≤ A.length) : (insG A x k).getD k z = x := by
  unfold insG
  rw [List.getD_eq_getElem?_getD, List.getElem?_append_right (by simp; omega)]
  simp [Nat.min_eq_left h]
theorem insG_pred (A : List α) (x : α) (k : Nat) (h : k + 1 ≤ A.length) : (insG A x (k + 1)).getD k z = A.getD k z := by
  unfold insG
  rw [List.getD_eq_getElem?_getD, List.getElem?_append_left (by simp; omega), List.getElem?_take_of_lt (by omega), List.getD_eq_getElem?_getD]
theorem insG_step (A : List α) (x : α) (k : Nat) (h : k + 1 ≤ A.length) : ((insG A x (k + 1)).set k x).set (k + 1) (A.getD k z) = insG A x k := by
  unfold insG
  apply List.ext_getElem?
  intro i
  have hk : k < A.length := by omega
  simp only [List.getElem?_set, List.length_set, List.length_append, List.length_take, List.length_cons, List.length_drop, List.getD_eq_getElem?_getD, List.getElem?_eq_getElem hk, Option.getD_some]
  by_cases h1 : k + 1 = i
  · subst h1
    rw [if_pos rfl, if_pos (by omega), List.getElem?_append_right (by simp; omega)]
    simp only [List.length_take, Nat.min_eq_left (Nat.le_of_lt hk)]
    rw [show k + 1 - k = 1 by omega]
    simp [hk]
  · rw [if_neg h1]
    by_cases h2 : k = i
    · subst h2
      rw [if_pos rfl, if_pos (by omega), List.getElem?_append_right (by simp; omega)]
      simp [Nat.min_eq_left (Nat.le_of_lt hk)]
    · rw [if_neg h2]
      by_cases h3 : i < k
      · rw [List.getElem?_append_left (by simp; omega), List.getElem?_append_left (by simp; omega), List.getElem?_take_of_lt (by omega), List.getElem?_take_of_lt h3]
      · rw [List.getElem?_append_right (by simp; omega), List.getElem?_append_right (by simp; omega)]
        simp only [List.length_take, Nat.min_eq_left (Nat.le_of_lt hk), Nat.min_eq_left h]
        rw [show i - (k + 1) = (i - k - 2) + 1 by omega, show i - k = (i - k - 1) + 1 by omega, List.getElem?_cons_succ, List.getElem?_cons_succ, List.getElem?_drop, List.getElem?_drop]
        congr 1
        omega
theorem insG_perm (A : List α) (x : α) (k : Nat) : (insG A x k).Perm (x :: A) := by
  unfold insG
  have h1 : (A.take k ++ x :: A.drop k).Perm (x :: (A.take k ++ A.drop k)) := List.perm_middle
  rw [List.take_append_drop] at h1
  exact h1
end
/-- in its place -/
theorem insG_sorted {A : List Sw} {x : Sw} {k : Nat} (hs : A.Pairwise (fun a b => earl a b = true)) (hok : ∀ a ∈ A, okE a) (hx : okE x) (hne : ∀ a ∈ A, a.2.2 ≠ x.2.2) (hk : k ≤ A.length)
    (hu : ∀ a ∈ A.drop k, earl x a = true) (hd : k = 0 ∨ earl x (sg4 A (k - 1)) = false) : (insG A x k).Pairwise (fun a b => earl a b = true) := by
  unfold insG
  have hlow : ∀ a ∈ A.take k, earl a x = true := by
    intro a ha
    rcases hd with h0 | h0
    · subst h0; simp at ha
    · rcases Nat.eq_zero_or_pos k with hz | hz
      · subst hz; simp at ha
      · have hk1 : k - 1 < A.length := by omega
        have hg : sg4 A (k - 1) = A[k - 1] := by unfold sg4; rw [List.getD_eq_getElem?_getD, List.getElem?_eq_getElem hk1]; rfl
        have hmem : sg4 A (k - 1) ∈ A := by rw [hg]; exact List.getElem_mem hk1
        have hlast : earl (sg4 A (k - 1)) x = true := by
          rcases earl_tot _ _ (hne _ hmem) with h | h
          · exact h
          · rw [h] at h0; cases h0
        obtain ⟨i, hi, rfl⟩ := List.mem_iff_getElem.1 ha
        have hi2 : i < k := by simp at hi; omega
        rw [List.getElem_take]
        rcases Nat.lt_or_ge i (k - 1) with h | h
        · have h3 := List.pairwise_iff_getElem.1 hs i (k - 1) (by omega) hk1 h
          rw [← hg] at h3
          exact earl_trans (okE_pos (hok _ (List.getElem_mem _))) (okE_pos (hok _ hmem)) (okE_pos hx) h3 hlast
        · have he : i = k - 1 := by omega
          subst he
          rw [hg] at hlast
          exact hlast
  rw [← List.take_append_drop k A, List.pairwise_append] at hs
  obtain ⟨s1, s2, s3⟩ := hs
  rw [List.pairwise_append]
  refine ⟨s1, List.pairwise_cons.2 ⟨hu, s2⟩, ?_⟩
  intro a ha b hb
  rcases List.mem_cons.1 hb with rfl | hb
  · exact hlow a ha
  · exact s3 a ha b hb
theorem insG_up {A : List Sw} {x : Sw} {k : Nat} (hk : k + 1 ≤ A.length) (hu : ∀ a ∈ A.drop (k + 1), earl x a = true) (h : earl x (sg4 A k) = true) : ∀ a ∈ A.drop k, earl x a = true := by
  intro a ha
  rw [List.drop_eq_getElem_cons (by omega : k < A.length)] at ha
  rcases List.mem_cons.1 ha with rfl | ha
  · unfold sg4 at h; rw [List.getD_eq_getElem?_getD, List.getElem?_eq_getElem (by omega : k < A.length)] at h; exact h
  · exact hu a ha
/-- what the reference has found so far -/
def refIn (l : List Mo) (n d m e : Int) (a b : Nat) (A : List Sw) : Prop := ∀ y, y ∈ A ↔ ∃ a' b', (a' < a ∨ (a' = a ∧ b' < b)) ∧ b' < l.length ∧ isSw l n d m e a' b' = true ∧ y = sw l a' b'
theorem refIn_zero (l : List Mo) (n d m e : Int) : refIn l n d m e 0 0 [] := fun y => by
  constructor
  · intro h; cases h
  · rintro ⟨a', b', h, _⟩; omega
theorem refIn_row {l : List Mo} {n d m e : Int} {a : Nat} {A : List Sw} (h : refIn l n d m e a l.length A) : refIn l n d m e (a + 1) 0 A := fun y => by
  rw [h y]
  constructor
  · rintro ⟨a', b', h1, h2, h3⟩
    exact ⟨a', b', by omega, h2, h3⟩
  · rintro ⟨a', b', h1, h2, h3⟩
    exact ⟨a', b', by omega, h2, h3⟩
theorem refIn_skip {l : List Mo} {n d m e : Int} {a b : Nat} {A : List Sw} (h : refIn l n d m e a b A) (hs : isSw l n d m e a b = false) : refIn l n d m e a (b + 1) A := fun y => by
  rw [h y]
  constructor
  · rintro ⟨a', b', h1, h2, h3⟩
    exact ⟨a', b', by omega, h2, h3⟩
  · rintro ⟨a', b', h1, h2, h3, h4⟩
    refine ⟨a', b', ?_, h2, h3, h4⟩
    by_cases e1 : a' = a ∧ b' = b
    · obtain ⟨rfl, rfl⟩ := e1
      rw [hs] at h3; cases h3
    · omega
theorem refIn_add {l : List Mo} {n d m e : Int} {a b k : Nat} {A : List Sw} (h : refIn l n d m e a b A) (hb : b < l.length) (hs : isSw l n d m e a b = true) : refIn l n d m e a (b + 1) (insG A (sw l a b) k) := fun y => by
  rw [(insG_perm A (sw l a b) k).mem_iff, List.mem_cons, h y]
  constructor
  · rintro (rfl | ⟨a', b', h1, h2, h3⟩)
    · exact ⟨a, b, by omega, hb, hs, rfl⟩
    · exact ⟨a', b', by omega, h2, h3⟩
  · rintro ⟨a', b', h1, h2, h3, h4⟩
    by_cases e1 : a' = a ∧ b' = b
    · obtain ⟨rfl, rfl⟩ := e1
      exact .inl h4
    · exact .inr ⟨a', b', by omega, h2, h3, h4⟩
theorem refIn_ne {l : List Mo} {n d m e : Int} {a b : Nat} {A : List Sw} (h : refIn l n d m e a b A) : ∀ y ∈ A, y.2.2 ≠ (sw l a b).2.2 := fun y hy he => by
  obtain ⟨a', b', h1, h2, h3, rfl⟩ := (h y).1 hy
  simp only [sw, Prod.mk.injEq] at he
  omega
theorem refIn_ok {l : List Mo} {n d m e : Int} {a b : Nat} {A : List Sw} (hm : mB l = true) (hd : 1 ≤ d) (he : 1 ≤ e) (hn : 0 ≤ n) (hle : n * e ≤ m * d) (h : refIn l n d m e a b A) : ∀ y ∈ A, okE y := fun y hy => by
  obtain ⟨a', b', h1, h2, h3, rfl⟩ := (h y).1 hy
  exact sw_ok hm hd he hn hle h3
theorem refIn_end {l : List Mo} {n d m e : Int} {A : List Sw} (hm : mB l = true) (hd : 1 ≤ d) (he : 1 ≤ e) (hn : 0 ≤ n) (hle : n * e ≤ m * d) (h : refIn l n d m e l.length 0 A) (hs : A.Pairwise (fun a b => earl a b = true)) : A = swF l n d m e :=
  sorted_ext (refIn_ok hm hd he hn hle h) hs (swF_sorted hm hd he hn hle) (fun x => by
    rw [h x, mem_swF]
    constructor
    · rintro ⟨a', b', h1, h2, h3⟩
      exact ⟨a', b', by omega, h2, h3⟩
    · rintro ⟨a', b', h1, h2, h3⟩
      exact ⟨a', b', by omega, h2, h3⟩)

end Go.Proofs.Ytncnojhbdkhcjaa

/- earlier. -/
namespace Go.Proofs.Ytncnojhbdkhcjaa
open Go.RowKit Go.Hw Go
set_option linter.unusedVariables false
set_option linter.unusedSimpArgs false
set_option maxRecDepth 100000 in
set_option maxHeartbeats 2000000 in
theorem earlier_x (x y : Sw) (w : World) (hx : okE x) (hy : okE y) : Calls Try.prog 61 #[.agg #[.int .i64 x.1, .int .i64 x.2.1, .int .i64 x.2.2.1, .int .i64 x.2.2.2], .agg #[.int .i64 y.1, .int .i64 y.2.1, .int .i64 y.2.2.1, .int .i64 y.2.2.2]] w fun e w' => e = .returned (.bool (earl x y)) ∧ Ext w w' := by
  obtain ⟨p0, p1, p2, p3⟩ := x
  obtain ⟨q0, q1, q2, q3⟩ := y
  have HC : Hid (∀ W, Calls Try.prog 30 #[.agg #[.int .i64 p0, .int .i64 p1], .agg #[.int .i64 q0, .int .i64 q1]] W fun e w' => e = .returned (.int .i64 (Lib.compareInt (p0 * q1) (q0 * p1))) ∧ Ext W w') := Lib.hid (fun W => rcmp_ok p0 p1 q0 q1 W ⟨hx, hy⟩)
  unfold earl
  simp only
  rw [cmpI_of] at HC
  clear hx hy
  have HZ := Lib.hid (((Upd.refl (fun _ => False) w).alloc (.cells #[.int .i64 p0, .int .i64 p1, .int .i64 p2, .int .i64 p3] 51)).alloc (.cells #[.int .i64 q0, .int .i64 q1, .int .i64 q2, .int .i64 q3] 51))
  have hb0 := allocOld (alloc0 w (.cells #[.int .i64 p0, .int .i64 p1, .int .i64 p2, .int .i64 p3] 51)) (.cells #[.int .i64 q0, .int .i64 q1, .int .i64 q2, .int .i64 q3] 51)
  have hb1 := alloc_at (w.alloc (.cells #[.int .i64 p0, .int .i64 p1, .int .i64 p2, .int .i64 p3] 51)) (.cells #[.int .i64 q0, .int .i64 q1, .int .i64 q2, .int .i64 q3] 51) (n := w.heap.size + 1) (by simp)
  have HL : Hid (((w.alloc (.cells #[.int .i64 p0, .int .i64 p1, .int .i64 p2, .int .i64 p3] 51)).alloc (.cells #[.int .i64 q0, .int .i64 q1, .int .i64 q2, .int .i64 q3] 51)).heap.size = w.heap.size + 2) := Lib.hid (by simp)
  have HX : Hid (∀ W, Ext ((w.alloc (.cells #[.int .i64 p0, .int .i64 p1, .int .i64 p2, .int .i64 p3] 51)).alloc (.cells #[.int .i64 q0, .int .i64 q1, .int .i64 q2, .int .i64 q3] 51)) W → W.cell? ⟨w.heap.size, 0, none⟩ = some (.int .i64 p0) ∧ W.cell? ⟨w.heap.size, 1, none⟩ = some (.int .i64 p1) ∧ W.cell? ⟨w.heap.size, 2, none⟩ = some (.int .i64 p2) ∧ W.cell? ⟨w.heap.size, 3, none⟩ = some (.int .i64 p3) ∧ W.cell? ⟨w.heap.size + 1, 0, none⟩ = some (.int .i64 q0) ∧ W.cell? ⟨w.heap.size + 1, 1, none⟩ = some (.int .i64 q1) ∧ W.cell? ⟨w.heap.size + 1, 2, none⟩ = some (.int .i64 q2) ∧ W.cell? ⟨w.heap.size + 1, 3, none⟩ = some (.int .i64 q3)) := Lib.hid (fun W hW => ⟨cellRow (hW.heap hb0 (fun h => h)) 0 _ rfl, cellRow (hW.heap hb0 (fun h => h)) 1 _ rfl, cellRow (hW.heap hb0 (fun h => h)) 2 _ rfl, cellRow (hW.heap hb0 (fun h => h)) 3 _ rfl, cellRow (hW.heap hb1 (fun h => h)) 0 _ rfl, cellRow (hW.heap hb1 (fun h => h)) 1 _ rfl, cellRow (hW.heap hb1 (fun h => h)) 2 _ rfl, cellRow (hW.heap hb1 (fun h => h)) 3 _ rfl⟩)
  clear hb0 hb1
  have hle1 : w.heap.size ≤ w.heap.size + 1 := by omega
  obtain ⟨k00, k01, k02, k03, k10, k11, k12, k13⟩ := HX.out _ (Upd.refl _ _)
  rcases Int.lt_trichotomy (p0 * q1) (q0 * p1) with h | h | h
  · rw [if_pos h] at HC
    rw [if_neg (by omega), decide_eq_true h]
    clear h
    go_enter Try.func61, Try.ntmps61
    go_wp2_with fail
    refine (HC.out _).mono ?_
    rintro e w4 ⟨rfl, hw4⟩
    have H4 := Lib.hid (hw4)
    clear hw4
    clear k00 k01 k02 k03 k10 k11 k12 k13
    obtain ⟨k00, k01, k02, k03, k10, k11, k12, k13⟩ := HX.out _ H4.out
    go_wp2_with fail
    go_ret
    exact ⟨rfl, HZ.out.ext H4.out⟩
  · rw [if_neg (by omega), if_neg (by omega)] at HC
    rw [if_pos h]
    clear h
    by_cases h2 : p2 = q2
    · subst h2
      rw [if_pos rfl]
      generalize hb : decide (p3 < q3) = B
      go_enter Try.func61, Try.ntmps61
      go_wp2_with fail
      refine (HC.out _).mono ?_
      rintro e w4 ⟨rfl, hw4⟩
      have H4 := Lib.hid (hw4)
      clear hw4
      clear k00 k01 k02 k03 k10 k11 k12 k13
      obtain ⟨k00, k01, k02, k03, k10, k11, k12, k13⟩ := HX.out _ H4.out
      go_wp2_with fail
      go_ret
      exact ⟨rfl, HZ.out.ext H4.out⟩
    · rw [if_neg h2]
      have t1 : (p2 != q2) = true := by simpa using h2
      generalize hb : decide (p2 < q2) = B
      clear h2
      go_enter Try.func61, Try.ntmps61
      go_wp2_with fail
      refine (HC.out _).mono ?_
      rintro e w4 ⟨rfl, hw4⟩
      have H4 := Lib.hid (hw4)
      clear hw4
      clear k00 k01 k02 k03 k10 k11 k12 k13
      obtain ⟨k00, k01, k02, k03, k10, k11, k12, k13⟩ := HX.out _ H4.out
      go_wp2_with fail
      go_ret
      exact ⟨rfl, HZ.out.ext H4.out⟩
  · rw [if_neg (by omega), if_pos h] at HC
    rw [if_neg (by omega), decide_eq_false (by omega)]
    clear h
    go_enter Try.func61, Try.ntmps61
    go_wp2_with fail
    refine (HC.out _).mono ?_
    rintro e w4 ⟨rfl, hw4⟩
    have H4 := Lib.hid (hw4)
    clear hw4
    clear k00 k01 k02 k03 k10 k11 k12 k13
    obtain ⟨k00, k01, k02, k03, k10, k11, k12, k13⟩ := HX.out _ H4.out
    go_wp2_with fail
    go_ret
    exact ⟨rfl, HZ.out.ext H4.out⟩


end Go.Proofs.Ytncnojhbdkhcjaa

/- Swaps of the reference. -/
namespace Go.Proofs.Ytncnojhbdkhcjaa
open Go.RowKit Go.Hw Go
set_option linter.unusedVariables false
set_option linter.unusedSimpArgs false
set_option maxRecDepth 100000 in
set_option maxHeartbeats 2000000 in
theorem rswaps_x (l : List Mo) (n d m e0 : Int) (S : Nat → Prop) (v : Value) (w : World) (hl2 : l.length ≤ 64) (hm : mB l = true) (hv : vfB n d = true) (hn : 0 ≤ n) (hv2 : vfB m e0 = true) (hle : n * e0 ≤ m * d) (hR : MoR S w v l) (hS : ∀ k, S k → k < w.heap.size) :
    Calls Try.prog 34 #[v, .agg #[.int .i64 n, .int .i64 d], .agg #[.int .i64 m, .int .i64 e0]] w fun e w' => ∃ r, e = .returned r ∧ w'.ownsRow w.heap.size 51 4 r (swF l n d m e0).length (sCells (swF l n d m e0)) ∧ Ext w w' := by
  obtain ⟨a, cap, rfl⟩ := hR.shape
  have HZ := Lib.hid (((Upd.refl (fun _ => False) w).alloc (.cells #[.int .i64 n, .int .i64 d] 25)).alloc (.cells #[.int .i64 m, .int .i64 e0] 25))
  have hb0 := allocOld (alloc0 w (.cells #[.int .i64 n, .int .i64 d] 25)) (.cells #[.int .i64 m, .int .i64 e0] 25)
  have hb1 := alloc_at (w.alloc (.cells #[.int .i64 n, .int .i64 d] 25)) (.cells #[.int .i64 m, .int .i64 e0] 25) (n := w.heap.size + 1) (by simp)
  have HL : Hid (((w.alloc (.cells #[.int .i64 n, .int .i64 d] 25)).alloc (.cells #[.int .i64 m, .int .i64 e0] 25)).heap.size = w.heap.size + 2) := Lib.hid (by simp)
  have HX : Hid (∀ W, Ext ((w.alloc (.cells #[.int .i64 n, .int .i64 d] 25)).alloc (.cells #[.int .i64 m, .int .i64 e0] 25)) W → W.cell? ⟨w.heap.size, 0, none⟩ = some (.int .i64 n) ∧ W.cell? ⟨w.heap.size, 1, none⟩ = some (.int .i64 d) ∧ W.cell? ⟨w.heap.size + 1, 0, none⟩ = some (.int .i64 m) ∧ W.cell? ⟨w.heap.size + 1, 1, none⟩ = some (.int .i64 e0)) := Lib.hid (fun W hW => ⟨cellRow (hW.heap hb0 (fun h => h)) 0 _ rfl, cellRow (hW.heap hb0 (fun h => h)) 1 _ rfl, cellRow (hW.heap hb1 (fun h => h)) 0 _ rfl, cellRow (hW.heap hb1 (fun h => h)) 1 _ rfl⟩)
  clear hb0 hb1
  have hle1 : w.heap.size ≤ w.heap.size + 1 := by omega
  obtain ⟨k00, k01, k10, k11⟩ := HX.out _ (Upd.refl _ _)
  have HX2 : Hid (∀ W, Upd (fun k => w.heap.size + 2 ≤ k) ((w.alloc (.cells #[.int .i64 n, .int .i64 d] 25)).alloc (.cells #[.int .i64 m, .int .i64 e0] 25)) W → W.cell? ⟨w.heap.size, 0, none⟩ = some (.int .i64 n) ∧ W.cell? ⟨w.heap.size, 1, none⟩ = some (.int .i64 d) ∧ W.cell? ⟨w.heap.size + 1, 0, none⟩ = some (.int .i64 m) ∧ W.cell? ⟨w.heap.size + 1, 1, none⟩ = some (.int .i64 e0)) := Lib.hid (fun W hW => by
    have h := HX.out _ (Upd.refl _ _)
    exact ⟨hW.cell h.1 (by simp), hW.cell h.2.1 (by simp), hW.cell h.2.2.1 (by simp), hW.cell h.2.2.2 (by simp)⟩)
  have HRR : Hid (MoR S w (.slice a l.length cap) l ∧ ∀ k, S k → k < w.heap.size) := Lib.hid ⟨hR, hS⟩
  have hd1 := (vf_bd hv).2.1.1
  have he1 := (vf_bd hv2).2.1.1
  have HOK := Lib.hid (fun A a b (h : refIn l n d m e0 a b A) => refIn_ok hm hd1 he1 hn hle h)
  have HSO := Lib.hid (fun a b (h : isSw l n d m e0 a b = true) => sw_ok hm hd1 he1 hn hle h)
  have HSM := Lib.hid (fun a b (h : isSw l n d m e0 a b = true) => (sw_time hd1 he1 hn hle h).1)
  have HEND := Lib.hid (fun A (h : refIn l n d m e0 l.length 0 A) hs => refIn_end hm hd1 he1 hn hle h hs)
  have HM := Lib.hid (And.intro hm (And.intro hv hv2))
  clear hR hS hm hv hn hv2 hle hd1 he1 k00 k01 k10 k11
  go_enter Try.func34, Try.ntmps34
  go_wp2_with fail
  generalize ((w.alloc (.cells #[.int .i64 n, .int .i64 d] 25)).alloc (.cells #[.int .i64 m, .int .i64 e0] 25)) = wb at *
  go_loopg [7, 8] l.length (fun gk bv iv wr => ∃ (i : Nat) (A : List Sw), iv = .int .i64 (i : Int) ∧ gk = l.length - i ∧ i ≤ l.length ∧ Hid (Upd (fun k => w.heap.size + 2 ≤ k) wb wr) ∧ Hid (wr.ownsRow (w.heap.size + 2) 51 4 bv (A).length (sCells (A))) ∧ Hid ((A).Pairwise (fun x y => earl x y = true)) ∧ Hid (refIn l n d m e0 i 0 A) ∧ Hid (A.length ≤ i * 64))
  case atStart => exact ⟨0, [], rfl, rfl, Nat.zero_le _, Lib.hid (Upd.refl _ _), Lib.hid (World.ownsRow_nil _ _ _ _), Lib.hid List.Pairwise.nil, Lib.hid (refIn_zero l n d m e0), Lib.hid (Nat.zero_le _)⟩
  case round =>
    obtain ⟨wa, hwa⟩ : ∃ wa, wa = wr := ⟨_, rfl⟩
    subst hwa
    obtain ⟨i, A, rfl, rfl, hi, HE, HO, HS1, HRI, HAL⟩ := hrel
    obtain ⟨a4, c4, hv4⟩ := own_shape HO.out
    subst hv4
    by_cases hlt : i < l.length
    · have z0 : (0 : Int) ≤ (i : Int) := by omega
      have z1 : (i : Int) < (l.length : Int) := by omega
      go_wp2_with fail
      go_loopg [7, 9] l.length (fun gk bv jv wr => ∃ (j : Nat) (A : List Sw), jv = .int .i64 (j : Int) ∧ gk = l.length - j ∧ j ≤ l.length ∧ Hid (Upd (fun k => w.heap.size + 2 ≤ k) wb wr) ∧ Hid (wr.ownsRow (w.heap.size + 2) 51 4 bv (A).length (sCells (A))) ∧ Hid ((A).Pairwise (fun x y => earl x y = true)) ∧ Hid (refIn l n d m e0 i j A) ∧ Hid (A.length ≤ i * 64 + j))
      case atStart => exact ⟨0, A, rfl, rfl, Nat.zero_le _, HE, HO, HS1, HRI, Lib.hid (by have := HAL.out; omega)⟩
      case round =>
        clear HE HO HS1 HRI HAL
        obtain ⟨wc, hwc⟩ : ∃ wa, wa = wr := ⟨_, rfl⟩
        subst hwc
        obtain ⟨j, A, rfl, rfl, hj, HE, HO, HS1, HRI, HAL⟩ := hrel
        obtain ⟨a5, c5, hv5⟩ := own_shape HO.out
        subst hv5
        by_cases hlj : j < l.length
        · have z2 : (0 : Int) ≤ (j : Int) := by omega
          have z3 : (j : Int) < (l.length : Int) := by omega
          have HRW : Hid (∀ W, Ext wc W → MoR S W (.slice a l.length cap) l) := Lib.hid (fun W hW => ((HRR.out.1.ext HZ.out).kept HE.out (fun k hk h => by have := HRR.out.2 k hk; omega)).ext hW)
          have HL1 : Hid (∀ W, Ext wc W → Calls Try.prog 54 #[.slice a l.length cap, .agg #[.int .i64 n, .int .i64 d], .int .i64 i, .int .i64 j] W fun e w' => e = .returned (.bool (lessK l n d i j)) ∧ Ext W w') := Lib.hid (fun W hW => by
            have hq := HRW.out W hW
            obtain ⟨g2, off, rfl⟩ := hq.at_ (by omega)
            exact less_x g2 off cap l n d i j S W HM.out.1 HM.out.2.1 hlt hlj (by omega) hq)
          have HL2 : Hid (∀ W, Ext wc W → Calls Try.prog 54 #[.slice a l.length cap, .agg #[.int .i64 m, .int .i64 e0], .int .i64 i, .int .i64 j] W fun e w' => e = .returned (.bool (lessK l m e0 i j)) ∧ Ext W w') := Lib.hid (fun W hW => by
            have hq := HRW.out W hW
            obtain ⟨g2, off, rfl⟩ := hq.at_ (by omega)
            exact less_x g2 off cap l m e0 i j S W HM.out.1 HM.out.2.2 hlt hlj (by omega) hq)
          obtain ⟨k00, k01, k10, k11⟩ := HX2.out wc HE.out
          by_cases hij : i = j
          · have hsf : isSw l n d m e0 i j = false := by subst hij; unfold isSw; rw [lessK_irrefl]; rfl
            have HRI2 := Lib.hid (refIn_skip HRI.out hsf)
            have t1 : ((i : Int) == (j : Int)) = true := by simp; omega
            have t1' : (i == j) = true := by simp; omega
            clear hsf hij
            go_wp2_with fail
            go_roundg (l.length - (j + 1))
            case measure => omega
            case rel => exact ⟨j + 1, A, by go_num, rfl, by omega, HE, HO, HS1, HRI2, Lib.hid (by have := HAL.out; omega)⟩
          have t1 : ((i : Int) == (j : Int)) = false := by simp; omega
          have t1' : (i == j) = false := by simpa using hij
          cases hs1 : lessK l n d i j
          · have hsf : isSw l n d m e0 i j = false := by unfold isSw; rw [hs1]; rfl
            have HRI2 := Lib.hid (refIn_skip HRI.out hsf)
            rw [hs1] at HL1
            clear hsf hij hs1
            go_wp2_with fail
            refine (HL1.out _ (Upd.refl _ _)).mono ?_
            rintro e w6 ⟨rfl, hw6⟩
            have HE6 := Lib.hid (HE.out.trans' hw6 (fun _ _ h => h.elim))
            have HO6 := Lib.hid (own_kept HO.out hw6 (fun _ _ h => h))
            clear hw6 k00 k01 k10 k11
            go_wp2_with fail
            go_roundg (l.length - (j + 1))
            case measure => omega
            case rel => exact ⟨j + 1, A, by go_num, rfl, by omega, HE6, HO6, HS1, HRI2, Lib.hid (by have := HAL.out; omega)⟩
          rw [hs1] at HL1
          cases hs2 : lessK l m e0 i j
          rotate_left
          · have hsf : isSw l n d m e0 i j = false := by unfold isSw; rw [hs1, hs2]; rfl
            have HRI2 := Lib.hid (refIn_skip HRI.out hsf)
            rw [hs2] at HL2
            clear hsf hij hs1 hs2
            go_wp2_with fail
            refine (HL1.out _ (Upd.refl _ _)).mono ?_
            rintro e w6 ⟨rfl, hw6⟩
            have H6 := Lib.hid hw6
            obtain ⟨k00', k01', k10', k11'⟩ := HX2.out w6 (HE.out.trans' hw6 (fun _ _ h => h.elim))
            clear hw6 k00 k01 k10 k11
            go_wp2_with fail
            refine (HL2.out _ H6.out).mono ?_
            rintro e w7 ⟨rfl, hw7⟩
            have HE7 := Lib.hid ((HE.out.trans' H6.out (fun _ _ h => h.elim)).trans' hw7 (fun _ _ h => h.elim))
            have HO7 := Lib.hid (own_kept (own_kept HO.out H6.out (fun _ _ h => h)) hw7 (fun _ _ h => h))
            clear hw7 k00' k01' k10' k11'
            go_wp2_with fail
            go_roundg (l.length - (j + 1))
            case measure => omega
            case rel => exact ⟨j + 1, A, by go_num, rfl, by omega, HE7, HO7, HS1, HRI2, Lib.hid (by have := HAL.out; omega)⟩
          rw [hs2] at HL2
          have hst : isSw l n d m e0 i j = true := by unfold isSw; rw [hs1, hs2]; rfl
          clear hs1 hs2 hij
          go_wp2_with fail
          refine (HL1.out _ (Upd.refl _ _)).mono ?_
          rintro e w6 ⟨rfl, hw6⟩
          have H6 := Lib.hid hw6
          obtain ⟨k00', k01', k10', k11'⟩ := HX2.out w6 (HE.out.trans' hw6 (fun _ _ h => h.elim))
          clear hw6 k00 k01 k10 k11
          go_wp2_with fail
          refine (HL2.out _ H6.out).mono ?_
          rintro e w7 ⟨rfl, hw7⟩
          have H7 := Lib.hid (H6.out.ext hw7)
          clear hw7 k00' k01' k10' k11'
          obtain ⟨g2, off, rfl⟩ := (HRW.out w7 H7.out).at_ (by omega)
          obtain ⟨p0, p1⟩ := (HRW.out w7 H7.out).cells hlt
          obtain ⟨q0, q1⟩ := (HRW.out w7 H7.out).cells hlj
          obtain ⟨y0, y1, _, _⟩ := HX2.out w7 (HE.out.trans' H7.out (fun _ _ h => h.elim))
          have HMT := Lib.hid (fun W => rmeet_yes (mg l i) (mg l j) n d W (mB_at HM.out.1 _) (mB_at HM.out.1 _) HM.out.2.1 (HSM.out i j hst))
          have HOX : Hid (okE (mtN (mg l i) (mg l j), mtD (mg l i) (mg l j), (i : Int), (j : Int))) := Lib.hid (HSO.out i j hst)
          have HADD : Hid (∀ k, refIn l n d m e0 i (j + 1) (insG A (mtN (mg l i) (mg l j), mtD (mg l i) (mg l j), (i : Int), (j : Int)) k)) := Lib.hid (fun k => refIn_add HRI.out hlj hst)
          have HNE : Hid (∀ y ∈ A, y.2.2 ≠ ((i : Int), (j : Int))) := Lib.hid (refIn_ne HRI.out)
          have HOA := Lib.hid (HOK.out A i j HRI.out)
          have HAB : Hid (A.length ≤ 5000) := Lib.hid (by have h1 := HAL.out; have h2 : i * 64 ≤ 64 * 64 := Nat.mul_le_mul_right _ (by omega); omega)
          clear hst HL1 HL2
          generalize mtN (mg l i) (mg l j) = X at *
          generalize mtD (mg l i) (mg l j) = Y at *
          generalize (mg l i).1 = u0 at *
          generalize (mg l i).2 = u1 at *
          generalize (mg l j).1 = v0 at *
          generalize (mg l j).2 = v1 at *
          have xy0 := fun x : XW w7 => x.ext.cell y0 (fun h => h)
          have xy1 := fun x : XW w7 => x.ext.cell y1 (fun h => h)
          have xp0 := fun x : XW w7 => x.ext.cell p0 (fun h => h)
          have xp1 := fun x : XW w7 => x.ext.cell p1 (fun h => h)
          have xq0 := fun x : XW w7 => x.ext.cell q0 (fun h => h)
          have xq1 := fun x : XW w7 => x.ext.cell q1 (fun h => h)
          clear p0 p1 q0 q1 y0 y1
          go_wp2_with fail
          refine wp_region_parF (α := Nat) 14 [12] 15 [(14, 1), (15, 2)] [[], [], [0, 1], [0, 1, 2], [], [], [4, 5], [4, 5, 6], [], [0, 1, 2, 3, 4, 5, 6, 7, 8], [0, 1, 2, 3, 4, 5, 6, 7, 8, 9], [0, 1, 2, 3, 4, 5, 6, 7, 8, 9, 10], [0, 1, 2, 3, 4, 5, 6, 7, 8, 9, 10], [], [0, 1, 2, 3, 4, 5, 6, 7, 8, 9, 10, 11, 13], [0, 1, 2, 3, 4, 5, 6, 7, 8, 9, 10, 11, 12, 13, 14]]
            [none, none, none, none, none, none, none, none, none, some (annVal (.tuple #[.agg #[.int .i64 X, .int .i64 Y], .int .i64 0])), none, none, none, some (annBlk (fun g => .pointer (some ⟨g, 0, none⟩)) (fun g => g) w7.heap.size (.cells #[.int .i64 0, .int .i64 0] 25))]
            [false, false, false, false, false, false, false, false, false, true, false, false, false, true] (by kernel_rfl) (by kernel_rfl) rfl (fun _ _ d _ _ h => by cases d <;> exact h) ?_
          simp only [List.take_succ_cons, List.take_zero, pickO, List.getElem?_cons_zero, List.getElem?_cons_succ]
          refine can_pure0 rfl (fun K hK => ?_); go_simp; refine hK _ ?_; clear hK K
          refine can_pure0 rfl (fun K hK => ?_); go_simp; refine hK _ ?_; clear hK K
          refine can_pure0 rfl (fun K hK => ?_); go_simp; refine hK _ ?_; clear hK K
          refine can_pure0 rfl (fun K hK => ?_); go_simp; refine hK _ ?_; clear hK K
          refine can_pure0 rfl (fun K hK => ?_); go_simp; refine hK _ ?_; clear hK K
          refine can_pure0 rfl (fun K hK => ?_); go_simp; refine hK _ ?_; clear hK K
          refine can_pure0 rfl (fun K hK => ?_); go_simp; refine hK _ ?_; clear hK K
          refine can_pure0 rfl (fun K hK => ?_); go_simp; refine hK _ ?_; clear hK K
          refine can_pure0 rfl (fun K hK => ?_); go_simp; refine hK _ ?_; clear hK K
          refine can_mem _ rfl (by go_simp) (fun W hW hG K hK => ?_) (fun K x9 hK => ?_)
          · go_simp
            refine (HMT.out W).mono ?_
            rintro e w' ⟨rfl, h⟩
            exact hK default w' h trivial
          refine hK _ ?_; clear hK K
          dsimp only [annVal]
          refine can_pure0 rfl (fun K hK => ?_); go_simp; refine hK _ ?_; clear hK K
          refine can_pure0 rfl (fun K hK => ?_); go_simp; refine hK _ ?_; clear hK K
          refine can_pure0 rfl (fun K hK => ?_); go_simp; refine hK _ ?_; clear hK K
          refine can_mem _ rfl (by go_simp) (fun W hW hG K hK => ?_) (fun K g9 hK => ?_)
          · go_simp
            exact hK W.heap.size _ ((Upd.refl _ W).alloc _) ⟨hW.size, alloc0 _ _⟩
          refine hK _ ?_; clear hK K
          dsimp only [annBlk]
          refine can_end (fun w8 hW hG => ?_)
          obtain ⟨hb9, hg9⟩ := hG _ (List.mem_append_right _ (List.mem_singleton.2 rfl))
          clear hG
          have H8 : Hid (Ext w7 w8) := Lib.hid (hW)
          have m0 := frozenRow hg9 0
          have m1 := frozenRow hg9 1
          have cc0 := cellRow hg9 0 (.int .i64 0) rfl
          have cc1 := cellRow hg9 1 (.int .i64 0) rfl
          have HG9 := Lib.hid (And.intro hb9 hg9)
          clear hW hg9 hb9
          refine mix_one (fun K hK _ => ?_) trivial; go_simp; refine hK _ _ trivial ?_; clear hK K
          refine mix_two (fun K hK => ?_); go_simp; refine hK _ _ ?_; clear hK K
          simp only [wpMix]
          clear xy0 xy1 xp0 xp1 xq0 xq1
          have hs9 : w.heap.size + 2 ≤ g9 := by
            have h1 := HG9.out.1
            have h2 := H7.out.size
            have h3 := HE.out.size
            have h4 := HL.out
            omega
          have HE9 : Hid (Upd (fun k => w.heap.size + 2 ≤ k) wb ((w8.setCell ⟨g9, 0, none⟩ (.int .i64 X)).setCell ⟨g9, 1, none⟩ (.int .i64 Y))) := Lib.hid ((((HE.out.trans' H7.out (fun _ _ h => h.elim)).trans' H8.out (fun _ _ h => h.elim)).setCell (p := ⟨g9, 0, none⟩) (.inl hs9) _).setCell (p := ⟨g9, 1, none⟩) (.inl hs9) _)
          have HO9 := Lib.hid (own_kept (own_kept HO.out H7.out (fun _ _ h => h)) ((H8.out.setNew (j := 0) HG9.out.1 (.int .i64 X)).setNew (j := 1) HG9.out.1 (.int .i64 Y)) (fun _ _ h => h))
          have hb9 := setBlock (setBlock HG9.out.2 0 (.int .i64 X)) 1 (.int .i64 Y)
          have c90 := cellRow hb9 0 (.int .i64 X) rfl
          have c91 := cellRow hb9 1 (.int .i64 Y) rfl
          clear hb9 m0 m1 cc0 cc1
          generalize ((w8.setCell ⟨g9, 0, none⟩ (.int .i64 X)).setCell ⟨g9, 1, none⟩ (.int .i64 Y)) = w9 at *
          have hz9 := HE9.out.size
          have hL := HL.out
          have hab := HAB.out
          obtain ⟨iS, hi0, hz0, hz1, hz2⟩ := info_parts info51
          go_wp2_with (at_builtin; refine wpList_append_at _ rfl (.tmp 58) (.tmp 63) 48 rfl (w.heap.size + 2) 51 iS (.agg #[.int .i64 0, .int .i64 0, .int .i64 0, .int .i64 0]) 4 32 Try.underlying48 hi0 hz0 hz1 hz2 rfl (by decide) _ _ _ rfl (HO9.out.alloc _) ⟨w9.heap.size, 0, none⟩ 1 1 [.int .i64 X, .int .i64 Y, .int .i64 (i : Int), .int .i64 (j : Int)] rfl rfl ?c1 ?c2 ?c3 ?c4 ?c5 ?_)
          case c1 =>
            intro j u hj
            match j, hj with
            | 0, hj => simp at hj; subst hj; simp [Addr.add]
            | 1, hj => simp at hj; subst hj; simp [Addr.add]
            | 2, hj => simp at hj; subst hj; simp [Addr.add]
            | 3, hj => simp at hj; subst hj; simp [Addr.add]
          case c2 => intro u hu; simp at hu; rcases hu with rfl | rfl | rfl | rfl <;> rfl
          case c3 => unfold maxLen; omega
          case c4 => omega
          case c5 => simp; omega
          intro v10 w10 hG
          have hul : (insG A (X, Y, (i : Int), (j : Int)) A.length).length = A.length + 1 := insG_len _ _ _ (Nat.le_refl _)
          have HO10 : Hid (w10.ownsRow (w.heap.size + 2) 51 4 v10 (A.length + 1) (sCells (insG A (X, Y, (i : Int), (j : Int)) A.length))) := Lib.hid (by rw [insG_end, sCells_snoc]; exact hG.own)
          have HE10 : Hid (Upd (fun k => w.heap.size + 2 ≤ k) wb w10) := Lib.hid ((HE9.out.alloc _).trans' hG.upd (fun i hi e => (HO9.out.lt i e).1))
          obtain ⟨g, c10, hv10⟩ := own_some HO10.out (by omega)
          subst hv10
          have hbg : w.heap.size + 2 ≤ g := (HO10.out.lt g rfl).1
          have HBG := Lib.hid hbg
          clear hG HO9 HE9 c90 c91 hz9 hi0 hz0 hz1 hz2 HO hul
          go_wp2_with fail
          go_loopg [12] A.length (fun gk kv ws => ∃ k : Nat, kv = .int .i64 (k : Int) ∧ gk = 0 + k ∧ k ≤ A.length ∧ Hid (Upd (fun k => w.heap.size + 2 ≤ k) wb ws) ∧ Hid (ws.ownsRow (w.heap.size + 2) 51 4 (.slice (some ⟨g, 0, none⟩) (A.length + 1) c10) (A.length + 1) (sCells (insG A (X, Y, (i : Int), (j : Int)) k))) ∧ Hid (∀ y ∈ A.drop k, earl (X, Y, (i : Int), (j : Int)) y = true))
          case atStart => exact ⟨A.length, rfl, (Nat.zero_add _).symm, Nat.le_refl _, HE10, HO10, Lib.hid (fun y hy => by rw [List.drop_length] at hy; cases hy)⟩
          case round =>
            clear HE10 HO10
            obtain ⟨k, rfl, rfl, hk, HE6, HO6, HD6⟩ := hrel
            cases k with
            | zero =>
              have HSd := Lib.hid (insG_sorted HS1.out HOA.out HOX.out HNE.out (Nat.zero_le _) HD6.out (.inl rfl))
              have HAL2 : Hid ((insG A (X, Y, (i : Int), (j : Int)) 0).length ≤ i * 64 + (j + 1)) := Lib.hid (by rw [insG_len _ _ _ (Nat.zero_le _)]; have := HAL.out; omega)
              have HOO : Hid (wr.ownsRow (w.heap.size + 2) 51 4 (.slice (some ⟨g, 0, none⟩) (A.length + 1) c10) (insG A (X, Y, (i : Int), (j : Int)) 0).length (sCells (insG A (X, Y, (i : Int), (j : Int)) 0))) := Lib.hid (by rw [insG_len _ _ _ (Nat.zero_le _)]; exact HO6.out)
              clear HD6
              go_wp2_with fail
              go_quiet (fail)
              go_wp2_with fail
              have HEn : Hid (Upd (fun k => w.heap.size + 2 ≤ k) wb (wr.drewN nq)) := Lib.hid (HE6.out.drewN' nq)
              go_roundg (l.length - (j + 1))
              case measure => omega
              case rel => exact ⟨j + 1, insG A (X, Y, (i : Int), (j : Int)) 0, by go_num, rfl, by omega, HEn, HOO, HSd, Lib.hid (HADD.out 0), HAL2⟩
            | succ k =>
              have hkA : k + 1 ≤ A.length := hk
              have e1 := insG_at zS A (X, Y, (i : Int), (j : Int)) (k + 1) hkA
              have e2 := insG_pred zS A (X, Y, (i : Int), (j : Int)) k hkA
              have e3 := insG_len A (X, Y, (i : Int), (j : Int)) (k + 1) hkA
              obtain ⟨cur, hcur⟩ := own_block HO6.out
              have hR6 : SwR (fun _ => True) wr (.slice (some ⟨g, 0, none⟩) (A.length + 1) c10) (insG A (X, Y, (i : Int), (j : Int)) (k + 1)) := by unfold SwR; rw [e3]; exact (SlR.of_own HO6.out).weaken (fun _ _ => trivial)
              obtain ⟨a0, a1, a2, a3⟩ := hR6.cells (i := k + 1) (by rw [e3]; omega)
              obtain ⟨b0, b1, b2, b3⟩ := hR6.cells (i := k) (by rw [e3]; omega)
              have e1' : sg4 (insG A (X, Y, (i : Int), (j : Int)) (k + 1)) (k + 1) = (X, Y, (i : Int), (j : Int)) := e1
              have e2' : sg4 (insG A (X, Y, (i : Int), (j : Int)) (k + 1)) k = sg4 A k := e2
              rw [e1'] at a0 a1 a2 a3
              rw [e2'] at b0 b1 b2 b3
              have hmem : sg4 A k ∈ A := by unfold sg4; rw [List.getD_eq_getElem?_getD, List.getElem?_eq_getElem (by omega : k < A.length)]; exact List.getElem_mem _
              have HEA := Lib.hid (fun W => earlier_x (X, Y, (i : Int), (j : Int)) (sg4 A k) W HOX.out (HOA.out _ hmem))
              have HST : Hid (((insG A (X, Y, (i : Int), (j : Int)) (k + 1)).set k (X, Y, (i : Int), (j : Int))).set (k + 1) (sg4 A k) = insG A (X, Y, (i : Int), (j : Int)) k) := Lib.hid (insG_step zS A _ k hkA)
              have HUP := Lib.hid (fun (h : earl (X, Y, (i : Int), (j : Int)) (sg4 A k) = true) => insG_up hkA HD6.out h)
              have HEN := Lib.hid (fun (h : earl (X, Y, (i : Int), (j : Int)) (sg4 A k) = false) => insG_sorted (k := k + 1) HS1.out HOA.out HOX.out HNE.out hkA HD6.out (.inr h))
              have HB := Lib.hid hcur
              have i0' : (0 : Int) ≤ (k : Int) := by omega
              have i0s : (0 : Int) ≤ (k : Int) + 1 := by omega
              have hkb : k ≤ 5000 := by have := HAB.out; omega
              have hwk : IntKind.i64.wrap (k : Int) = (k : Int) := IntWalk.i64_in _ (by omega)
              have i1' : (k : Int) + 1 < (A.length : Int) + 1 := by omega
              have i2' : (k : Int) < (A.length : Int) + 1 := by omega
              have i3' : decide ((0 : Int) < (k : Int) + 1) = true := decide_eq_true (by omega)
              have ek : ((k + 1 : Nat) : Int) = (k : Int) + 1 := by omega
              clear e1 e2 e3 e1' e2' hcur hR6 hmem
              generalize hlk : earl (X, Y, (i : Int), (j : Int)) (sg4 A k) = B at HEA HUP HEN
              clear hlk
              generalize hy : sg4 A k = y at *
              clear hy
              obtain ⟨q0, q1, q2, q3⟩ := y
              simp only [Nat.zero_add] at a0 a1 a2 a3 b0 b1 b2 b3
              have HEA2 := HEA.out
              simp only at HEA2
              have HEA3 := Lib.hid HEA2
              have xa0 := fun x : XW wr => x.ext.cell a0 (fun h => h)
              have xa1 := fun x : XW wr => x.ext.cell a1 (fun h => h)
              have xa2 := fun x : XW wr => x.ext.cell a2 (fun h => h)
              have xa3 := fun x : XW wr => x.ext.cell a3 (fun h => h)
              have xb0 := fun x : XW wr => x.ext.cell b0 (fun h => h)
              have xb1 := fun x : XW wr => x.ext.cell b1 (fun h => h)
              have xb2 := fun x : XW wr => x.ext.cell b2 (fun h => h)
              have xb3 := fun x : XW wr => x.ext.cell b3 (fun h => h)
              have hrfs := Upd.refl (fun _ => False) wr
              clear a0 a1 a2 a3 b0 b1 b2 b3 HEA HEA2
              simp only [ek]
              clear ek
              cases B
              · have HSd := Lib.hid (HEN.out rfl)
                clear HUP HEN HST HB
                have HAL2 : Hid ((insG A (X, Y, (i : Int), (j : Int)) (k + 1)).length ≤ i * 64 + (j + 1)) := Lib.hid (by rw [insG_len _ _ _ hkA]; have := HAL.out; omega)
                go_wp2_with fail
                refine wp_region_ext wr (by assumption) (by kernel_rfl) (by kernel_rfl) ?_
                repeat (first | go_big_quiet_skip | (go_big_quiet_want; go_big_quiet_op; first | go_big_quiet_on | (apply Exists.intro; refine ⟨fun x => ?_, ?_⟩; (go_at_call 61; exact XW.call (HEA3.out x.val)); go_big_quiet_on)))
                refine wpQuiet_nil ?_
                rintro w6 ⟨⟨_, hyw6⟩, rfl⟩
                try dsimp only
                go_wp2_with fail
                have HEn : Hid (Upd (fun k => w.heap.size + 2 ≤ k) wb w6) := Lib.hid (HE6.out.trans' hyw6 (fun _ _ h => h.elim))
                have HOO : Hid (w6.ownsRow (w.heap.size + 2) 51 4 (.slice (some ⟨g, 0, none⟩) (A.length + 1) c10) (insG A (X, Y, (i : Int), (j : Int)) (k + 1)).length (sCells (insG A (X, Y, (i : Int), (j : Int)) (k + 1)))) := Lib.hid (by rw [insG_len _ _ _ hkA]; exact own_kept HO6.out hyw6 (fun _ _ h => h))
                go_roundg (l.length - (j + 1))
                case measure => omega
                case rel => exact ⟨j + 1, insG A (X, Y, (i : Int), (j : Int)) (k + 1), by go_num, rfl, by omega, HEn, HOO, HSd, Lib.hid (HADD.out _), HAL2⟩
              · have HD7 := Lib.hid (HUP.out rfl)
                clear HUP HEN
                go_wp2_with fail
                refine wp_region_ext wr (by assumption) (by kernel_rfl) (by kernel_rfl) ?_
                repeat (first | go_big_quiet_skip | (go_big_quiet_want; go_big_quiet_op; first | go_big_quiet_on | (apply Exists.intro; refine ⟨fun x => ?_, ?_⟩; (go_at_call 61; exact XW.call (HEA3.out x.val)); go_big_quiet_on)))
                refine wpQuiet_nil ?_
                rintro w6 ⟨⟨_, hyw6⟩, rfl⟩
                try dsimp only
                have HE7 := Lib.hid (HE6.out.trans' hyw6 (fun _ _ h => h.elim))
                have HO7 := Lib.hid (own_kept HO6.out hyw6 (fun _ _ h => h))
                have HB6 := Lib.hid (hyw6.heap HB.out (fun h => h))
                have d0 := xb0 ⟨w6, hyw6⟩
                have d1 := xb1 ⟨w6, hyw6⟩
                have d2 := xb2 ⟨w6, hyw6⟩
                have d3 := xb3 ⟨w6, hyw6⟩
                have d4 := xa0 ⟨w6, hyw6⟩
                have d5 := xa1 ⟨w6, hyw6⟩
                have d6 := xa2 ⟨w6, hyw6⟩
                have d7 := xa3 ⟨w6, hyw6⟩
                simp only at d0 d1 d2 d3 d4 d5 d6 d7
                have x0 := fun x : XW w6 => x.ext.cell d0 (fun h => h)
                have x1 := fun x : XW w6 => x.ext.cell d1 (fun h => h)
                have x2 := fun x : XW w6 => x.ext.cell d2 (fun h => h)
                have x3 := fun x : XW w6 => x.ext.cell d3 (fun h => h)
                have x4 := fun x : XW w6 => x.ext.cell d4 (fun h => h)
                have x5 := fun x : XW w6 => x.ext.cell d5 (fun h => h)
                have x6 := fun x : XW w6 => x.ext.cell d6 (fun h => h)
                have x7 := fun x : XW w6 => x.ext.cell d7 (fun h => h)
                clear xa0 xa1 xa2 xa3 xb0 xb1 xb2 xb3 d0 d1 d2 d3 d4 d5 d6 d7 hyw6 HEA3 HB hrfs
                go_wp2_with fail
                refine wp_region_parF (α := Nat) 15 [3, 4] 17 [(15, 1), (16, 1), (17, 2)] [[], [], [1], [], [], [], [], [5, 6], [5, 6, 7], [], [], [10], [9, 10, 11], [9, 10, 11, 12], [0, 1, 2, 5, 6, 7, 8, 9, 10, 11, 12, 13], [0, 1, 2, 5, 6, 7, 8, 9, 10, 11, 12, 13, 14], [0, 1, 2, 3, 4, 5, 6, 7, 8, 9, 10, 11, 12, 13, 14, 15], [0, 1, 2, 3, 4, 5, 6, 7, 8, 9, 10, 11, 12, 13, 14, 15, 16]]
                  [none, none, none, none, none, none, none, none, none, none, none, none, none, none, none]
                  [false, false, false, false, false, false, false, false, false, false, false, false, false, false, false] (by kernel_rfl) (by kernel_rfl) rfl (fun _ _ d _ _ h => by cases d <;> exact h) ?_
                simp only [List.take_succ_cons, List.take_zero, pickO, List.getElem?_cons_zero, List.getElem?_cons_succ]
                iterate 15 (refine can_pure0 rfl (fun K hK => ?_); go_simp; refine hK _ ?_; clear hK K)
                refine can_end (fun w8 hW hG => ?_)
                clear hG
                have c00 : w8.cell? ⟨g, k * 4, none⟩ = some (.int .i64 q0) := x0 ⟨w8, hW⟩
                have c01 : w8.cell? ⟨g, k * 4 + 1, none⟩ = some (.int .i64 q1) := x1 ⟨w8, hW⟩
                have c02 : w8.cell? ⟨g, k * 4 + 2, none⟩ = some (.int .i64 q2) := x2 ⟨w8, hW⟩
                have c03 : w8.cell? ⟨g, k * 4 + 3, none⟩ = some (.int .i64 q3) := x3 ⟨w8, hW⟩
                have c10 : w8.cell? ⟨g, (k + 1) * 4, none⟩ = some (.int .i64 X) := x4 ⟨w8, hW⟩
                have c11 : w8.cell? ⟨g, (k + 1) * 4 + 1, none⟩ = some (.int .i64 Y) := x5 ⟨w8, hW⟩
                have c12 : w8.cell? ⟨g, (k + 1) * 4 + 2, none⟩ = some (.int .i64 (i : Int)) := x6 ⟨w8, hW⟩
                have c13 : w8.cell? ⟨g, (k + 1) * 4 + 3, none⟩ = some (.int .i64 (j : Int)) := x7 ⟨w8, hW⟩
                clear x0 x1 x2 x3 x4 x5 x6 x7
                have H8 := Lib.hid hW
                have HO8 := Lib.hid (own_kept HO7.out hW (fun _ _ h => h))
                have hb8 := hW.heap HB6.out (fun h => h)
                have m0 := frozenRow hb8 (k * 4)
                have m1 := frozenRow hb8 (k * 4 + 1)
                have m2 := frozenRow hb8 (k * 4 + 2)
                have m3 := frozenRow hb8 (k * 4 + 3)
                have n0 := frozenRow hb8 ((k + 1) * 4)
                have n1 := frozenRow hb8 ((k + 1) * 4 + 1)
                have n2 := frozenRow hb8 ((k + 1) * 4 + 2)
                have n3 := frozenRow hb8 ((k + 1) * 4 + 3)
                clear hb8 hW
                refine mix_one (fun K hK _ => ?_) trivial; go_simp; refine hK _ _ trivial ?_; clear hK K
                have HO9 := Lib.hid (own_set4c HO8.out k X Y (i : Int) (j : Int))
                have HU9 : Hid (Upd (fun h => h = g) w6 _) := Lib.hid (upd_set4 (F := fun h => h = g) (g := g) (H8.out.mono (fun _ _ h => h.elim)) (.inl rfl) (k * 4) (k * 4 + 1) (k * 4 + 2) (k * 4 + 3) (.int .i64 X) (.int .i64 Y) (.int .i64 (i : Int)) (.int .i64 (j : Int)))
                clear m0 m1 m2 m3 n0 n1 n2 n3 c00 c01 c02 c03 c10 c11 c12 c13 H8 HO8
                generalize ((((w8.setCell ⟨g, k * 4, none⟩ (.int .i64 X)).setCell ⟨g, k * 4 + 1, none⟩ (.int .i64 Y)).setCell ⟨g, k * 4 + 2, none⟩ (.int .i64 (i : Int))).setCell ⟨g, k * 4 + 3, none⟩ (.int .i64 (j : Int))) = w9 at *
                have hl9 : ((insG A (X, Y, (i : Int), (j : Int)) (k + 1)).set k (X, Y, (i : Int), (j : Int))).length = A.length + 1 := by rw [List.length_set, insG_len _ _ _ (by omega)]
                have hR9 : SwR (fun _ => True) w9 (.slice (some ⟨g, 0, none⟩) (A.length + 1) c10) ((insG A (X, Y, (i : Int), (j : Int)) (k + 1)).set k (X, Y, (i : Int), (j : Int))) := by
                  have := HO9.out
                  unfold SwR
                  rw [hl9]
                  exact (SlR.of_own this).weaken (fun _ _ => trivial)
                obtain ⟨j0, j1, j2, j3⟩ := hR9.cells (i := k + 1) (by rw [hl9]; omega)
                obtain ⟨cur9, hb9⟩ := own_block HO9.out
                have n0 := frozenRow hb9 ((k + 1) * 4)
                have n1 := frozenRow hb9 ((k + 1) * 4 + 1)
                have n2 := frozenRow hb9 ((k + 1) * 4 + 2)
                have n3 := frozenRow hb9 ((k + 1) * 4 + 3)
                simp only [Nat.zero_add] at j0 j1 j2 j3
                generalize (sg4 ((insG A (X, Y, (i : Int), (j : Int)) (k + 1)).set k (X, Y, (i : Int), (j : Int))) (k + 1)).1 = r0 at *
                generalize (sg4 ((insG A (X, Y, (i : Int), (j : Int)) (k + 1)).set k (X, Y, (i : Int), (j : Int))) (k + 1)).2.1 = r1 at *
                generalize (sg4 ((insG A (X, Y, (i : Int), (j : Int)) (k + 1)).set k (X, Y, (i : Int), (j : Int))) (k + 1)).2.2.1 = r2 at *
                generalize (sg4 ((insG A (X, Y, (i : Int), (j : Int)) (k + 1)).set k (X, Y, (i : Int), (j : Int))) (k + 1)).2.2.2 = r3 at *
                clear hR9 hb9 hl9
                refine mix_one (fun K hK _ => ?_) trivial; go_simp; refine hK _ _ trivial ?_; clear hK K
                refine mix_two (fun K hK => ?_); go_simp; refine hK _ _ ?_; clear hK K
                simp only [wpMix]
                go_wp2_with fail
                have HO8 : Hid (World.ownsRow _ (w.heap.size + 2) 51 4 (.slice (some ⟨g, 0, none⟩) (A.length + 1) c10) (A.length + 1) (sCells (insG A (X, Y, (i : Int), (j : Int)) k))) := Lib.hid (by have h1 := own_set4c HO9.out (k + 1) q0 q1 q2 q3; rw [HST.out] at h1; exact h1)
                have HE8 := Lib.hid (upd_set4 (F := fun k => w.heap.size + 2 ≤ k) (g := g) (HE7.out.trans' HU9.out (fun i hi e => by subst e; exact HBG.out)) (.inl HBG.out) ((k + 1) * 4) ((k + 1) * 4 + 1) ((k + 1) * 4 + 2) ((k + 1) * 4 + 3) (.int .i64 q0) (.int .i64 q1) (.int .i64 q2) (.int .i64 q3))
                go_roundg (0 + k)
                case measure => omega
                case rel => exact ⟨k, by go_num, rfl, by omega, HE8, HO8, HD7⟩
        · obtain rfl : j = l.length := by omega
          have HRI2 := Lib.hid (refIn_row HRI.out)
          go_wp2_with fail
          go_roundg (l.length - (i + 1))
          case measure => omega
          case rel => exact ⟨i + 1, A, by go_num, rfl, by omega, HE, HO, HS1, HRI2, Lib.hid (by have := HAL.out; omega)⟩
    · obtain rfl : i = l.length := by omega
      have HQ := Lib.hid (HEND.out A HRI.out HS1.out)
      have HF : Hid (Ext w wa) := Lib.hid (HZ.out.trans' HE.out (fun k hk e => by omega))
      go_wp2_with fail
      go_ret
      refine ⟨_, rfl, ?_, HF.out⟩
      rw [← HQ.out]
      exact own_base HO.out (by omega)

end Go.Proofs.Ytncnojhbdkhcjaa

/- Change. -/
namespace Go.Proofs.Ytncnojhbdkhcjaa
open Go.RowKit Go.Hw Go
set_option linter.unusedVariables false
set_option linter.unusedSimpArgs false

/-- a change of speed: the number of the error, and the motions behind it -/
def chR (N : Nat) (i sp : Int) : Bool := decide (i < 0) || decide ((N : Int) ≤ i) || decide (sp < -1000) || decide (1000 < sp)
def chX (l : List Mo) (n : Int) (i : Nat) (sp : Int) : Int := ((mg l i).2 - sp) * n
def chA (l : List Mo) (n d : Int) (i : Nat) (sp : Int) : Int := (mg l i).1 + (chX l n i sp).tdiv d
def chE (l : List Mo) (n d i sp : Int) : Int :=
  if chR l.length i sp then 2 else if (chX l n i.toNat sp).tmod d ≠ 0 then 30 else if badM (chA l n d i.toNat sp) sp then 5 else 0
def chL (l : List Mo) (n d i sp : Int) : List Mo := if chE l n d i sp = 0 then l.set i.toNat (chA l n d i.toNat sp, sp) else l
theorem chR_iff (N : Nat) (i sp : Int) : chR N i sp = false ↔ (0 ≤ i ∧ i < (N : Int)) ∧ (-1000 ≤ sp ∧ sp ≤ 1000) := by
  unfold chR
  simp only [Bool.or_eq_false_iff, decide_eq_false_iff_not]
  omega
theorem chX_bd {l : List Mo} {n sp : Int} {i : Nat} (hm : mB l = true) (hn : -1073741824 ≤ n ∧ n ≤ 1073741824) (hs : -1000 ≤ sp ∧ sp ≤ 1000) : -2147483648000 ≤ chX l n i sp ∧ chX l n i sp ≤ 2147483648000 := by
  obtain ⟨_, h3, h4⟩ := (badM_iff _ _).1 (mB_at hm i)
  unfold chX
  generalize (mg l i).2 = s at *
  have a1 : ((s - sp) * n).natAbs ≤ 2000 * 1073741824 := by rw [Int.natAbs_mul]; exact Nat.mul_le_mul (by omega) (by omega)
  omega
theorem tdiv_bd2 {x d : Int} {B : Nat} (h : -(B : Int) ≤ x ∧ x ≤ B) : -(B : Int) ≤ x.tdiv d ∧ x.tdiv d ≤ B := by
  have h1 : (x.tdiv d).natAbs ≤ x.natAbs := by
    rw [Int.natAbs_tdiv]
    exact Nat.div_le_self _ _
  omega
theorem mB_set {l : List Mo} {i : Nat} {m : Mo} (h : mB l = true) (hm : badM m.1 m.2 = false) : mB (l.set i m) = true := by
  unfold mB at *
  rw [List.all_eq_true] at *
  intro x hx
  rcases List.mem_or_eq_of_mem_set hx with h1 | h1
  · exact h x h1
  · subst h1; rw [hm]; rfl
theorem mCells_set (L : List Mo) (x : Mo) : ∀ i, ((mCells L).set (i * 2) (.int .i64 x.1)).set (i * 2 + 1) (.int .i64 x.2) = mCells (L.set i x) := by
  induction L with
  | nil => intro i; simp [mCells]
  | cons a L ih =>
    intro i
    cases i with
    | zero => rfl
    | succ i =>
      have e : ∀ y (M : List Mo), mCells (y :: M) = .int .i64 y.1 :: .int .i64 y.2 :: mCells M := fun _ _ => rfl
      rw [List.set_cons_succ, e, e, ← ih i]
      rw [show (i + 1) * 2 = i * 2 + 1 + 1 by omega]
      simp only [List.set_cons_succ]
theorem own_set2 {w : World} {b : Nat} {e : TypeId} {g cap n : Nat} {L : List Mo} (h : w.ownsRow b e 2 (.slice (some ⟨g, 0, none⟩) n cap) n (mCells L)) (i : Nat) (x0 x1 : Int) :
    ((w.setCell ⟨g, i * 2, none⟩ (.int .i64 x0)).setCell ⟨g, i * 2 + 1, none⟩ (.int .i64 x1)).ownsRow b e 2 (.slice (some ⟨g, 0, none⟩) n cap) n (mCells (L.set i (x0, x1))) := by
  rw [← mCells_set]
  exact own_setS (own_setS h _ _) _ _
set_option maxRecDepth 100000 in
set_option maxHeartbeats 2000000 in
theorem change_range (w : World) (kb : Nat) (mv ov : Value) (l : List Mo) (n d i sp : Int) (h : LiR w kb mv ov l n d) (hr : chR l.length i sp = true) :
    Calls Try.prog 32 #[.pointer (some ⟨kb, 0, none⟩), .int .i64 i, .int .i64 sp] w fun e w' => e = .returned (.int .i64 2) ∧ Ext w w' := by
  obtain ⟨am, cm, rfl⟩ := own_shape h.mot
  have c0 := cellRow h.cell 0 (.slice am l.length cm) rfl
  have hrf := Lib.hid (Upd.refl (fun _ => False) w)
  unfold chR at hr
  clear h
  by_cases h1 : i < 0
  · have t1 : decide (i < 0) = true := decide_eq_true h1
    clear hr h1
    go_enter Try.func32, Try.ntmps32
    go_wp2_with fail
    go_ret
    exact ⟨rfl, hrf.out⟩
  have t1 : decide (i < 0) = false := decide_eq_false h1
  by_cases h2 : (l.length : Int) ≤ i
  · have t2 : decide ((l.length : Int) ≤ i) = true := decide_eq_true h2
    clear hr h1 h2
    go_enter Try.func32, Try.ntmps32
    go_wp2_with fail
    go_ret
    exact ⟨rfl, hrf.out⟩
  have t2 : decide ((l.length : Int) ≤ i) = false := decide_eq_false h2
  by_cases h3 : sp < -1000
  · have t3 : decide (sp < -1000) = true := decide_eq_true h3
    clear hr h1 h2 h3
    go_enter Try.func32, Try.ntmps32
    go_wp2_with fail
    go_ret
    exact ⟨rfl, hrf.out⟩
  have t3 : decide (sp < -1000) = false := decide_eq_false h3
  rw [t1, t2, t3, Bool.false_or, Bool.false_or, Bool.false_or] at hr
  clear h1 h2 h3
  go_enter Try.func32, Try.ntmps32
  go_wp2_with fail
  go_ret
  exact ⟨rfl, hrf.out⟩
set_option maxRecDepth 100000 in
set_option maxHeartbeats 2000000 in
theorem change_shape (w : World) (kb : Nat) (mv ov : Value) (l : List Mo) (n d i sp : Int) (h : LiR w kb mv ov l n d) (hr : chR l.length i sp = false) (hx : (chX l n i.toNat sp).tmod d ≠ 0) :
    Calls Try.prog 32 #[.pointer (some ⟨kb, 0, none⟩), .int .i64 i, .int .i64 sp] w fun e w' => e = .returned (.int .i64 30) ∧ Ext w w' := by
  obtain ⟨⟨hi0, hi1⟩, hs0, hs1⟩ := (chR_iff _ _ _).1 hr
  obtain ⟨j, rfl⟩ : ∃ j : Nat, i = (j : Int) := ⟨i.toNat, by omega⟩
  have hjl : j < l.length := by omega
  have hlen := h.len
  obtain ⟨gm, cm, rfl⟩ := own_some h.mot (by omega)
  have HLI := Lib.hid h
  obtain ⟨⟨ha0, ha1⟩, hb0, hb1⟩ := (badM_iff _ _).1 (mB_at h.okm j)
  have hX := chX_bd (i := j) h.okm (vf_bd h.okt).1 ⟨hs0, hs1⟩
  have hnb := (vf_bd h.okt).1
  have hdb := (vf_bd h.okt).2.1
  have t1 : decide ((j : Int) < 0) = false := decide_eq_false (by omega)
  have t2 : decide ((l.length : Int) ≤ (j : Int)) = false := decide_eq_false (by omega)
  have t2' : decide (l.length ≤ j) = false := decide_eq_false (by omega)
  have t3 : decide (sp < -1000) = false := decide_eq_false (by omega)
  have t4 : decide (1000 < sp) = false := decide_eq_false (by omega)
  rw [Int.toNat_natCast] at *
  have c0 := cellRow h.cell 0 (.slice (some ⟨gm, 0, none⟩) l.length cm) rfl
  obtain ⟨p0, p1⟩ := h.mor.cells hjl
  simp only [Nat.zero_add] at p0 p1
  have hdz : d ≠ 0 := by omega
  have hdz' : (d == 0) = false := by simpa using hdz
  have hXe : ((mg l j).2 - sp) * n = chX l n j sp := rfl
  have hAe : chA l n d j sp = (mg l j).1 + (chX l n j sp).tdiv d := rfl
  have hb7 := alloc0 w (.cells #[.int .i64 (mg l j).1, .int .i64 (mg l j).2] 23)
  have hk7 := allocOld h.cell (.cells #[.int .i64 (mg l j).1, .int .i64 (mg l j).2] 23)
  have HZ := Lib.hid ((Upd.refl (fun _ => False) w).alloc (.cells #[.int .i64 (mg l j).1, .int .i64 (mg l j).2] 23))
  have d0 := cellRow hb7 0 (.int .i64 (mg l j).1) rfl
  have d1 := cellRow hb7 1 (.int .i64 (mg l j).2) rfl
  have d2 := cellRow hk7 1 (.int .i64 n) rfl
  have d3 := cellRow hk7 2 (.int .i64 d) rfl
  have w1 : IntKind.i64.wrap ((mg l j).2 - sp) = (mg l j).2 - sp := IntWalk.i64_in _ (by omega)
  have w2 : wrap64 ((mg l j).2 - sp) = (mg l j).2 - sp := IntWalk.wrap64_in _ (by omega)
  have w3 : IntKind.i64.wrap (((mg l j).2 - sp) * n) = chX l n j sp := IntWalk.i64_in _ (by have := hX; unfold chX at this; omega)
  have w4 : wrap64 (((mg l j).2 - sp) * n) = chX l n j sp := IntWalk.wrap64_in _ (by have := hX; unfold chX at this; omega)
  have t5 : ((chX l n j sp).tmod d != 0) = true := by simpa using hx
  clear h hb7 hk7 hr hx hX hXe hAe
  generalize chX l n j sp = X at *
  generalize (mg l j).1 = u0 at *
  generalize (mg l j).2 = u1 at *
  go_enter Try.func32, Try.ntmps32
  go_wp2_with fail
  generalize (w.alloc (.cells #[.int .i64 u0, .int .i64 u1] 23)) = wb at *
  go_quiet (fail)
  go_wp2_with fail
  go_ret
  exact ⟨rfl, HZ.out.drewN' nq⟩
set_option maxRecDepth 100000 in
set_option maxHeartbeats 2000000 in
theorem change_big (w : World) (kb : Nat) (mv ov : Value) (l : List Mo) (n d i sp : Int) (h : LiR w kb mv ov l n d) (hr : chR l.length i sp = false) (hx : (chX l n i.toNat sp).tmod d = 0) (hb : badM (chA l n d i.toNat sp) sp = true) :
    Calls Try.prog 32 #[.pointer (some ⟨kb, 0, none⟩), .int .i64 i, .int .i64 sp] w fun e w' => e = .returned (.int .i64 5) ∧ Ext w w' := by
  obtain ⟨⟨hi0, hi1⟩, hs0, hs1⟩ := (chR_iff _ _ _).1 hr
  obtain ⟨j, rfl⟩ : ∃ j : Nat, i = (j : Int) := ⟨i.toNat, by omega⟩
  have hjl : j < l.length := by omega
  have hlen := h.len
  obtain ⟨gm, cm, rfl⟩ := own_some h.mot (by omega)
  have HLI := Lib.hid h
  obtain ⟨⟨ha0, ha1⟩, hb0, hb1⟩ := (badM_iff _ _).1 (mB_at h.okm j)
  have hX := chX_bd (i := j) h.okm (vf_bd h.okt).1 ⟨hs0, hs1⟩
  have hnb := (vf_bd h.okt).1
  have hdb := (vf_bd h.okt).2.1
  have t1 : decide ((j : Int) < 0) = false := decide_eq_false (by omega)
  have t2 : decide ((l.length : Int) ≤ (j : Int)) = false := decide_eq_false (by omega)
  have t2' : decide (l.length ≤ j) = false := decide_eq_false (by omega)
  have t3 : decide (sp < -1000) = false := decide_eq_false (by omega)
  have t4 : decide (1000 < sp) = false := decide_eq_false (by omega)
  rw [Int.toNat_natCast] at *
  have c0 := cellRow h.cell 0 (.slice (some ⟨gm, 0, none⟩) l.length cm) rfl
  obtain ⟨p0, p1⟩ := h.mor.cells hjl
  simp only [Nat.zero_add] at p0 p1
  have hdz : d ≠ 0 := by omega
  have hdz' : (d == 0) = false := by simpa using hdz
  have hXe : ((mg l j).2 - sp) * n = chX l n j sp := rfl
  have hAe : chA l n d j sp = (mg l j).1 + (chX l n j sp).tdiv d := rfl
  have hb7 := alloc0 w (.cells #[.int .i64 (mg l j).1, .int .i64 (mg l j).2] 23)
  have hk7 := allocOld h.cell (.cells #[.int .i64 (mg l j).1, .int .i64 (mg l j).2] 23)
  have HZ := Lib.hid ((Upd.refl (fun _ => False) w).alloc (.cells #[.int .i64 (mg l j).1, .int .i64 (mg l j).2] 23))
  have d0 := cellRow hb7 0 (.int .i64 (mg l j).1) rfl
  have d1 := cellRow hb7 1 (.int .i64 (mg l j).2) rfl
  have d2 := cellRow hk7 1 (.int .i64 n) rfl
  have d3 := cellRow hk7 2 (.int .i64 d) rfl
  have w1 : IntKind.i64.wrap ((mg l j).2 - sp) = (mg l j).2 - sp := IntWalk.i64_in _ (by omega)
  have w2 : wrap64 ((mg l j).2 - sp) = (mg l j).2 - sp := IntWalk.wrap64_in _ (by omega)
  have w3 : IntKind.i64.wrap (((mg l j).2 - sp) * n) = chX l n j sp := IntWalk.i64_in _ (by have := hX; unfold chX at this; omega)
  have w4 : wrap64 (((mg l j).2 - sp) * n) = chX l n j sp := IntWalk.wrap64_in _ (by have := hX; unfold chX at this; omega)
  have t5 : ((chX l n j sp).tmod d != 0) = false := by simpa using hx
  have hq := tdiv_bd2 (x := chX l n j sp) (d := d) (B := 2147483648000) ⟨by omega, by omega⟩
  have w5 : IntKind.i64.wrap ((mg l j).1 + (chX l n j sp).tdiv d) = chA l n d j sp := by rw [hAe]; exact IntWalk.i64_in _ (by omega)
  have w6 : wrap64 ((mg l j).1 + (chX l n j sp).tdiv d) = chA l n d j sp := by rw [hAe]; exact IntWalk.wrap64_in _ (by omega)
  have w7 : IntKind.i64.wrap ((chX l n j sp).tdiv d) = (chX l n j sp).tdiv d := IntWalk.i64_in _ (by omega)
  have w8 : wrap64 ((chX l n j sp).tdiv d) = (chX l n j sp).tdiv d := IntWalk.wrap64_in _ (by omega)
  have HBD := Lib.hid (fun W => bad_x (chA l n d j sp) sp W)
  rw [hb] at HBD
  have HKB := Lib.hid (Array.getElem?_eq_some_iff.1 h.cell).1
  clear h hb7 hk7 hr hx hX hXe hAe hb
  generalize chA l n d j sp = A at *
  generalize chX l n j sp = X at *
  generalize (mg l j).1 = u0 at *
  generalize (mg l j).2 = u1 at *
  go_enter Try.func32, Try.ntmps32
  go_wp2_with fail
  generalize (w.alloc (.cells #[.int .i64 u0, .int .i64 u1] 23)) = wb at *
  go_quiet (fail)
  have x0 := fun x : XW (wb.drewN nq) => x.ext.cell (w := wb.drewN nq) d0 (fun h => h)
  have x1 := fun x : XW (wb.drewN nq) => x.ext.cell (w := wb.drewN nq) d1 (fun h => h)
  have x2 := fun x : XW (wb.drewN nq) => x.ext.cell (w := wb.drewN nq) d2 (fun h => h)
  have x3 := fun x : XW (wb.drewN nq) => x.ext.cell (w := wb.drewN nq) d3 (fun h => h)
  go_wp2_with fail
  refine wp_region_parF (α := Nat) 13 [] 13 [(13, 2)] [[], [0], [], [], [3], [3, 4], [3, 4, 5], [3, 4, 5, 6], [2, 3, 4, 5, 6, 7], [0, 1, 2, 3, 4, 5, 6, 7, 8], [], [0, 1, 2, 3, 4, 5, 6, 7, 8, 9, 10], [], [0, 1, 2, 3, 4, 5, 6, 7, 8, 9, 10, 11, 12]]
    [none, none, none, none, none, none, none, none, none, none, none, none, some (annBlk (fun g => .pointer (some ⟨g, 0, none⟩)) (fun g => g) wb.heap.size (.cells #[.int .i64 0, .int .i64 0] 23))]
    [false, false, false, false, false, false, false, false, false, false, false, false, true] (by kernel_rfl) (by kernel_rfl) rfl (fun _ _ d _ _ h => by cases d <;> exact h) ?_
  simp only [List.take_succ_cons, List.take_zero, pickO, List.getElem?_cons_zero, List.getElem?_cons_succ]
  iterate 12 (refine can_pure0 rfl (fun K hK => ?_); go_simp; refine hK _ ?_; clear hK K)
  refine can_mem _ rfl (by go_simp) (fun W hW hG K hK => ?_) (fun K g9 hK => ?_)
  · go_simp
    exact hK W.heap.size _ ((Upd.refl _ W).alloc _) ⟨hW.size, alloc0 _ _⟩
  refine hK _ ?_; clear hK K
  dsimp only [annBlk]
  refine can_end (fun w9 hW hG => ?_)
  obtain ⟨hb9, hg9⟩ := hG _ (List.mem_append_right _ (List.mem_singleton.2 rfl))
  clear hG
  have H9 : Hid (Ext wb w9) := Lib.hid hW.ofDrewN
  have m0 := frozenRow hg9 0
  have m1 := frozenRow hg9 1
  have cc0 := cellRow hg9 0 (.int .i64 0) rfl
  have cc1 := cellRow hg9 1 (.int .i64 0) rfl
  have HG9 := Lib.hid (And.intro hb9 hg9)
  clear hW hg9 hb9
  refine mix_two (fun K hK => ?_); go_simp; refine hK _ _ ?_; clear hK K
  simp only [wpMix]
  have H10 : Hid (Ext wb ((w9.setCell ⟨g9, 0, none⟩ (.int .i64 A)).setCell ⟨g9, 1, none⟩ (.int .i64 sp))) := Lib.hid ((H9.out.setNew HG9.out.1 _).setNew HG9.out.1 _)
  have hb10 := setBlock (setBlock HG9.out.2 0 (.int .i64 A)) 1 (.int .i64 sp)
  have e0 := cellRow hb10 0 (.int .i64 A) rfl
  have e1 := cellRow hb10 1 (.int .i64 sp) rfl
  have HB10 := Lib.hid hb10
  clear hb10 m0 m1 cc0 cc1 x0 x1 x2 x3 d0 d1 d2 d3
  generalize ((w9.setCell ⟨g9, 0, none⟩ (.int .i64 A)).setCell ⟨g9, 1, none⟩ (.int .i64 sp)) = w10 at *
  go_wp2_with fail
  refine (HBD.out _).mono ?_
  rintro e w11 ⟨rfl, hw11⟩
  have H11 := Lib.hid (H10.out.ext hw11)
  have HB11 := Lib.hid (hw11.heap HB10.out (fun h => h))
  clear hw11 e0 e1
  go_wp2_with fail
  go_ret
  exact ⟨rfl, HZ.out.ext H11.out⟩
set_option maxRecDepth 100000 in
set_option maxHeartbeats 2000000 in
theorem change_ok (w : World) (kb : Nat) (mv ov : Value) (l : List Mo) (n d i sp : Int) (h : LiR w kb mv ov l n d) (hr : chR l.length i sp = false) (hx : (chX l n i.toNat sp).tmod d = 0) (hb : badM (chA l n d i.toNat sp) sp = false) :
    Calls Try.prog 32 #[.pointer (some ⟨kb, 0, none⟩), .int .i64 i, .int .i64 sp] w fun e w' => e = .returned (.int .i64 0) ∧ ∃ ov', LiR w' kb mv ov' (l.set i.toNat (chA l n d i.toNat sp, sp)) n d ∧ (∀ g, ov'.ownBlock = some g → w.heap.size ≤ g) ∧ Upd (fun k => k = kb ∨ mv.ownBlock = some k) w w' := by
  obtain ⟨⟨hi0, hi1⟩, hs0, hs1⟩ := (chR_iff _ _ _).1 hr
  obtain ⟨j, rfl⟩ : ∃ j : Nat, i = (j : Int) := ⟨i.toNat, by omega⟩
  have hjl : j < l.length := by omega
  have hlen := h.len
  obtain ⟨gm, cm, rfl⟩ := own_some h.mot (by omega)
  have HLI := Lib.hid h
  obtain ⟨⟨ha0, ha1⟩, hb0, hb1⟩ := (badM_iff _ _).1 (mB_at h.okm j)
  have hX := chX_bd (i := j) h.okm (vf_bd h.okt).1 ⟨hs0, hs1⟩
  have hnb := (vf_bd h.okt).1
  have hdb := (vf_bd h.okt).2.1
  have t1 : decide ((j : Int) < 0) = false := decide_eq_false (by omega)
  have t2 : decide ((l.length : Int) ≤ (j : Int)) = false := decide_eq_false (by omega)
  have t2' : decide (l.length ≤ j) = false := decide_eq_false (by omega)
  have t3 : decide (sp < -1000) = false := decide_eq_false (by omega)
  have t4 : decide (1000 < sp) = false := decide_eq_false (by omega)
  rw [Int.toNat_natCast] at *
  have c0 := cellRow h.cell 0 (.slice (some ⟨gm, 0, none⟩) l.length cm) rfl
  obtain ⟨p0, p1⟩ := h.mor.cells hjl
  simp only [Nat.zero_add] at p0 p1
  have hdz : d ≠ 0 := by omega
  have hdz' : (d == 0) = false := by simpa using hdz
  have hXe : ((mg l j).2 - sp) * n = chX l n j sp := rfl
  have hAe : chA l n d j sp = (mg l j).1 + (chX l n j sp).tdiv d := rfl
  have hb7 := alloc0 w (.cells #[.int .i64 (mg l j).1, .int .i64 (mg l j).2] 23)
  have hk7 := allocOld h.cell (.cells #[.int .i64 (mg l j).1, .int .i64 (mg l j).2] 23)
  have HZ := Lib.hid ((Upd.refl (fun _ => False) w).alloc (.cells #[.int .i64 (mg l j).1, .int .i64 (mg l j).2] 23))
  have d0 := cellRow hb7 0 (.int .i64 (mg l j).1) rfl
  have d1 := cellRow hb7 1 (.int .i64 (mg l j).2) rfl
  have d2 := cellRow hk7 1 (.int .i64 n) rfl
  have d3 := cellRow hk7 2 (.int .i64 d) rfl
  have w1 : IntKind.i64.wrap ((mg l j).2 - sp) = (mg l j).2 - sp := IntWalk.i64_in _ (by omega)
  have w2 : wrap64 ((mg l j).2 - sp) = (mg l j).2 - sp := IntWalk.wrap64_in _ (by omega)
  have w3 : IntKind.i64.wrap (((mg l j).2 - sp) * n) = chX l n j sp := IntWalk.i64_in _ (by have := hX; unfold chX at this; omega)
  have w4 : wrap64 (((mg l j).2 - sp) * n) = chX l n j sp := IntWalk.wrap64_in _ (by have := hX; unfold chX at this; omega)
  have t5 : ((chX l n j sp).tmod d != 0) = false := by simpa using hx
  have hq := tdiv_bd2 (x := chX l n j sp) (d := d) (B := 2147483648000) ⟨by omega, by omega⟩
  have w5 : IntKind.i64.wrap ((mg l j).1 + (chX l n j sp).tdiv d) = chA l n d j sp := by rw [hAe]; exact IntWalk.i64_in _ (by omega)
  have w6 : wrap64 ((mg l j).1 + (chX l n j sp).tdiv d) = chA l n d j sp := by rw [hAe]; exact IntWalk.wrap64_in _ (by omega)
  have w7 : IntKind.i64.wrap ((chX l n j sp).tdiv d) = (chX l n j sp).tdiv d := IntWalk.i64_in _ (by omega)
  have w8 : wrap64 ((chX l n j sp).tdiv d) = (chX l n j sp).tdiv d := IntWalk.wrap64_in _ (by omega)
  have HBD := Lib.hid (fun W => bad_x (chA l n d j sp) sp W)
  rw [hb] at HBD
  have HKB := Lib.hid (Array.getElem?_eq_some_iff.1 h.cell).1
  have HMB := Lib.hid (mB_set (i := j) (m := (chA l n d j sp, sp)) h.okm hb)
  have HORD := Lib.hid (fun W (S : Nat → Prop) (v : Value) (hm : mB (l.set j (chA l n d j sp, sp)) = true) hR hS => order_x (l.set j (chA l n d j sp, sp)) n d S v W (by rw [List.length_set]; omega) hm h.okt hR hS)
  clear h hb7 hk7 hr hx hX hXe hAe hb
  generalize chA l n d j sp = A at *
  generalize chX l n j sp = X at *
  generalize (mg l j).1 = u0 at *
  generalize (mg l j).2 = u1 at *
  go_enter Try.func32, Try.ntmps32
  go_wp2_with fail
  generalize (w.alloc (.cells #[.int .i64 u0, .int .i64 u1] 23)) = wb at *
  go_quiet (fail)
  have x0 := fun x : XW (wb.drewN nq) => x.ext.cell (w := wb.drewN nq) d0 (fun h => h)
  have x1 := fun x : XW (wb.drewN nq) => x.ext.cell (w := wb.drewN nq) d1 (fun h => h)
  have x2 := fun x : XW (wb.drewN nq) => x.ext.cell (w := wb.drewN nq) d2 (fun h => h)
  have x3 := fun x : XW (wb.drewN nq) => x.ext.cell (w := wb.drewN nq) d3 (fun h => h)
  go_wp2_with fail
  refine wp_region_parF (α := Nat) 13 [] 13 [(13, 2)] [[], [0], [], [], [3], [3, 4], [3, 4, 5], [3, 4, 5, 6], [2, 3, 4, 5, 6, 7], [0, 1, 2, 3, 4, 5, 6, 7, 8], [], [0, 1, 2, 3, 4, 5, 6, 7, 8, 9, 10], [], [0, 1, 2, 3, 4, 5, 6, 7, 8, 9, 10, 11, 12]]
    [none, none, none, none, none, none, none, none, none, none, none, none, some (annBlk (fun g => .pointer (some ⟨g, 0, none⟩)) (fun g => g) wb.heap.size (.cells #[.int .i64 0, .int .i64 0] 23))]
    [false, false, false, false, false, false, false, false, false, false, false, false, true] (by kernel_rfl) (by kernel_rfl) rfl (fun _ _ d _ _ h => by cases d <;> exact h) ?_
  simp only [List.take_succ_cons, List.take_zero, pickO, List.getElem?_cons_zero, List.getElem?_cons_succ]
  iterate 12 (refine can_pure0 rfl (fun K hK => ?_); go_simp; refine hK _ ?_; clear hK K)
  refine can_mem _ rfl (by go_simp) (fun W hW hG K hK => ?_) (fun K g9 hK => ?_)
  · go_simp
    exact hK W.heap.size _ ((Upd.refl _ W).alloc _) ⟨hW.size, alloc0 _ _⟩
  refine hK _ ?_; clear hK K
  dsimp only [annBlk]
  refine can_end (fun w9 hW hG => ?_)
  obtain ⟨hb9, hg9⟩ := hG _ (List.mem_append_right _ (List.mem_singleton.2 rfl))
  clear hG
  have H9 : Hid (Ext wb w9) := Lib.hid hW.ofDrewN
  have m0 := frozenRow hg9 0
  have m1 := frozenRow hg9 1
  have cc0 := cellRow hg9 0 (.int .i64 0) rfl
  have cc1 := cellRow hg9 1 (.int .i64 0) rfl
  have HG9 := Lib.hid (And.intro hb9 hg9)
  clear hW hg9 hb9
  refine mix_two (fun K hK => ?_); go_simp; refine hK _ _ ?_; clear hK K
  simp only [wpMix]
  have H10 : Hid (Ext wb ((w9.setCell ⟨g9, 0, none⟩ (.int .i64 A)).setCell ⟨g9, 1, none⟩ (.int .i64 sp))) := Lib.hid ((H9.out.setNew HG9.out.1 _).setNew HG9.out.1 _)
  have hb10 := setBlock (setBlock HG9.out.2 0 (.int .i64 A)) 1 (.int .i64 sp)
  have e0 := cellRow hb10 0 (.int .i64 A) rfl
  have e1 := cellRow hb10 1 (.int .i64 sp) rfl
  have HB10 := Lib.hid hb10
  clear hb10 m0 m1 cc0 cc1 x0 x1 x2 x3 d0 d1 d2 d3
  generalize ((w9.setCell ⟨g9, 0, none⟩ (.int .i64 A)).setCell ⟨g9, 1, none⟩ (.int .i64 sp)) = w10 at *
  go_wp2_with fail
  refine (HBD.out _).mono ?_
  rintro e w11 ⟨rfl, hw11⟩
  have H11 := Lib.hid (H10.out.ext hw11)
  have HB11 := Lib.hid (hw11.heap HB10.out (fun h => h))
  clear hw11 e0 e1
  have HLW : Hid (LiR w11 kb (.slice (some ⟨gm, 0, none⟩) l.length cm) ov l n d) := Lib.hid (HLI.out.ext (HZ.out.ext H11.out))
  have hlen2 : (l.set j (A, sp)).length = l.length := List.length_set
  have c0' := cellRow HLW.out.cell 0 (.slice (some ⟨gm, 0, none⟩) l.length cm) rfl
  have e0 := cellRow HB11.out 0 (.int .i64 A) rfl
  have e1 := cellRow HB11.out 1 (.int .i64 sp) rfl
  have x0 := fun x : XW w11 => x.ext.cell c0' (fun h => h)
  have x1 := fun x : XW w11 => x.ext.cell e0 (fun h => h)
  have x2 := fun x : XW w11 => x.ext.cell e1 (fun h => h)
  clear c0' e0 e1 c0 p0 p1
  go_wp2_with fail
  refine wp_region_parF (α := Nat) 7 [] 7 [(7, 2)] [[], [0], [0, 1], [0, 1, 2], [], [], [0, 1, 2, 3, 4, 5], [0, 1, 2, 3, 4, 5, 6]]
    [none, none, none, none, none, none, none]
    [false, false, false, false, false, false, false] (by kernel_rfl) (by kernel_rfl) rfl (fun _ _ d _ _ h => by cases d <;> exact h) ?_
  simp only [List.take_succ_cons, List.take_zero, pickO, List.getElem?_cons_zero, List.getElem?_cons_succ]
  iterate 7 (refine can_pure0 rfl (fun K hK => ?_); go_simp; refine hK _ ?_; clear hK K)
  refine can_end (fun w12 hW hG => ?_)
  clear hG x0 x1 x2
  have H12 := Lib.hid (H11.out.ext hW)
  have HL12 := Lib.hid (HLW.out.ext hW)
  clear hW
  obtain ⟨q0, q1⟩ := HL12.out.mor.cells hjl
  simp only [Nat.zero_add] at q0 q1
  obtain ⟨cur, hcur⟩ := own_block HL12.out.mot
  have m0 := frozenRow hcur (j * 2)
  have m1 := frozenRow hcur (j * 2 + 1)
  clear hcur
  refine mix_two (fun K hK => ?_); go_simp; refine hK _ _ ?_; clear hK K
  simp only [wpMix]
  have HST : Hid (Upd (fun k => k = gm) w12 ((w12.setCell ⟨gm, j * 2, none⟩ (.int .i64 A)).setCell ⟨gm, j * 2 + 1, none⟩ (.int .i64 sp))) := Lib.hid (((Upd.refl (fun k => k = gm) w12).setCell (p := ⟨gm, j * 2, none⟩) (.inl rfl) _).setCell (p := ⟨gm, j * 2 + 1, none⟩) (.inl rfl) _)
  have HM13 : Hid (((w12.setCell ⟨gm, j * 2, none⟩ (.int .i64 A)).setCell ⟨gm, j * 2 + 1, none⟩ (.int .i64 sp)).ownsRow 0 23 2 (.slice (some ⟨gm, 0, none⟩) l.length cm) l.length (mCells (l.set j (A, sp)))) := Lib.hid (own_set2 HL12.out.mot j A sp)
  clear q0 q1 m0 m1
  generalize ((w12.setCell ⟨gm, j * 2, none⟩ (.int .i64 A)).setCell ⟨gm, j * 2 + 1, none⟩ (.int .i64 sp)) = w14 at *
  have hgk : kb ≠ gm := fun e => HLI.out.mne (by rw [e]; rfl)
  have hk14 := HST.out.heap HL12.out.cell hgk
  have HK14 := Lib.hid hk14
  have f0 := cellRow hk14 0 (.slice (some ⟨gm, 0, none⟩) l.length cm) rfl
  have f1 := cellRow hk14 1 (.int .i64 n) rfl
  have f2 := cellRow hk14 2 (.int .i64 d) rfl
  have HR14 : Hid (MoR (fun k => k < w14.heap.size) w14 (.slice (some ⟨gm, 0, none⟩) l.length cm) (l.set j (A, sp))) := Lib.hid (by unfold MoR; rw [hlen2]; exact (SlR.of_own HM13.out).weaken (fun k hk => (HM13.out.lt k hk).2))
  have x0 := fun x : XW w14 => x.ext.cell f0 (fun h => h)
  have x1 := fun x : XW w14 => x.ext.cell f1 (fun h => h)
  have x2 := fun x : XW w14 => x.ext.cell f2 (fun h => h)
  have HOC : Hid (∀ W, Ext w14 W → Calls Try.prog 52 #[.slice (some ⟨gm, 0, none⟩) l.length cm, .agg #[.int .i64 n, .int .i64 d]] W fun e w' => ∃ r, e = .returned r ∧ w'.ownsRow W.heap.size 3 1 r l.length (iCells (ordF (l.set j (A, sp)) n d)) ∧ Ext W w') := Lib.hid (fun W hW => by
    have h := HORD.out W _ _ HMB.out (HR14.out.ext hW) (fun k hk => Nat.lt_of_lt_of_le hk hW.size)
    rw [hlen2] at h
    exact h)
  clear hk14 f0 f1 f2 HORD
  go_wp2_with fail
  refine wp_region_parF (α := Option Addr × Nat) 12 [] 12 [(12, 2)] [[], [], [1], [1, 2], [1, 2, 3], [], [5], [5, 6], [5, 6, 7], [1, 2, 3, 4, 5, 6, 7, 8], [0, 1, 2, 3, 4, 5, 6, 7, 8, 9], [0, 1, 2, 3, 4, 5, 6, 7, 8, 9, 10], [0, 1, 2, 3, 4, 5, 6, 7, 8, 9, 10, 11]]
    [none, none, none, none, none, none, none, none, none, some ⟨fun x : Option Addr × Nat => Value.slice x.1 l.length x.2, fun x W => W.ownsRow w14.heap.size 3 1 (.slice x.1 l.length x.2) l.length (iCells (ordF (l.set j (A, sp)) n d)), fun x W W' h hE => own_kept h hE (fun _ _ h => h)⟩, none, none]
    [false, false, false, false, false, false, false, false, false, true, false, false] (by kernel_rfl) (by kernel_rfl) rfl (fun _ _ d _ _ h => by cases d <;> exact h) ?_
  simp only [List.take_succ_cons, List.take_zero, pickO, List.getElem?_cons_zero, List.getElem?_cons_succ]
  iterate 9 (refine can_pure0 rfl (fun K hK => ?_); go_simp; refine hK _ ?_; clear hK K)
  refine can_mem _ rfl (by go_simp) (fun W hW hG K hK => ?_) (fun K x9 hK => ?_)
  · go_simp
    refine (HOC.out W hW).mono ?_
    rintro e w' ⟨r, rfl, hO, hE⟩
    obtain ⟨a9, c9, hr9⟩ := own_shape hO
    subst hr9
    exact hK (a9, c9) w' hE (own_base hO hW.size)
  refine hK _ ?_; clear hK K
  dsimp only
  iterate 2 (refine can_pure0 rfl (fun K hK => ?_); go_simp; refine hK _ ?_; clear hK K)
  refine can_end (fun w16 hW hG => ?_)
  have hO16 := hG _ (List.mem_append_right _ (List.mem_singleton.2 rfl))
  obtain ⟨a9, c9⟩ := x9
  simp only at hO16
  have HO16 := Lib.hid hO16
  have HK16 := Lib.hid (hW.heap HK14.out (fun h => h))
  have HM16 := Lib.hid (own_kept HM13.out hW (fun _ _ h => h))
  have HU16 : Hid (Upd (fun k => k = gm) w w16) := Lib.hid ((((HZ.out.ext H12.out).mono (fun _ _ h => h.elim)).trans' HST.out (fun i hi e => e)).ext hW)
  have HS16 : Hid (w.heap.size ≤ w14.heap.size) := Lib.hid (Nat.le_trans (HZ.out.ext H12.out).size HST.out.size)
  have k3 := cellRow HK16.out 3 ov rfl
  have g3 := frozenRow HK16.out 3
  clear hW hG hO16 x0 x1 x2
  obtain ⟨ao, co, hov⟩ := own_shape HLI.out.ord
  subst hov
  refine mix_two (fun K hK => ?_); go_simp; refine hK _ _ ?_; clear hK K
  simp only [wpMix]
  go_wp2_with fail
  go_ret
  have hst : Upd (fun k => k = kb) w16 (w16.setCell ⟨kb, 3, none⟩ (.slice a9 l.length c9)) := (Upd.refl (fun k => k = kb) w16).setCell (p := ⟨kb, 3, none⟩) (.inl rfl) _
  refine ⟨rfl, .slice a9 l.length c9, ⟨setBlock HK16.out 3 (.slice a9 l.length c9), ?_, ?_, HLI.out.mne, fun h => ?_, fun g h1 h2 => ?_, HMB.out, HLI.out.okt, HLI.out.pos, by rw [hlen2]; exact HLI.out.len⟩, fun g hg => ?_, ?_⟩
  · rw [hlen2]; exact own_kept HM16.out hst (fun g hg h => HLI.out.mne (by rw [hg, h]))
  · rw [hlen2]; exact own_base (own_kept HO16.out hst (fun g hg h => by have h1 := (HO16.out.lt g hg).1; have h2 := HS16.out; have h3 := HKB.out; omega)) (Nat.zero_le _)
  · have h1 := (HO16.out.lt _ h).1; have h2 := HS16.out; have h3 := HKB.out; omega
  · have h3 := (HO16.out.lt g h2).1; have h4 := HS16.out; have h5 := (HLI.out.mot.lt g h1).2; omega
  · have h3 := (HO16.out.lt g hg).1; have h4 := HS16.out; omega
  · exact (HU16.out.mono (fun k _ e => .inr (by rw [e]; rfl))).trans' hst (fun i hi e => .inl e)

end Go.Proofs.Ytncnojhbdkhcjaa

/- Change of the reference. -/
namespace Go.Proofs.Ytncnojhbdkhcjaa
open Go.RowKit Go.Hw Go
set_option linter.unusedVariables false
set_option linter.unusedSimpArgs false
set_option maxRecDepth 100000 in
set_option maxHeartbeats 2000000 in
theorem rchange_range (l : List Mo) (n d i sp : Int) (S : Nat → Prop) (v : Value) (w : World) (hlen : l.length ≤ 64) (hm : mB l = true) (hv : vfB n d = true) (hR : MoR S w v l) (hr : chR l.length i sp = true) :
    Calls Try.prog 31 #[v, .agg #[.int .i64 n, .int .i64 d], .int .i64 i, .int .i64 sp] w fun e w' => e = .returned (.tuple #[v, .int .i64 2]) ∧ Ext w w' := by
  obtain ⟨a, cap, rfl⟩ := hR.shape
  have HZ := Lib.hid ((Upd.refl (fun _ => False) w).alloc (.cells #[.int .i64 n, .int .i64 d] 25))
  have hb0 := alloc0 w (.cells #[.int .i64 n, .int .i64 d] 25)
  have HL : Hid ((w.alloc (.cells #[.int .i64 n, .int .i64 d] 25)).heap.size = w.heap.size + 1) := Lib.hid (by simp)
  have HX : Hid (∀ W, Ext (w.alloc (.cells #[.int .i64 n, .int .i64 d] 25)) W → W.cell? ⟨w.heap.size, 0, none⟩ = some (.int .i64 n) ∧ W.cell? ⟨w.heap.size, 1, none⟩ = some (.int .i64 d)) := Lib.hid (fun W hW => ⟨cellRow (hW.heap hb0 (fun h => h)) 0 _ rfl, cellRow (hW.heap hb0 (fun h => h)) 1 _ rfl⟩)
  clear hb0
  obtain ⟨k00, k01⟩ := HX.out _ (Upd.refl _ _)
  unfold chR at hr
  clear hR hm hv
  by_cases h1 : i < 0
  · have t1 : decide (i < 0) = true := decide_eq_true h1
    clear hr h1
    go_enter Try.func31, Try.ntmps31
    go_wp2_with fail
    go_ret2
    exact ⟨rfl, HZ.out⟩
  have t1 : decide (i < 0) = false := decide_eq_false h1
  by_cases h2 : (l.length : Int) ≤ i
  · have t2 : decide ((l.length : Int) ≤ i) = true := decide_eq_true h2
    clear hr h1 h2
    go_enter Try.func31, Try.ntmps31
    go_wp2_with fail
    go_ret2
    exact ⟨rfl, HZ.out⟩
  have t2 : decide ((l.length : Int) ≤ i) = false := decide_eq_false h2
  by_cases h3 : sp < -1000
  · have t3 : decide (sp < -1000) = true := decide_eq_true h3
    clear hr h1 h2 h3
    go_enter Try.func31, Try.ntmps31
    go_wp2_with fail
    go_ret2
    exact ⟨rfl, HZ.out⟩
  have t3 : decide (sp < -1000) = false := decide_eq_false h3
  rw [t1, t2, t3, Bool.false_or, Bool.false_or, Bool.false_or] at hr
  clear h1 h2 h3
  go_enter Try.func31, Try.ntmps31
  go_wp2_with fail
  go_ret2
  exact ⟨rfl, HZ.out⟩
set_option maxRecDepth 100000 in
set_option maxHeartbeats 2000000 in
theorem rchange_shape (l : List Mo) (n d i sp : Int) (S : Nat → Prop) (v : Value) (w : World) (hlen : l.length ≤ 64) (hm : mB l = true) (hv : vfB n d = true) (hR : MoR S w v l) (hr : chR l.length i sp = false) (hx : (chX l n i.toNat sp).tmod d ≠ 0) :
    Calls Try.prog 31 #[v, .agg #[.int .i64 n, .int .i64 d], .int .i64 i, .int .i64 sp] w fun e w' => e = .returned (.tuple #[v, .int .i64 30]) ∧ Ext w w' := by
  obtain ⟨⟨hi0, hi1⟩, hs0, hs1⟩ := (chR_iff _ _ _).1 hr
  obtain ⟨j, rfl⟩ : ∃ j : Nat, i = (j : Int) := ⟨i.toNat, by omega⟩
  have hjl : j < l.length := by omega
  obtain ⟨a, cap, rfl⟩ := hR.shape
  obtain ⟨gm, off, rfl⟩ := hR.at_ (by omega)
  obtain ⟨⟨ha0, ha1⟩, hb0, hb1⟩ := (badM_iff _ _).1 (mB_at hm j)
  have hX := chX_bd (i := j) hm (vf_bd hv).1 ⟨hs0, hs1⟩
  have hnb := (vf_bd hv).1
  have hdb := (vf_bd hv).2.1
  have t1 : decide ((j : Int) < 0) = false := decide_eq_false (by omega)
  have t2 : decide ((l.length : Int) ≤ (j : Int)) = false := decide_eq_false (by omega)
  have t2' : decide (l.length ≤ j) = false := decide_eq_false (by omega)
  have t3 : decide (sp < -1000) = false := decide_eq_false (by omega)
  have t4 : decide (1000 < sp) = false := decide_eq_false (by omega)
  rw [Int.toNat_natCast] at *
  have hdz : d ≠ 0 := by omega
  have hdz' : (d == 0) = false := by simpa using hdz
  have hAe : chA l n d j sp = (mg l j).1 + (chX l n j sp).tdiv d := rfl
  have HZ := Lib.hid ((Upd.refl (fun _ => False) w).alloc (.cells #[.int .i64 n, .int .i64 d] 25))
  have hb0 := alloc0 w (.cells #[.int .i64 n, .int .i64 d] 25)
  have HL : Hid ((w.alloc (.cells #[.int .i64 n, .int .i64 d] 25)).heap.size = w.heap.size + 1) := Lib.hid (by simp)
  have HX : Hid (∀ W, Ext (w.alloc (.cells #[.int .i64 n, .int .i64 d] 25)) W → W.cell? ⟨w.heap.size, 0, none⟩ = some (.int .i64 n) ∧ W.cell? ⟨w.heap.size, 1, none⟩ = some (.int .i64 d)) := Lib.hid (fun W hW => ⟨cellRow (hW.heap hb0 (fun h => h)) 0 _ rfl, cellRow (hW.heap hb0 (fun h => h)) 1 _ rfl⟩)
  clear hb0
  obtain ⟨k00, k01⟩ := HX.out _ (Upd.refl _ _)
  obtain ⟨p0, p1⟩ := (hR.ext HZ.out).cells hjl
  have w1 : IntKind.i64.wrap ((mg l j).2 - sp) = (mg l j).2 - sp := IntWalk.i64_in _ (by omega)
  have w2 : wrap64 ((mg l j).2 - sp) = (mg l j).2 - sp := IntWalk.wrap64_in _ (by omega)
  have w3 : IntKind.i64.wrap (((mg l j).2 - sp) * n) = chX l n j sp := IntWalk.i64_in _ (by have := hX; unfold chX at this; omega)
  have w4 : wrap64 (((mg l j).2 - sp) * n) = chX l n j sp := IntWalk.wrap64_in _ (by have := hX; unfold chX at this; omega)
  have hq := tdiv_bd2 (x := chX l n j sp) (d := d) (B := 2147483648000) ⟨by omega, by omega⟩
  have w5 : IntKind.i64.wrap ((mg l j).1 + (chX l n j sp).tdiv d) = chA l n d j sp := by rw [hAe]; exact IntWalk.i64_in _ (by omega)
  have w6 : wrap64 ((mg l j).1 + (chX l n j sp).tdiv d) = chA l n d j sp := by rw [hAe]; exact IntWalk.wrap64_in _ (by omega)
  have w7 : IntKind.i64.wrap ((chX l n j sp).tdiv d) = (chX l n j sp).tdiv d := IntWalk.i64_in _ (by omega)
  have w8 : wrap64 ((chX l n j sp).tdiv d) = (chX l n j sp).tdiv d := IntWalk.wrap64_in _ (by omega)
  have t5 : ((chX l n j sp).tmod d != 0) = true := by simpa using hx
  clear hR hr hx hX hAe hm hv
  generalize chA l n d j sp = A at *
  generalize chX l n j sp = X at *
  generalize (mg l j).1 = u0 at *
  generalize (mg l j).2 = u1 at *
  go_enter Try.func31, Try.ntmps31
  go_wp2_with fail
  generalize (w.alloc (.cells #[.int .i64 n, .int .i64 d] 25)) = wb at *
  go_quiet (fail)
  go_wp2_with fail
  go_ret2
  exact ⟨rfl, HZ.out.drewN' nq⟩
set_option maxRecDepth 100000 in
set_option maxHeartbeats 2000000 in
theorem rchange_big (l : List Mo) (n d i sp : Int) (S : Nat → Prop) (v : Value) (w : World) (hlen : l.length ≤ 64) (hm : mB l = true) (hv : vfB n d = true) (hR : MoR S w v l) (hr : chR l.length i sp = false) (hx : (chX l n i.toNat sp).tmod d = 0) (hb : badM (chA l n d i.toNat sp) sp = true) :
    Calls Try.prog 31 #[v, .agg #[.int .i64 n, .int .i64 d], .int .i64 i, .int .i64 sp] w fun e w' => e = .returned (.tuple #[v, .int .i64 5]) ∧ Ext w w' := by
  obtain ⟨⟨hi0, hi1⟩, hs0, hs1⟩ := (chR_iff _ _ _).1 hr
  obtain ⟨j, rfl⟩ : ∃ j : Nat, i = (j : Int) := ⟨i.toNat, by omega⟩
  have hjl : j < l.length := by omega
  obtain ⟨a, cap, rfl⟩ := hR.shape
  obtain ⟨gm, off, rfl⟩ := hR.at_ (by omega)
  obtain ⟨⟨ha0, ha1⟩, hb0, hb1⟩ := (badM_iff _ _).1 (mB_at hm j)
  have hX := chX_bd (i := j) hm (vf_bd hv).1 ⟨hs0, hs1⟩
  have hnb := (vf_bd hv).1
  have hdb := (vf_bd hv).2.1
  have t1 : decide ((j : Int) < 0) = false := decide_eq_false (by omega)
  have t2 : decide ((l.length : Int) ≤ (j : Int)) = false := decide_eq_false (by omega)
  have t2' : decide (l.length ≤ j) = false := decide_eq_false (by omega)
  have t3 : decide (sp < -1000) = false := decide_eq_false (by omega)
  have t4 : decide (1000 < sp) = false := decide_eq_false (by omega)
  rw [Int.toNat_natCast] at *
  have hdz : d ≠ 0 := by omega
  have hdz' : (d == 0) = false := by simpa using hdz
  have hAe : chA l n d j sp = (mg l j).1 + (chX l n j sp).tdiv d := rfl
  have HZ := Lib.hid ((Upd.refl (fun _ => False) w).alloc (.cells #[.int .i64 n, .int .i64 d] 25))
  have hb0 := alloc0 w (.cells #[.int .i64 n, .int .i64 d] 25)
  have HL : Hid ((w.alloc (.cells #[.int .i64 n, .int .i64 d] 25)).heap.size = w.heap.size + 1) := Lib.hid (by simp)
  have HX : Hid (∀ W, Ext (w.alloc (.cells #[.int .i64 n, .int .i64 d] 25)) W → W.cell? ⟨w.heap.size, 0, none⟩ = some (.int .i64 n) ∧ W.cell? ⟨w.heap.size, 1, none⟩ = some (.int .i64 d)) := Lib.hid (fun W hW => ⟨cellRow (hW.heap hb0 (fun h => h)) 0 _ rfl, cellRow (hW.heap hb0 (fun h => h)) 1 _ rfl⟩)
  clear hb0
  obtain ⟨k00, k01⟩ := HX.out _ (Upd.refl _ _)
  obtain ⟨p0, p1⟩ := (hR.ext HZ.out).cells hjl
  have w1 : IntKind.i64.wrap ((mg l j).2 - sp) = (mg l j).2 - sp := IntWalk.i64_in _ (by omega)
  have w2 : wrap64 ((mg l j).2 - sp) = (mg l j).2 - sp := IntWalk.wrap64_in _ (by omega)
  have w3 : IntKind.i64.wrap (((mg l j).2 - sp) * n) = chX l n j sp := IntWalk.i64_in _ (by have := hX; unfold chX at this; omega)
  have w4 : wrap64 (((mg l j).2 - sp) * n) = chX l n j sp := IntWalk.wrap64_in _ (by have := hX; unfold chX at this; omega)
  have hq := tdiv_bd2 (x := chX l n j sp) (d := d) (B := 2147483648000) ⟨by omega, by omega⟩
  have w5 : IntKind.i64.wrap ((mg l j).1 + (chX l n j sp).tdiv d) = chA l n d j sp := by rw [hAe]; exact IntWalk.i64_in _ (by omega)
  have w6 : wrap64 ((mg l j).1 + (chX l n j sp).tdiv d) = chA l n d j sp := by rw [hAe]; exact IntWalk.wrap64_in _ (by omega)
  have w7 : IntKind.i64.wrap ((chX l n j sp).tdiv d) = (chX l n j sp).tdiv d := IntWalk.i64_in _ (by omega)
  have w8 : wrap64 ((chX l n j sp).tdiv d) = (chX l n j sp).tdiv d := IntWalk.wrap64_in _ (by omega)
  have t5 : ((chX l n j sp).tmod d != 0) = false := by simpa using hx
  unfold badM at hb
  rw [t3, t4, Bool.or_false, Bool.or_false] at hb
  clear hR hr hx hX hAe hm hv
  generalize chA l n d j sp = A at *
  generalize chX l n j sp = X at *
  generalize (mg l j).1 = u0 at *
  generalize (mg l j).2 = u1 at *
  cases h6 : decide (A < -1048576)
  · rw [h6, Bool.false_or] at hb
    go_enter Try.func31, Try.ntmps31
    go_wp2_with fail
    generalize (w.alloc (.cells #[.int .i64 n, .int .i64 d] 25)) = wb at *
    go_quiet (fail)
    go_wp2_with fail
    go_quiet (fail)
    go_wp2_with fail
    go_ret2
    exact ⟨rfl, HZ.out.drewN' _⟩
  · go_enter Try.func31, Try.ntmps31
    go_wp2_with fail
    generalize (w.alloc (.cells #[.int .i64 n, .int .i64 d] 25)) = wb at *
    go_quiet (fail)
    go_wp2_with fail
    go_quiet (fail)
    go_wp2_with fail
    go_ret2
    exact ⟨rfl, HZ.out.drewN' _⟩
set_option maxRecDepth 100000 in
set_option maxHeartbeats 2000000 in
theorem rchange_ok (l : List Mo) (n d i sp : Int) (S : Nat → Prop) (v : Value) (w : World) (hlen : l.length ≤ 64) (hm : mB l = true) (hv : vfB n d = true) (hR : MoR S w v l) (hr : chR l.length i sp = false) (hx : (chX l n i.toNat sp).tmod d = 0) (hb : badM (chA l n d i.toNat sp) sp = false) :
    Calls Try.prog 31 #[v, .agg #[.int .i64 n, .int .i64 d], .int .i64 i, .int .i64 sp] w fun e w' => ∃ r, e = .returned (.tuple #[r, .int .i64 0]) ∧ w'.ownsRow w.heap.size 23 2 r l.length (mCells (l.set i.toNat (chA l n d i.toNat sp, sp))) ∧ Ext w w' := by
  obtain ⟨⟨hi0, hi1⟩, hs0, hs1⟩ := (chR_iff _ _ _).1 hr
  obtain ⟨j, rfl⟩ : ∃ j : Nat, i = (j : Int) := ⟨i.toNat, by omega⟩
  have hjl : j < l.length := by omega
  obtain ⟨a, cap, rfl⟩ := hR.shape
  obtain ⟨gm, off, rfl⟩ := hR.at_ (by omega)
  obtain ⟨⟨ha0, ha1⟩, hb0, hb1⟩ := (badM_iff _ _).1 (mB_at hm j)
  have hX := chX_bd (i := j) hm (vf_bd hv).1 ⟨hs0, hs1⟩
  have hnb := (vf_bd hv).1
  have hdb := (vf_bd hv).2.1
  have t1 : decide ((j : Int) < 0) = false := decide_eq_false (by omega)
  have t2 : decide ((l.length : Int) ≤ (j : Int)) = false := decide_eq_false (by omega)
  have t2' : decide (l.length ≤ j) = false := decide_eq_false (by omega)
  have t3 : decide (sp < -1000) = false := decide_eq_false (by omega)
  have t4 : decide (1000 < sp) = false := decide_eq_false (by omega)
  rw [Int.toNat_natCast] at *
  have hdz : d ≠ 0 := by omega
  have hdz' : (d == 0) = false := by simpa using hdz
  have hAe : chA l n d j sp = (mg l j).1 + (chX l n j sp).tdiv d := rfl
  have HZ := Lib.hid ((Upd.refl (fun _ => False) w).alloc (.cells #[.int .i64 n, .int .i64 d] 25))
  have hb0 := alloc0 w (.cells #[.int .i64 n, .int .i64 d] 25)
  have HL : Hid ((w.alloc (.cells #[.int .i64 n, .int .i64 d] 25)).heap.size = w.heap.size + 1) := Lib.hid (by simp)
  have HX : Hid (∀ W, Ext (w.alloc (.cells #[.int .i64 n, .int .i64 d] 25)) W → W.cell? ⟨w.heap.size, 0, none⟩ = some (.int .i64 n) ∧ W.cell? ⟨w.heap.size, 1, none⟩ = some (.int .i64 d)) := Lib.hid (fun W hW => ⟨cellRow (hW.heap hb0 (fun h => h)) 0 _ rfl, cellRow (hW.heap hb0 (fun h => h)) 1 _ rfl⟩)
  clear hb0
  obtain ⟨k00, k01⟩ := HX.out _ (Upd.refl _ _)
  obtain ⟨p0, p1⟩ := (hR.ext HZ.out).cells hjl
  have w1 : IntKind.i64.wrap ((mg l j).2 - sp) = (mg l j).2 - sp := IntWalk.i64_in _ (by omega)
  have w2 : wrap64 ((mg l j).2 - sp) = (mg l j).2 - sp := IntWalk.wrap64_in _ (by omega)
  have w3 : IntKind.i64.wrap (((mg l j).2 - sp) * n) = chX l n j sp := IntWalk.i64_in _ (by have := hX; unfold chX at this; omega)
  have w4 : wrap64 (((mg l j).2 - sp) * n) = chX l n j sp := IntWalk.wrap64_in _ (by have := hX; unfold chX at this; omega)
  have hq := tdiv_bd2 (x := chX l n j sp) (d := d) (B := 2147483648000) ⟨by omega, by omega⟩
  have w5 : IntKind.i64.wrap ((mg l j).1 + (chX l n j sp).tdiv d) = chA l n d j sp := by rw [hAe]; exact IntWalk.i64_in _ (by omega)
  have w6 : wrap64 ((mg l j).1 + (chX l n j sp).tdiv d) = chA l n d j sp := by rw [hAe]; exact IntWalk.wrap64_in _ (by omega)
  have w7 : IntKind.i64.wrap ((chX l n j sp).tdiv d) = (chX l n j sp).tdiv d := IntWalk.i64_in _ (by omega)
  have w8 : wrap64 ((chX l n j sp).tdiv d) = (chX l n j sp).tdiv d := IntWalk.wrap64_in _ (by omega)
  have t5 : ((chX l n j sp).tmod d != 0) = false := by simpa using hx
  unfold badM at hb
  rw [t3, t4, Bool.or_false, Bool.or_false, Bool.or_eq_false_iff] at hb
  obtain ⟨hb1', hb2'⟩ := hb
  have HRB := Lib.hid (fun W (hW : Ext w W) => hR.ext hW)
  clear hR hr hx hX hAe hm hv
  generalize chA l n d j sp = A at *
  generalize chX l n j sp = X at *
  generalize (mg l j).1 = u0 at *
  generalize (mg l j).2 = u1 at *
  go_enter Try.func31, Try.ntmps31
  go_wp2_with fail
  generalize (w.alloc (.cells #[.int .i64 n, .int .i64 d] 25)) = wb at *
  go_quiet (fail)
  go_wp2_with fail
  go_quiet (fail)
  have HWQ := Lib.hid (fun k => HZ.out.drewN' k)
  obtain ⟨iS, hi, hz0, hz1, hz2⟩ := info_parts info23
  have hb0 : ∀ k, w.heap.size ≤ (wb.drewN k).heap.size := fun k => (HZ.out.drewN' k).size
  have hR2 := fun k => (HRB.out _ (HZ.out.drewN' k)).ext ((Upd.refl (fun _ => False) (wb.drewN k)).alloc (.cells #[] 23))
  have hO0 : ∀ k, ((wb.drewN k).alloc (.cells #[] 23)).ownsRow w.heap.size 23 2 (.slice (some ⟨wb.heap.size, 0, none⟩) 0 0) 0 [] := fun k =>
    World.ownsRow_lit (base := w.heap.size) (e := 23) (size := 2) (wb.drewN k) #[] 0 (hb0 k) (by unfold maxLen; omega) (by simp)
  have hb1 : ∀ k, w.heap.size ≤ ((wb.drewN k).alloc (.cells #[] 23)).heap.size := fun k => Nat.le_trans (hb0 k) (by simp)
  clear HRB
  go_wp2_with (at_builtin; refine wpList_append_sl _ rfl (.tmp 63) (.tmp 64) 26 rfl w.heap.size 23 iS (.agg #[.int .i64 0, .int .i64 0]) 2 16 Try.underlying26 hi hz0 hz1 hz2 rfl (by decide) (.slice (some ⟨wb.heap.size, 0, none⟩) 0 0) 0 [] rfl (hO0 _) S (.slice (some ⟨gm, off, none⟩) l.length cap) l.length (mCells l) rfl (hR2 _) (mCells_one l) ?c3 ?c4 (hb1 _) ?_)
  case c3 => unfold maxLen; omega
  case c4 => omega
  intro v5 w5 hG
  have HO5 : Hid (w5.ownsRow w.heap.size 23 2 v5 l.length (mCells l)) := Lib.hid hG.own
  have HE5 : Hid (Ext w w5) := Lib.hid (upd_grown_new ((HWQ.out _).alloc _) hG.grown (fun k e => ((hO0 0).lt k e).1))
  obtain ⟨g5, c5, hv5⟩ := own_some HO5.out (by omega)
  subst hv5
  have hbg := (HO5.out.lt g5 rfl).1
  have hR5 : MoR (fun _ => True) w5 (.slice (some ⟨g5, 0, none⟩) l.length c5) l := (SlR.of_own HO5.out).weaken (fun _ _ => trivial)
  obtain ⟨r0, r1⟩ := hR5.cells hjl
  simp only [Nat.zero_add] at r0 r1
  obtain ⟨cur, hcur⟩ := own_block HO5.out
  have m0 := frozenRow hcur (j * 2)
  have m1 := frozenRow hcur (j * 2 + 1)
  have j0 : (0 : Int) ≤ (j : Int) := by omega
  have j1 : (j : Int) < (l.length : Int) := by omega
  clear hG hO0 hR2 hb0 hb1 hcur hR5 hi hz0 hz1 hz2
  go_wp2_with fail
  go_ret2
  exact ⟨_, rfl, own_set2 HO5.out j A sp, (HE5.out.setNew hbg _).setNew hbg _⟩

end Go.Proofs.Ytncnojhbdkhcjaa

/- Helps for plays. -/
namespace Go.Proofs.Ytncnojhbdkhcjaa
open Go.RowKit Go.Hw Go
set_option linter.unusedVariables false
set_option linter.unusedSimpArgs false

/-- a call of the law of plays: change?, time, point, speed -/
abbrev Cl := Bool × Int × Int × Int × Int
def cg (l : List Cl) (i : Nat) : Cl := l.getD i (false, 0, 0, 0, 0)
def cCells (l : List Cl) : List Value := l.flatMap fun m => [.bool m.1, .int .i64 m.2.1, .int .i64 m.2.2.1, .int .i64 m.2.2.2.1, .int .i64 m.2.2.2.2]
theorem cCells_len (l : List Cl) : (cCells l).length = l.length * 5 := by
  induction l with
  | nil => rfl
  | cons a l ih => unfold cCells at *; rw [List.flatMap_cons, List.length_append, ih]; simp only [List.length_cons, List.length_nil]; omega
theorem cCells_at (l : List Cl) : ∀ i, i < l.length → (cCells l)[i * 5]? = some (.bool (cg l i).1) ∧ (cCells l)[i * 5 + 1]? = some (.int .i64 (cg l i).2.1) ∧ (cCells l)[i * 5 + 2]? = some (.int .i64 (cg l i).2.2.1) ∧ (cCells l)[i * 5 + 3]? = some (.int .i64 (cg l i).2.2.2.1) ∧ (cCells l)[i * 5 + 4]? = some (.int .i64 (cg l i).2.2.2.2) := by
  induction l with
  | nil => intro i h; simp at h
  | cons a l ih =>
    intro i h
    cases i with
    | zero => exact ⟨rfl, rfl, rfl, rfl, rfl⟩
    | succ i =>
      have := ih i (by simpa using h)
      rw [show (i + 1) * 5 = i * 5 + 5 by omega, show i * 5 + 5 + 1 = i * 5 + 1 + 5 by omega, show i * 5 + 5 + 2 = i * 5 + 2 + 5 by omega, show i * 5 + 5 + 3 = i * 5 + 3 + 5 by omega, show i * 5 + 5 + 4 = i * 5 + 4 + 5 by omega]
      exact this
/-- calls in memory -/
def CallR (S : Nat → Prop) (w : World) (v : Value) (l : List Cl) : Prop := SlR S w 5 v l.length (cCells l)
theorem CallR.cells {S : Nat → Prop} {w : World} {g off n cap : Nat} {l : List Cl} (h : CallR S w (.slice (some ⟨g, off, none⟩) n cap) l) {i : Nat} (hi : i < l.length) : w.cell? ⟨g, off + i * 5, none⟩ = some (.bool (cg l i).1) ∧ w.cell? ⟨g, off + i * 5 + 1, none⟩ = some (.int .i64 (cg l i).2.1) ∧ w.cell? ⟨g, off + i * 5 + 2, none⟩ = some (.int .i64 (cg l i).2.2.1) ∧ w.cell? ⟨g, off + i * 5 + 3, none⟩ = some (.int .i64 (cg l i).2.2.2.1) ∧ w.cell? ⟨g, off + i * 5 + 4, none⟩ = some (.int .i64 (cg l i).2.2.2.2) := by
  have h0 := SlR.cellAt h rfl (j := i * 5) (by omega)
  have h1 := SlR.cellAt h rfl (j := i * 5 + 1) (by omega)
  have h2 := SlR.cellAt h rfl (j := i * 5 + 2) (by omega)
  have h3 := SlR.cellAt h rfl (j := i * 5 + 3) (by omega)
  have h4 := SlR.cellAt h rfl (j := i * 5 + 4) (by omega)
  obtain ⟨e0, e1, e2, e3, e4⟩ := cCells_at l i hi
  rw [e0] at h0
  rw [e1] at h1
  rw [e2] at h2
  rw [e3] at h3
  rw [e4] at h4
  exact ⟨h0, h1, h2, h3, h4⟩
theorem CallR.shape {S : Nat → Prop} {w : World} {v : Value} {l : List Cl} (h : CallR S w v l) : ∃ a cap, v = .slice a l.length cap := SlR.shape h
theorem CallR.at_ {S : Nat → Prop} {w : World} {a : Option Addr} {n cap : Nat} {l : List Cl} (h : CallR S w (.slice a n cap) l) (hl : 0 < l.length) : ∃ g off, a = some ⟨g, off, none⟩ := by
  obtain ⟨g, off, c, e, _⟩ := SlR.pos h hl
  injection e with e1 e2 e3
  exact ⟨g, off, e1⟩
theorem MoR.own {w : World} {b : Nat} {v : Value} {l : List Mo} {N : Nat} (hl : l.length = N) (h : w.ownsRow b 23 2 v N (mCells l)) : MoR (fun k => b ≤ k ∧ k < w.heap.size) w v l := by
  subst hl
  exact (SlR.of_own h).weaken (fun k hk => h.lt k hk)
theorem SwR.own {w : World} {b : Nat} {v : Value} {l : List Sw} {N : Nat} (hl : l.length = N) (h : w.ownsRow b 51 4 v N (sCells l)) : SwR (fun k => b ≤ k ∧ k < w.heap.size) w v l := by
  subst hl
  exact (SlR.of_own h).weaken (fun k hk => h.lt k hk)
/-- the best of some swaps; none: zeros -/
def bw (c : List Sw) : Sw := (bestF c).getD (0, 0, 0, 0)
theorem bw_nil : bw [] = (0, 0, 0, 0) := rfl
theorem bw_take (c : List Sw) (k : Nat) (h : k < c.length) : (k = 0 → bw (c.take (k + 1)) = sg4 c k) ∧ (0 < k → bw (c.take (k + 1)) = better (bw (c.take k)) (sg4 c k)) := by
  cases c with
  | nil => simp at h
  | cons x r =>
    constructor
    · rintro rfl
      rfl
    · intro hk
      obtain ⟨j, rfl⟩ : ∃ j, k = j + 1 := ⟨k - 1, by omega⟩
      exact fold_take r x j (by simpa using h)
theorem bw_ok (c : List Sw) (h : ∀ x ∈ c, okE x) (k : Nat) (hk : 0 < k) (h2 : k ≤ c.length) : okE (bw (c.take k)) := by
  cases c with
  | nil => simp at h2; omega
  | cons x r =>
    obtain ⟨j, rfl⟩ : ∃ j, k = j + 1 := ⟨k - 1, by omega⟩
    exact fold_ok _ _ (h x List.mem_cons_self) (fun y hy => h y (List.mem_cons_of_mem _ (List.mem_of_mem_take hy)))
theorem Next_u (w : World) (kb : Nat) (mv ov : Value) (l : List Mo) (n d : Int) (h : LiR w kb mv ov l n d) : ∃ E : Int, ((certF l n d).length = 0 → E = 12) ∧ (0 < (certF l n d).length → E = 0) ∧
    ∀ W, Ext w W → Calls Try.prog 23 #[.pointer (some ⟨kb, 0, none⟩)] W fun e w' => e = .returned (.tuple #[.agg #[.int .i64 (bw (certF l n d)).1, .int .i64 (bw (certF l n d)).2.1, .int .i64 (bw (certF l n d)).2.2.1, .int .i64 (bw (certF l n d)).2.2.2], .int .i64 E]) ∧ Ext W w' := by
  have h2 := fun W (hW : Ext w W) => Next_x W kb mv ov l n d (h.ext hW)
  generalize certF l n d = c at *
  cases c with
  | nil => exact ⟨12, fun _ => rfl, fun h => by simp at h, h2⟩
  | cons x r => exact ⟨0, fun h => by simp at h, fun _ => rfl, h2⟩
theorem chL_len (l : List Mo) (n d i sp : Int) : (chL l n d i sp).length = l.length := by
  unfold chL
  split
  · rw [List.length_set]
  · rfl
theorem change_all (w : World) (kb : Nat) (mv ov : Value) (l : List Mo) (n d i sp : Int) (h : LiR w kb mv ov l n d) :
    Calls Try.prog 32 #[.pointer (some ⟨kb, 0, none⟩), .int .i64 i, .int .i64 sp] w fun e w' => e = .returned (.int .i64 (chE l n d i sp)) ∧ ∃ ov', LiR w' kb mv ov' (chL l n d i sp) n d ∧ (∀ g, ov'.ownBlock = some g → w.heap.size ≤ g ∨ ov.ownBlock = some g) ∧ Upd (fun k => k = kb ∨ mv.ownBlock = some k) w w' := by
  have hno : ∀ E : Int, E ≠ 0 → ∀ (e : Ending) (w' : World), (e = .returned (.int .i64 E) ∧ Ext w w') → e = .returned (.int .i64 E) ∧ ∃ ov', LiR w' kb mv ov' l n d ∧ (∀ g, ov'.ownBlock = some g → w.heap.size ≤ g ∨ ov.ownBlock = some g) ∧ Upd (fun k => k = kb ∨ mv.ownBlock = some k) w w' :=
    fun E _ e w' he => ⟨he.1, ov, h.ext he.2, fun g hg => .inr hg, he.2.mono (fun _ _ h => h.elim)⟩
  cases hr : chR l.length i sp
  · by_cases hx : (chX l n i.toNat sp).tmod d = 0
    · cases hb : badM (chA l n d i.toNat sp) sp
      · have e1 : chE l n d i sp = 0 := by unfold chE; rw [hr, hb, hx]; rfl
        have e2 : chL l n d i sp = l.set i.toNat (chA l n d i.toNat sp, sp) := by unfold chL; rw [if_pos e1]
        rw [e1, e2]
        refine (change_ok w kb mv ov l n d i sp h hr hx hb).mono ?_
        rintro e w' ⟨he, ov', h1, h2, h3⟩
        exact ⟨he, ov', h1, fun g hg => .inl (h2 g hg), h3⟩
      · have e1 : chE l n d i sp = 5 := by unfold chE; rw [hr, hb, hx]; rfl
        have e2 : chL l n d i sp = l := by unfold chL; rw [if_neg (by rw [e1]; decide)]
        rw [e1, e2]
        exact (change_big w kb mv ov l n d i sp h hr hx hb).mono (hno 5 (by decide))
    · have e1 : chE l n d i sp = 30 := by unfold chE; rw [hr]; rw [if_neg (by decide), if_pos hx]
      have e2 : chL l n d i sp = l := by unfold chL; rw [if_neg (by rw [e1]; decide)]
      rw [e1, e2]
      exact (change_shape w kb mv ov l n d i sp h hr hx).mono (hno 30 (by decide))
  · have e1 : chE l n d i sp = 2 := by unfold chE; rw [hr]; rfl
    have e2 : chL l n d i sp = l := by unfold chL; rw [if_neg (by rw [e1]; decide)]
    rw [e1, e2]
    exact (change_range w kb mv ov l n d i sp h hr).mono (hno 2 (by decide))
theorem rchange_all (l : List Mo) (n d i sp : Int) (S : Nat → Prop) (v : Value) (w : World) (hlen : l.length ≤ 64) (hm : mB l = true) (hv : vfB n d = true) (hR : MoR S w v l) :
    Calls Try.prog 31 #[v, .agg #[.int .i64 n, .int .i64 d], .int .i64 i, .int .i64 sp] w fun e w' => ∃ r, ∃ S' : Nat → Prop, e = .returned (.tuple #[r, .int .i64 (chE l n d i sp)]) ∧ MoR S' w' r (chL l n d i sp) ∧ (∀ k, S' k → S k ∨ (w.heap.size ≤ k ∧ k < w'.heap.size)) ∧ Ext w w' := by
  have hno : ∀ E : Int, ∀ (e : Ending) (w' : World), (e = .returned (.tuple #[v, .int .i64 E]) ∧ Ext w w') → ∃ r, ∃ S' : Nat → Prop, e = .returned (.tuple #[r, .int .i64 E]) ∧ MoR S' w' r l ∧ (∀ k, S' k → S k ∨ (w.heap.size ≤ k ∧ k < w'.heap.size)) ∧ Ext w w' :=
    fun E e w' he => ⟨v, S, he.1, hR.ext he.2, fun k hk => .inl hk, he.2⟩
  cases hr : chR l.length i sp
  · by_cases hx : (chX l n i.toNat sp).tmod d = 0
    · cases hb : badM (chA l n d i.toNat sp) sp
      · have e1 : chE l n d i sp = 0 := by unfold chE; rw [hr, hb, hx]; rfl
        have e2 : chL l n d i sp = l.set i.toNat (chA l n d i.toNat sp, sp) := by unfold chL; rw [if_pos e1]
        rw [e1, e2]
        refine (rchange_ok l n d i sp S v w hlen hm hv hR hr hx hb).mono ?_
        rintro e w' ⟨r, he, h1, h2⟩
        exact ⟨r, _, he, MoR.own (by rw [List.length_set]) h1, fun k hk => .inr hk, h2⟩
      · have e1 : chE l n d i sp = 5 := by unfold chE; rw [hr, hb, hx]; rfl
        have e2 : chL l n d i sp = l := by unfold chL; rw [if_neg (by rw [e1]; decide)]
        rw [e1, e2]
        exact (rchange_big l n d i sp S v w hlen hm hv hR hr hx hb).mono (hno 5)
    · have e1 : chE l n d i sp = 30 := by unfold chE; rw [hr]; rw [if_neg (by decide), if_pos hx]
      have e2 : chL l n d i sp = l := by unfold chL; rw [if_neg (by rw [e1]; decide)]
      rw [e1, e2]
      exact (rchange_shape l n d i sp S v w hlen hm hv hR hr hx).mono (hno 30)
  · have e1 : chE l n d i sp = 2 := by unfold chE; rw [hr]; rfl
    have e2 : chL l n d i sp = l := by unfold chL; rw [if_neg (by rw [e1]; decide)]
    rw [e1, e2]
    exact (rchange_range l n d i sp S v w hlen hm hv hR hr).mono (hno 2)
theorem cmpI_neg (x y : Int) : decide (Lib.compareInt x y < 0) = decide (x < y) := by
  rw [cmpI_of]
  by_cases h : x < y
  · simp [h]
  · by_cases h2 : y < x <;> simp [h, h2]
theorem eqi_true (O : List Nat) (N : Nat) (W : World) (b b' : Nat) (u v : Value) (hl : O.length = N) (hN : N ≤ 100000) (h1 : W.ownsRow b 3 1 u N (iCells O)) (h2 : W.ownsRow b' 3 1 v N (iCells O)) : Calls Try.prog 19 #[u, v] W fun e w' => e = .returned (.bool true) ∧ Ext W w' := by
  have h := eqi_x O O _ _ u v W (IR.own hl h1) (IR.own hl h2) (by omega) (by omega)
  rw [decide_eq_true rfl] at h
  exact h
theorem same_true (C : List Sw) (W : World) (S T : Nat → Prop) (u v : Value) (hN : C.length ≤ 1000000) (h1 : SwR S W u C) (h2 : SwR T W v C) : Calls Try.prog 26 #[u, v] W fun e w' => e = .returned (.bool true) ∧ Ext W w' := by
  have h := same_x C C _ _ u v W h1 h2 (by omega) (by omega)
  rw [decide_eq_true rfl] at h
  exact h
theorem eqm_true (L : List Mo) (W : World) (S T : Nat → Prop) (u v : Value) (hN : L.length ≤ 100000) (h1 : MoR S W u L) (h2 : MoR T W v L) : Calls Try.prog 28 #[u, v] W fun e w' => e = .returned (.bool true) ∧ Ext W w' := by
  have h := eqm_x L L _ _ u v W h1 h2 (by omega) (by omega)
  rw [decide_eq_true rfl] at h
  exact h
theorem swF_len (l : List Mo) (n d m e : Int) : (swF l n d m e).length ≤ l.length * l.length := by
  unfold swF
  rw [(sortE_perm _).length_eq]
  exact col_len l n d m e l.length

end Go.Proofs.Ytncnojhbdkhcjaa

/- Plays. -/
namespace Go.Proofs.Ytncnojhbdkhcjaa
open Go.RowKit Go.Hw Go
set_option linter.unusedVariables false
set_option linter.unusedSimpArgs false
set_option maxRecDepth 100000 in
set_option maxHeartbeats 2000000 in
theorem plays_x (l : List Mo) (c : List Cl) (hcb : ∀ x ∈ c, (-9223372036854775808 ≤ x.2.1 ∧ x.2.1 ≤ 9223372036854775807) ∧ (-9223372036854775808 ≤ x.2.2.1 ∧ x.2.2.1 ≤ 9223372036854775807)) (S T : Nat → Prop) (v u : Value) (w : World) (hR : MoR S w v l) (hS : ∀ k, S k → k < w.heap.size) (hC : CallR T w u c) (hT : ∀ k, T k → k < w.heap.size) :
    Calls Try.prog 4 #[v, u] w fun e w' => e = .returned (.bool true) ∧ Ext w w' := by
  have HRL := Lib.hid (And.intro hR hS)
  have HCL := Lib.hid (And.intro hC hT)
  have HCB := Lib.hid hcb
  obtain ⟨a, cap, rfl⟩ := hR.shape
  obtain ⟨ac, cc, rfl⟩ := hC.shape
  have HAW := Lib.hid awake_x
  have HLG := Lib.hid (fun w => long_x a l.length cap w)
  clear hR hS hC hT hcb
  cases hlong : longB l.length
  rotate_left
  · rw [hlong] at HLG
    go_enter Try.func4, Try.ntmps4
    go_wp2_with fail
    refine (HAW.out _).mono ?_
    rintro e w4 ⟨rfl, hw4⟩
    have H4 := Lib.hid hw4
    clear hw4
    go_wp2_with fail
    refine (HLG.out _).mono ?_
    rintro e w5 ⟨rfl, rfl⟩
    go_wp2_with fail
    go_ret
    exact ⟨rfl, H4.out⟩
  rw [hlong] at HLG
  have HLN : Hid (l.length ≤ 100) := Lib.hid (by unfold longB at hlong; simp at hlong; omega)
  have HLN2 : Hid (l.length ≤ 64 → l.length ≤ 12) := Lib.hid (by unfold longB at hlong; simp at hlong; omega)
  clear hlong
  by_cases h12 : 12 < c.length
  · have t1 : decide ((12 : Int) < (c.length : Int)) = true := decide_eq_true (by omega)
    have t1' : decide (12 < c.length) = true := decide_eq_true h12
    go_enter Try.func4, Try.ntmps4
    go_wp2_with fail
    refine (HAW.out _).mono ?_
    rintro e w4 ⟨rfl, hw4⟩
    have H4 := Lib.hid hw4
    clear hw4
    go_wp2_with fail
    refine (HLG.out _).mono ?_
    rintro e w5 ⟨rfl, rfl⟩
    go_wp2_with fail
    go_ret
    exact ⟨rfl, H4.out⟩
  have t1 : decide ((12 : Int) < (c.length : Int)) = false := decide_eq_false (by omega)
  have t1' : decide (12 < c.length) = false := decide_eq_false h12
  have HC12 : Hid (c.length ≤ 12) := Lib.hid (by omega)
  clear h12
  cases hm : mB l
  · have HMD := Lib.hid (fun W (hW : Ext w W) => made_bad l S (.slice a l.length cap) W (by have := HLN.out; omega) (HRL.out.1.ext hW) (fun k hk => Nat.lt_of_lt_of_le (HRL.out.2 k hk) hW.size) hm)
    clear hm
    go_enter Try.func4, Try.ntmps4
    go_wp2_with fail
    refine (HAW.out _).mono ?_
    rintro e w4 ⟨rfl, hw4⟩
    have H4 := Lib.hid hw4
    clear hw4
    go_wp2_with fail
    refine (HLG.out _).mono ?_
    rintro e w5 ⟨rfl, rfl⟩
    go_wp2_with fail
    refine (HMD.out _ H4.out).mono ?_
    rintro e w6 ⟨rfl, hw6⟩
    have H6 := Lib.hid (H4.out.ext hw6)
    clear hw6
    go_wp2_with fail
    go_ret
    exact ⟨rfl, H6.out⟩
  by_cases h64 : 64 < l.length
  · have HMD := Lib.hid (fun W (hW : Ext w W) => made_full l S (.slice a l.length cap) W (by have := HLN.out; omega) (HRL.out.1.ext hW) (fun k hk => Nat.lt_of_lt_of_le (HRL.out.2 k hk) hW.size) hm h64)
    clear hm
    go_enter Try.func4, Try.ntmps4
    go_wp2_with fail
    refine (HAW.out _).mono ?_
    rintro e w4 ⟨rfl, hw4⟩
    have H4 := Lib.hid hw4
    clear hw4
    go_wp2_with fail
    refine (HLG.out _).mono ?_
    rintro e w5 ⟨rfl, rfl⟩
    go_wp2_with fail
    refine (HMD.out _ H4.out).mono ?_
    rintro e w6 ⟨rfl, hw6⟩
    have H6 := Lib.hid (H4.out.ext hw6)
    clear hw6
    go_wp2_with fail
    go_ret
    exact ⟨rfl, H6.out⟩
  have HMD := Lib.hid (fun W (hW : Ext w W) => made_ok l S (.slice a l.length cap) W (by have := HLN.out; omega) (HRL.out.1.ext hW) (fun k hk => Nat.lt_of_lt_of_le (HRL.out.2 k hk) hW.size) hm (by omega))
  have HL12 : Hid (l.length ≤ 12) := Lib.hid (HLN2.out (by omega))
  clear hm h64 HLN HLN2
  go_enter Try.func4, Try.ntmps4
  go_wp2_with fail
  refine (HAW.out _).mono ?_
  rintro e w4 ⟨rfl, hw4⟩
  have H4 := Lib.hid hw4
  clear hw4
  go_wp2_with fail
  refine (HLG.out _).mono ?_
  rintro e w5 ⟨rfl, rfl⟩
  go_wp2_with fail
  refine (HMD.out _ H4.out).mono ?_
  rintro e w6 ⟨kb, mv, ov, rfl, hL, ⟨hf1, hf2, hf3⟩, hw6⟩
  have HB7 := Lib.hid (alloc0 w6 (.cells #[.int .i64 0, .int .i64 1] 25))
  have HL7 := Lib.hid (hL.ext ((Upd.refl (fun _ => False) w6).alloc (.cells #[.int .i64 0, .int .i64 1] 25)))
  have H7 := Lib.hid ((H4.out.ext hw6).alloc (.cells #[.int .i64 0, .int .i64 1] 25))
  have HF := Lib.hid (show (w.heap.size ≤ kb ∧ kb < w6.heap.size) ∧ (∀ g, mv.ownBlock = some g → w.heap.size ≤ g ∧ g < w6.heap.size) ∧ (∀ g, ov.ownBlock = some g → g ≠ w6.heap.size) ∧ w.heap.size ≤ w6.heap.size by
    have h4 := H4.out.size
    have h5 := hw6.size
    have h6 := (Array.getElem?_eq_some_iff.1 hL.cell).1
    exact ⟨⟨by omega, h6⟩, fun g hg => ⟨by have := hf2 g hg; omega, (hL.mot.lt g hg).2⟩, fun g hg => by have := (hL.ord.lt g hg).2; omega, by omega⟩)
  have HM7 : Hid (MoR S (w6.alloc (.cells #[.int .i64 0, .int .i64 1] 25)) (.slice a l.length cap) l) := Lib.hid (HRL.out.1.ext H7.out)
  clear hL hf1 hf2 hf3 hw6 H4 HMD HAW HLG t1 t1'
  go_wp2_with fail
  generalize hw7 : w6.alloc (.cells #[.int .i64 0, .int .i64 1] 25) = w7 at *
  have HS7 : Hid (w7.heap.size = w6.heap.size + 1) := Lib.hid (by rw [← hw7]; simp)
  obtain ⟨nb, hnb⟩ : ∃ nb, nb = w6.heap.size := ⟨_, rfl⟩
  rw [← hnb] at HB7 HF HS7 ⊢
  clear hnb
  clear hw7
  go_loopg [0, 8] c.length (fun gk lv iv wr => ∃ (i : Nat) (L : List Mo) (n d : Int) (ov' : Value) (S' : Nat → Prop), iv = .int .i64 (i : Int) ∧ gk = c.length - i ∧ i ≤ c.length ∧ Hid (Ext w wr) ∧ Hid (LiR wr kb mv ov' L n d) ∧ Hid (L.length ≤ 12) ∧ Hid (MoR S' wr lv L) ∧ Hid (∀ k, S' k → k < wr.heap.size ∧ k ≠ nb ∧ k ≠ kb ∧ mv.ownBlock ≠ some k) ∧ Hid (wr.heap[nb]? = some (.cells #[.int .i64 n, .int .i64 d] 25 (0, 0))) ∧ Hid (∀ g, ov'.ownBlock = some g → g ≠ nb))
  case atStart =>
    refine ⟨0, l, 0, 1, ov, S, rfl, rfl, Nat.zero_le _, H7, HL7, HL12, HM7, Lib.hid (fun k hk => ?_), ?_, Lib.hid (fun g hg => ?_)⟩
    · have h1 := HRL.out.2 k hk
      have h2 := HF.out.1
      have h3 := HS7.out
      exact ⟨by omega, by omega, by omega, fun e => by have := HF.out.2.1 k e; omega⟩
    · exact HB7
    · exact HF.out.2.2.1 g hg
  case round =>
    clear H7 HL7 HM7 HB7
    obtain ⟨ws, hws⟩ : ∃ wa, wa = wr := ⟨_, rfl⟩
    subst hws
    obtain ⟨i, L, n, d, ov', S', rfl, rfl, hi, HE, HLI, HL12, HML, HSL, HNB, HON⟩ := hrel
    obtain ⟨am, cm, rfl⟩ := HML.out.shape
    have HLS := Lib.hid (Nat.lt_of_lt_of_le (show nb < w7.heap.size by have := HS7.out; omega) (Nat.le_refl _))
    have HNS := Lib.hid (Array.getElem?_eq_some_iff.1 HNB.out).1
    have HRC := Lib.hid (rcert_x L n d S' (.slice am L.length cm) ws (by have := HL12.out; omega) HLI.out.okm HLI.out.okt HML.out (fun k hk => (HSL.out k hk).1))
    obtain ⟨E, hE1, hE2, hNX⟩ := Next_u ws kb mv ov' L n d HLI.out
    have HNX := Lib.hid hNX
    have HEE := Lib.hid (And.intro hE1 hE2)
    have HOKC := Lib.hid (certF_ok (n := n) (d := d) HLI.out.okm)
    have HCN : Hid ((certF L n d).length ≤ 12) := Lib.hid (Nat.le_trans (certF_len L n d) HL12.out)
    have HNO := Lib.hid (fun W (hW : Ext ws W) => Now_x W kb mv ov' L n d (HLI.out.ext hW))
    have HOM := Lib.hid (fun W (hW : Ext ws W) => OrderM_x W kb mv ov' L n d (HLI.out.ext hW))
    have HRO := Lib.hid (fun W (hW : Ext ws W) => rorder_x L n d S' (.slice am L.length cm) W (by have := HL12.out; omega) HLI.out.okm HLI.out.okt (HML.out.ext hW) (fun k hk => Nat.lt_of_lt_of_le (HSL.out k hk).1 hW.size))
    have HCM := Lib.hid (fun W (hW : Ext ws W) => certM_x W kb mv ov' L n d (HLI.out.ext hW))
    have HMM := Lib.hid (fun W (hW : Ext ws W) => Motions_x W kb mv ov' L n d (HLI.out.ext hW))
    obtain ⟨C, hCC⟩ : ∃ C, certF L n d = C := ⟨_, rfl⟩
    rw [hCC] at HRC HNX HEE HOKC HCN HCM
    obtain ⟨X, hX⟩ : ∃ X, bw C = X := ⟨_, rfl⟩
    rw [hX] at HNX
    have HX := Lib.hid hX
    obtain ⟨x0, x1, x2, x3⟩ := X
    simp only at HNX
    clear hE1 hE2 hNX hCC hX
    have k0 := cellRow HNB.out 0 (.int .i64 n) rfl
    have k1 := cellRow HNB.out 1 (.int .i64 d) rfl
    go_wp2_with fail
    refine HRC.out.mono ?_
    rintro e w1 ⟨r1, rfl, hO1, hE1⟩
    obtain ⟨a1, c1, rfl⟩ := own_shape hO1
    have HC1 := Lib.hid (SwR.own rfl hO1)
    have H1 := Lib.hid hE1
    clear hO1 hE1 HRC k0 k1
    go_wp2_with fail
    refine (HNX.out _ H1.out).mono ?_
    rintro e w2 ⟨rfl, hE2⟩
    have HXB := Lib.hid (alloc0 w2 (.cells #[.int .i64 x0, .int .i64 x1, .int .i64 x2, .int .i64 x3] 51))
    have HW3 := Lib.hid ((Upd.refl (fun _ => False) w1).ext (hE2.alloc (.cells #[.int .i64 x0, .int .i64 x1, .int .i64 x2, .int .i64 x3] 51)))
    have HX2 : Hid (w1.heap.size ≤ w2.heap.size) := Lib.hid hE2.size
    have HX3 : Hid (w2.heap.size < (w2.alloc (.cells #[.int .i64 x0, .int .i64 x1, .int .i64 x2, .int .i64 x3] 51)).heap.size) := Lib.hid (by simp)
    clear hE2 HNX
    go_wp2_with fail
    generalize hw3 : w2.alloc (.cells #[.int .i64 x0, .int .i64 x1, .int .i64 x2, .int .i64 x3] 51) = w3 at *
    clear hw3
    obtain ⟨xb, hxb⟩ : ∃ xb, xb = w2.heap.size := ⟨_, rfl⟩
    rw [← hxb] at HXB HX2 HX3 ⊢
    clear hxb
    have HC3 := Lib.hid (SwR.ext HC1.out HW3.out)
    have HS3 := Lib.hid (H1.out.ext HW3.out)
    have HML0 := HML
    replace HML := Lib.hid (HML.out.ext HS3.out)
    have HLL : Hid (L.length ≤ 12) := HL12
    replace HNO := Lib.hid (fun W (hW : Ext w3 W) => HNO.out W (HS3.out.ext hW))
    replace HOM := Lib.hid (fun W (hW : Ext w3 W) => HOM.out W (HS3.out.ext hW))
    replace HRO := Lib.hid (fun W (hW : Ext w3 W) => HRO.out W (HS3.out.ext hW))
    replace HCM := Lib.hid (fun W (hW : Ext w3 W) => HCM.out W (HS3.out.ext hW))
    replace HMM := Lib.hid (fun W (hW : Ext w3 W) => HMM.out W (HS3.out.ext hW))
    have k0 := cellRow (HS3.out.heap HNB.out (fun h => h)) 0 (.int .i64 n) rfl
    have k1 := cellRow (HS3.out.heap HNB.out (fun h => h)) 1 (.int .i64 d) rfl
    have xk0 := fun x : XW w3 => x.ext.cell k0 (fun h => h)
    have xk1 := fun x : XW w3 => x.ext.cell k1 (fun h => h)
    have heqF : ∀ W, (Op.equalIn 10000 25 (.agg #[.int .i64 n, .int .i64 d]) (.agg #[.int .i64 n, .int .i64 d])).run Try.prog W = .ok true W := fun W => by
      have h := eqF1 n d n d W
      simpa using h
    clear k0 k1 HW3
    refine wp_region_parF (α := Option Addr × Nat) 26 [] 26 [(26, 2)] [[], [0], [], [0, 1, 2], [0, 1, 2, 3], [0, 1, 2, 3, 4], [0, 1, 2, 3, 4, 5], [0, 1, 2, 3, 4], [0, 1, 2, 3, 4], [0, 1, 2, 3, 4, 5, 6, 7, 8], [0, 1, 2, 3, 4, 5, 6, 7, 8, 9], [0, 1, 2, 3, 4, 5, 6, 7, 8, 9, 10], [0, 1, 2, 3, 4, 5, 6, 7, 8, 9, 10, 11], [0, 1, 2, 3, 4, 5, 6, 7, 8, 9, 10, 11, 12], [0, 1, 2, 3, 4, 5, 6, 7, 8, 9, 10, 11, 12, 13], [0, 1, 2, 3, 4, 5, 6, 7, 8, 9, 10, 11, 12, 13, 14], [0, 1, 2, 3, 4, 5, 6, 7, 8, 9, 10, 11, 12, 13], [0, 1, 2, 3, 4, 5, 6, 7, 8, 9, 10, 11, 12, 13, 14, 15, 16], [0, 1, 2, 3, 4, 5, 6, 7, 8, 9, 10, 11, 12, 13, 14, 15, 16, 17], [0, 1, 2, 3, 4, 5, 6, 7, 8, 9, 10, 11, 12, 13, 14, 15, 16, 17, 18], [0, 1, 2, 3, 4, 5, 6, 7, 8, 9, 10, 11, 12, 13, 14, 15, 16, 17, 18, 19], [0, 1, 2, 3, 4, 5, 6, 7, 8, 9, 10, 11, 12, 13, 14, 15, 16, 17, 18, 19, 20], [0, 1, 2, 3, 4, 5, 6, 7, 8, 9, 10, 11, 12, 13, 14, 15, 16, 17, 18, 19, 20, 21], [0, 1, 2, 3, 4, 5, 6, 7, 8, 9, 10, 11, 12, 13, 14, 15, 16, 17, 18, 19, 20], [0, 1, 2, 3, 4, 5, 6, 7, 8, 9, 10, 11, 12, 13, 14, 15, 16, 17, 18, 19, 20, 21, 22, 23], [0, 1, 2, 3, 4, 5, 6, 7, 8, 9, 10, 11, 12, 13, 14, 15, 16, 17, 18, 19, 20, 21, 22, 23, 24], [0, 1, 2, 3, 4, 5, 6, 7, 8, 9, 10, 11, 12, 13, 14, 15, 16, 17, 18, 19, 20, 21, 22, 23, 24, 25]]
      [none, some (annVal (.agg #[.int .i64 n, .int .i64 d])), none, none, none, none, some ⟨fun x => .slice x.1 L.length x.2, fun x W => W.ownsRow 0 3 1 (.slice x.1 L.length x.2) L.length (iCells (ordF L n d)), fun x W W' h hE => own_kept h hE (fun _ _ h => h)⟩, none, none, some ⟨fun x => .slice x.1 L.length x.2, fun x W => W.ownsRow 0 3 1 (.slice x.1 L.length x.2) L.length (iCells (ordF L n d)), fun x W W' h hE => own_kept h hE (fun _ _ h => h)⟩, some (annVal (.bool true)), none, none, none, none, some ⟨fun x => .slice x.1 C.length x.2, fun x W => W.ownsRow 0 51 4 (.slice x.1 C.length x.2) C.length (sCells C), fun x W W' h hE => own_kept h hE (fun _ _ h => h)⟩, none, some (annVal (.bool true)), none, none, none, none, some ⟨fun x => .slice x.1 L.length x.2, fun x W => W.ownsRow 0 23 2 (.slice x.1 L.length x.2) L.length (mCells L), fun x W W' h hE => own_kept h hE (fun _ _ h => h)⟩, none, some (annVal (.bool true)), none]
      [false, true, false, false, false, false, true, false, false, true, true, false, false, false, false, true, false, true, false, false, false, false, true, false, true, false] (by kernel_rfl) (by kernel_rfl) rfl (fun _ _ d _ _ h => by cases d <;> exact h) ?_
    simp only [List.take_succ_cons, List.take_zero, pickO, List.getElem?_cons_zero, List.getElem?_cons_succ]
    iterate 1 (refine can_pure0 rfl (fun K hK => ?_); go_simp; refine hK _ ?_; clear hK K)
    refine can_mem _ rfl (by go_simp) (fun W hW hG K hK => ?_) (fun K zz1 hK => ?_)
    · go_simp
      refine (HNO.out W hW).mono ?_
      rintro e w' ⟨rfl, h⟩
      exact hK default w' h trivial
    refine hK _ ?_; clear hK K
    dsimp only [annVal]
    iterate 4 (refine can_pure0 rfl (fun K hK => ?_); go_simp; refine hK _ ?_; clear hK K)
    refine can_mem _ rfl (by go_simp) (fun W hW hG K hK => ?_) (fun K zz6 hK => ?_)
    · go_simp
      refine (HOM.out W hW).mono ?_
      rintro e w' ⟨r, rfl, hO, hE⟩
      obtain ⟨a9, c9, hr9⟩ := own_shape hO
      subst hr9
      exact hK (a9, c9) w' hE (own_base hO (Nat.zero_le _))
    refine hK _ ?_; clear hK K
    dsimp only
    iterate 2 (refine can_pure0 rfl (fun K hK => ?_); go_simp; refine hK _ ?_; clear hK K)
    refine can_mem _ rfl (by go_simp) (fun W hW hG K hK => ?_) (fun K zz9 hK => ?_)
    · go_simp
      refine (HRO.out W hW).mono ?_
      rintro e w' ⟨r, rfl, hO, hE⟩
      obtain ⟨a9, c9, hr9⟩ := own_shape hO
      subst hr9
      exact hK (a9, c9) w' hE (own_base hO (Nat.zero_le _))
    refine hK _ ?_; clear hK K
    dsimp only
    refine can_mem _ rfl (by go_simp) (fun W hW hG K hK => ?_) (fun K zz10 hK => ?_)
    · have g6 := hG _ (List.mem_append_left _ (List.mem_append_right _ (List.mem_singleton.2 rfl))) (by show (6 : Nat) ∈ _; decide)
      have g9 := hG _ (List.mem_append_right _ (List.mem_singleton.2 rfl)) (by show (9 : Nat) ∈ _; decide)
      go_simp
      refine (eqi_true (ordF L n d) L.length W 0 0 _ _ (ordF_len L n d) (by have := HLL.out; omega) g6 g9).mono ?_
      rintro e w' ⟨rfl, h⟩
      exact hK default w' h trivial
    refine hK _ ?_; clear hK K
    dsimp only [annVal]
    iterate 4 (refine can_pure0 rfl (fun K hK => ?_); go_simp; refine hK _ ?_; clear hK K)
    refine can_mem _ rfl (by go_simp) (fun W hW hG K hK => ?_) (fun K zz15 hK => ?_)
    · go_simp
      refine (HCM.out W hW).mono ?_
      rintro e w' ⟨r, rfl, hO, hE⟩
      obtain ⟨a9, c9, hr9⟩ := own_shape hO
      subst hr9
      exact hK (a9, c9) w' hE (own_base hO (Nat.zero_le _))
    refine hK _ ?_; clear hK K
    dsimp only
    iterate 1 (refine can_pure0 rfl (fun K hK => ?_); go_simp; refine hK _ ?_; clear hK K)
    refine can_mem _ rfl (by go_simp) (fun W hW hG K hK => ?_) (fun K zz17 hK => ?_)
    · have g15 := hG _ (List.mem_append_right _ (List.mem_singleton.2 rfl)) (by show (15 : Nat) ∈ _; decide)
      go_simp
      refine (same_true C W _ _ _ _ (by have := HCN.out; omega) (SwR.own rfl g15) (SwR.ext HC3.out hW)).mono ?_
      rintro e w' ⟨rfl, h⟩
      exact hK default w' h trivial
    refine hK _ ?_; clear hK K
    dsimp only [annVal]
    iterate 4 (refine can_pure0 rfl (fun K hK => ?_); go_simp; refine hK _ ?_; clear hK K)
    refine can_mem _ rfl (by go_simp) (fun W hW hG K hK => ?_) (fun K zz22 hK => ?_)
    · go_simp
      refine (HMM.out W hW).mono ?_
      rintro e w' ⟨r, rfl, hO, hE⟩
      obtain ⟨a9, c9, hr9⟩ := own_shape hO
      subst hr9
      exact hK (a9, c9) w' hE (own_base hO (Nat.zero_le _))
    refine hK _ ?_; clear hK K
    dsimp only
    iterate 1 (refine can_pure0 rfl (fun K hK => ?_); go_simp; refine hK _ ?_; clear hK K)
    refine can_mem _ rfl (by go_simp) (fun W hW hG K hK => ?_) (fun K zz24 hK => ?_)
    · have g22 := hG _ (List.mem_append_right _ (List.mem_singleton.2 rfl)) (by show (22 : Nat) ∈ _; decide)
      go_simp
      refine (eqm_true L W _ _ _ _ (by have := HLL.out; omega) (MoR.own rfl g22) (MoR.ext HML.out hW)).mono ?_
      rintro e w' ⟨rfl, h⟩
      exact hK default w' h trivial
    refine hK _ ?_; clear hK K
    dsimp only [annVal]
    iterate 1 (refine can_pure0 rfl (fun K hK => ?_); go_simp; refine hK _ ?_; clear hK K)
    refine can_end (fun w4 hW hG => ?_)
    clear hG
    have H4 := Lib.hid hW
    clear hW
    iterate 1 (refine mix_two (fun K hK => ?_); go_simp; refine hK _ _ ?_; clear hK K)
    simp only [wpMix]
    clear heqF xk0 xk1 HNO HOM HRO HCM HMM HML
    go_wp2_with fail
    have HWB := Lib.hid (alloc0 w4 (.cells #[.int .i64 0, .int .i64 0, .int .i64 0, .int .i64 0] 51))
    have H5 := Lib.hid ((Upd.refl (fun _ => False) w4).alloc (.cells #[.int .i64 0, .int .i64 0, .int .i64 0, .int .i64 0] 51))
    have HS5 := Lib.hid (show w4.heap.size < (w4.alloc (.cells #[.int .i64 0, .int .i64 0, .int .i64 0, .int .i64 0] 51)).heap.size by simp)
    generalize hw5 : w4.alloc (.cells #[.int .i64 0, .int .i64 0, .int .i64 0, .int .i64 0] 51) = w5 at *
    clear hw5
    obtain ⟨wb, hwb⟩ : ∃ wb, wb = w4.heap.size := ⟨_, rfl⟩
    have HWL : Hid (w3.heap.size ≤ wb) := Lib.hid (by rw [hwb]; exact H4.out.size)
    rw [← hwb] at HWB HS5 ⊢
    clear hwb
    have HE5 := Lib.hid (H4.out.ext H5.out)
    have HC5 := Lib.hid (SwR.ext HC3.out HE5.out)
    clear H4 H5 HC3
    go_wp2_with fail
    go_loopg [13, 83] C.length (fun gk fv kv wt => ∃ k : Nat, kv = .int .i64 (k : Int) ∧ gk = C.length - k ∧ k ≤ C.length ∧ (∃ f : Int, fv = .int .i64 f ∧ (k = 0 → f = 12) ∧ (0 < k → f = 0)) ∧ Hid (Upd (fun j => j = wb) w5 wt) ∧ ∃ q0 q1 q2 q3 : Int, Hid (bw (C.take k) = (q0, q1, q2, q3)) ∧ Hid (wt.heap[wb]? = some (.cells #[.int .i64 q0, .int .i64 q1, .int .i64 q2, .int .i64 q3] 51 (0, 0))))
    case atStart => exact ⟨0, rfl, rfl, Nat.zero_le _, ⟨12, rfl, fun _ => rfl, fun h => absurd h (Nat.lt_irrefl 0)⟩, Lib.hid (Upd.refl _ _), 0, 0, 0, 0, Lib.hid rfl, HWB⟩
    case round =>
      clear HWB
      obtain ⟨wt, hwt⟩ : ∃ wa, wa = wr := ⟨_, rfl⟩
      subst hwt
      obtain ⟨k, rfl, rfl, hk, ⟨f, rfl, hf0, hf1⟩, HU, q0, q1, q2, q3, HQ, HB⟩ := hrel
      have hcn : C.length ≤ 12 := HCN.out
      by_cases hlt : k < C.length
      · obtain ⟨g7, o7, rfl⟩ := HC5.out.at_ (by omega)
        have hR7 : SwR (fun k => ws.heap.size ≤ k ∧ k < w1.heap.size) wt (.slice (some ⟨g7, o7, none⟩) C.length c1) C := SlR.kept HC5.out HU.out (fun j hj e => by have := HX2.out; have h3 := HWL.out; have h2 := HX3.out; omega)
        obtain ⟨j0, j1, j2, j3⟩ := hR7.cells hlt
        have hoky : okE (sg4 C k) := by
          unfold sg4
          rw [List.getD_eq_getElem?_getD, List.getElem?_eq_getElem hlt]
          exact HOKC.out _ (List.getElem_mem hlt)
        have HN := Lib.hid (bw_take C k hlt)
        have HOQ : Hid (0 < k → okE (q0, q1, q2, q3)) := Lib.hid (fun h => by rw [← HQ.out]; exact bw_ok C HOKC.out k h (by omega))
        have hz0 : (0 : Int) ≤ (k : Int) := by omega
        have hz1 : (k : Int) < (C.length : Int) := by omega
        rw [HQ.out] at HN
        generalize sg4 C k = y at *
        obtain ⟨p0, p1, p2, p3⟩ := y
        simp only at j0 j1 j2 j3
        have HB7 := Lib.hid (And.intro (alloc0 wt (.cells #[.int .i64 p0, .int .i64 p1, .int .i64 p2, .int .i64 p3] 51)) (allocOld HB.out (.cells #[.int .i64 p0, .int .i64 p1, .int .i64 p2, .int .i64 p3] 51)))
        have HE7 := Lib.hid (HU.out.alloc (.cells #[.int .i64 p0, .int .i64 p1, .int .i64 p2, .int .i64 p3] 51))
        clear hR7
        by_cases hk0 : k = 0
        · have HN2 : Hid (bw (C.take (k + 1)) = (p0, p1, p2, p3)) := Lib.hid (HN.out.1 hk0)
          have hf := hf0 hk0
          subst hf
          have f0 := cellRow HB7.out.1 0 (.int .i64 p0) rfl
          have f1 := cellRow HB7.out.1 1 (.int .i64 p1) rfl
          have f2 := cellRow HB7.out.1 2 (.int .i64 p2) rfl
          have f3 := cellRow HB7.out.1 3 (.int .i64 p3) rfl
          have g0 := cellRow HB7.out.2 0 (.int .i64 q0) rfl
          have g1 := cellRow HB7.out.2 1 (.int .i64 q1) rfl
          have g2 := cellRow HB7.out.2 2 (.int .i64 q2) rfl
          have g3 := cellRow HB7.out.2 3 (.int .i64 q3) rfl
          have m0 := frozenRow HB7.out.2 0
          have m1 := frozenRow HB7.out.2 1
          have m2 := frozenRow HB7.out.2 2
          have m3 := frozenRow HB7.out.2 3
          have HBo := Lib.hid HB7.out.2
          have HE8 := HE7
          clear hoky HN HOQ hf0 hf1 hk0
          go_wp2_with fail
          have HB9 := Lib.hid (setBlock (setBlock (setBlock (setBlock HBo.out 0 (.int .i64 p0)) 1 (.int .i64 p1)) 2 (.int .i64 p2)) 3 (.int .i64 p3))
          have HE9 := Lib.hid (upd_set4 HE8.out (g := wb) (.inl rfl) 0 1 2 3 (.int .i64 p0) (.int .i64 p1) (.int .i64 p2) (.int .i64 p3))
          go_roundg (C.length - (k + 1))
          case measure => omega
          case rel => exact ⟨k + 1, by go_num, rfl, by omega, ⟨0, rfl, fun h => absurd h (Nat.succ_ne_zero k), fun _ => rfl⟩, HE9, p0, p1, p2, p3, HN2, HB9⟩
        · have hf := hf1 (by omega)
          subst hf
          have hokq := HOQ.out (by omega)
          have HBF := Lib.hid (fun W => rcmp_ok p0 p1 q0 q1 W ⟨hoky, hokq⟩)
          have hcz := cmpI_neg (p0 * q1) (q0 * p1)
          have HN3 := Lib.hid (HN.out.2 (by omega))
          generalize Lib.compareInt (p0 * q1) (q0 * p1) = Z at *
          have d0 := cellRow HB7.out.1 0 (.int .i64 p0) rfl
          have d1 := cellRow HB7.out.1 1 (.int .i64 p1) rfl
          have d2 := cellRow HB7.out.1 2 (.int .i64 p2) rfl
          have d3 := cellRow HB7.out.1 3 (.int .i64 p3) rfl
          have e0 := cellRow HB7.out.2 0 (.int .i64 q0) rfl
          have e1 := cellRow HB7.out.2 1 (.int .i64 q1) rfl
          have e2 := cellRow HB7.out.2 2 (.int .i64 q2) rfl
          have e3 := cellRow HB7.out.2 3 (.int .i64 q3) rfl
          clear hoky hokq HOQ HN hf0 hf1 hk0
          by_cases hC : p0 * q1 < q0 * p1
          · have HN2 : Hid (bw (C.take (k + 1)) = (p0, p1, p2, p3)) := Lib.hid (by rw [HN3.out]; unfold better; rw [if_pos hC])
            rw [decide_eq_true hC] at hcz
            clear hC HN3
            go_wp2_with fail
            refine (HBF.out _).mono ?_
            rintro e w8 ⟨rfl, hw8⟩
            have hb7 := hw8.heap HB7.out.1 (fun h => h)
            have hBo := hw8.heap HB7.out.2 (fun h => h)
            have f0 := cellRow hb7 0 (.int .i64 p0) rfl
            have f1 := cellRow hb7 1 (.int .i64 p1) rfl
            have f2 := cellRow hb7 2 (.int .i64 p2) rfl
            have f3 := cellRow hb7 3 (.int .i64 p3) rfl
            have g0 := cellRow hBo 0 (.int .i64 q0) rfl
            have g1 := cellRow hBo 1 (.int .i64 q1) rfl
            have g2 := cellRow hBo 2 (.int .i64 q2) rfl
            have g3 := cellRow hBo 3 (.int .i64 q3) rfl
            have m0 := frozenRow hBo 0
            have m1 := frozenRow hBo 1
            have m2 := frozenRow hBo 2
            have m3 := frozenRow hBo 3
            have HBo := Lib.hid hBo
            have HE8 := Lib.hid (HE7.out.trans' hw8 (fun _ _ h => h.elim))
            clear hw8 hb7 hBo HBF d0 d1 d2 d3 e0 e1 e2 e3 j0 j1 j2 j3
            go_wp2_with fail
            have HB9 := Lib.hid (setBlock (setBlock (setBlock (setBlock HBo.out 0 (.int .i64 p0)) 1 (.int .i64 p1)) 2 (.int .i64 p2)) 3 (.int .i64 p3))
            have HE9 := Lib.hid (upd_set4 HE8.out (g := wb) (.inl rfl) 0 1 2 3 (.int .i64 p0) (.int .i64 p1) (.int .i64 p2) (.int .i64 p3))
            go_roundg (C.length - (k + 1))
            case measure => omega
            case rel => exact ⟨k + 1, by go_num, rfl, by omega, ⟨0, rfl, fun h => absurd h (Nat.succ_ne_zero k), fun _ => rfl⟩, HE9, p0, p1, p2, p3, HN2, HB9⟩
          · have HN2 : Hid (bw (C.take (k + 1)) = (q0, q1, q2, q3)) := Lib.hid (by rw [HN3.out]; unfold better; rw [if_neg hC])
            rw [decide_eq_false hC] at hcz
            clear hC HN3
            go_wp2_with fail
            refine (HBF.out _).mono ?_
            rintro e w8 ⟨rfl, hw8⟩
            have HBo := Lib.hid (hw8.heap HB7.out.2 (fun h => h))
            have HE8 := Lib.hid (HE7.out.trans' hw8 (fun _ _ h => h.elim))
            clear hw8 HBF d0 d1 d2 d3 e0 e1 e2 e3 j0 j1 j2 j3
            go_wp2_with fail
            go_roundg (C.length - (k + 1))
            case measure => omega
            case rel => exact ⟨k + 1, by go_num, rfl, by omega, ⟨0, rfl, fun h => absurd h (Nat.succ_ne_zero k), fun _ => rfl⟩, HE8, q0, q1, q2, q3, HN2, HBo⟩
      · obtain rfl : k = C.length := by omega
        have hq : (q0, q1, q2, q3) = (x0, x1, x2, x3) := by rw [← HQ.out, List.take_length, HX.out]
        injection hq with hq0 hq
        injection hq with hq1 hq
        injection hq with hq2 hq3
        subst hq0; subst hq1; subst hq2; subst hq3
        have hfE : f = E := by
          rcases Nat.eq_zero_or_pos C.length with h | h
          · rw [hf0 h, HEE.out.1 h]
          · rw [hf1 h, HEE.out.2 h]
        subst hfE
        have HWS : Hid (Ext ws wt) := Lib.hid ((HS3.out.ext HE5.out).trans' HU.out (fun j hj e => by have h1 := HWL.out; have h2 := HS3.out.size; omega))
        have hxt := HU.out.heap (HE5.out.heap HXB.out (fun h => h)) (by have h1 := HWL.out; have h2 := HX3.out; omega)
        have a0 := cellRow hxt 0 (.int .i64 q0) rfl
        have a1 := cellRow hxt 1 (.int .i64 q1) rfl
        have a2 := cellRow hxt 2 (.int .i64 q2) rfl
        have a3 := cellRow hxt 3 (.int .i64 q3) rfl
        have b0 := cellRow HB.out 0 (.int .i64 q0) rfl
        have b1 := cellRow HB.out 1 (.int .i64 q1) rfl
        have b2 := cellRow HB.out 2 (.int .i64 q2) rfl
        have b3 := cellRow HB.out 3 (.int .i64 q3) rfl
        have heqS : ∀ W, (Op.equalIn 10000 51 (.agg #[.int .i64 q0, .int .i64 q1, .int .i64 q2, .int .i64 q3]) (.agg #[.int .i64 q0, .int .i64 q1, .int .i64 q2, .int .i64 q3])).run Try.prog W = .ok true W := fun W => by
          have h := eqS q0 q1 q2 q3 q0 q1 q2 q3 W
          simpa using h
        have hff : (f != f) = false := by simp
        clear hf0 hf1 hxt HQ HX HXB HB HU HE5 HC5 HWL HS5 HX2 HX3 HOKC HEE HS3 HC1 H1 hcn hlt hk
        by_cases hie : i = c.length
        · have t2 : ((i : Int) == (c.length : Int)) = true := beq_iff_eq.2 (by omega)
          clear hie
          go_wp2_with fail
          go_ret
          exact ⟨rfl, HE.out.ext HWS.out⟩
        have t2 : ((i : Int) == (c.length : Int)) = false := by
          rw [Bool.eq_false_iff]
          intro h
          exact hie (by have := beq_iff_eq.1 h; omega)
        have hlt : i < c.length := by omega
        have hcC : CallR T wt (.slice ac c.length cc) c := SlR.kept HCL.out.1 (HE.out.ext HWS.out) (fun _ _ h => h)
        obtain ⟨gc, oc, rfl⟩ := hcC.at_ (by omega)
        obtain ⟨j0, j1, j2, j3, j4⟩ := hcC.cells hlt
        have HBD := Lib.hid (HCB.out (cg c i) (by unfold cg; rw [List.getD_eq_getElem?_getD, List.getElem?_eq_getElem hlt]; exact List.getElem_mem hlt))
        have hi0 : (0 : Int) ≤ (i : Int) := by omega
        have hi1 : (i : Int) < (c.length : Int) := by omega
        have hc12 := HC12.out
        generalize cg c i = y at *
        obtain ⟨ch, m, e0, pi, sp⟩ := y
        simp only at j0 j1 j2 j3 j4 HBD
        clear hcC hie
        cases ch
        rotate_left
        · have hm := HL12.out
          have HYB := Lib.hid (alloc0 wt (.cells #[.bool true, .int .i64 m, .int .i64 e0, .int .i64 pi, .int .i64 sp] 62))
          have HUY := Lib.hid ((Upd.refl (fun _ => False) wt).alloc (.cells #[.bool true, .int .i64 m, .int .i64 e0, .int .i64 pi, .int .i64 sp] 62))
          have HWY := Lib.hid (HWS.out.alloc (.cells #[.bool true, .int .i64 m, .int .i64 e0, .int .i64 pi, .int .i64 sp] 62))
          have y0 := cellRow HYB.out 0 (.bool true) rfl
          have yh := (Upd.refl (fun _ => False) _).heap HYB.out (fun h => h)
          have y1 := cellRow yh 1 (.int .i64 m) rfl
          have y2 := cellRow yh 2 (.int .i64 e0) rfl
          have y3 := cellRow yh 3 (.int .i64 pi) rfl
          have y4 := cellRow yh 4 (.int .i64 sp) rfl
          clear yh
          have HNBy := Lib.hid (HWY.out.heap HNB.out (fun h => h))
          have n0 := cellRow ((Upd.refl (fun _ => False) _).heap HNBy.out (fun h => h)) 0 (.int .i64 n) rfl
          have n1 := cellRow ((Upd.refl (fun _ => False) _).heap HNBy.out (fun h => h)) 1 (.int .i64 d) rfl
          have HLIy := Lib.hid (HLI.out.ext HWY.out)
          have HMLy := Lib.hid (HML0.out.ext HWY.out)
          have HSY := Lib.hid (show (wt.alloc (.cells #[.bool true, .int .i64 m, .int .i64 e0, .int .i64 pi, .int .i64 sp] 62)).heap.size = wt.heap.size + 1 by simp)
          have HRCH := Lib.hid (rchange_all L n d pi sp S' (.slice am L.length cm) _ (by have := HL12.out; omega) HLI.out.okm HLI.out.okt HMLy.out)
          obtain ⟨G, hG⟩ : ∃ G, chE L n d pi sp = G := ⟨_, rfl⟩
          rw [hG] at HRCH
          have HG := Lib.hid hG
          have hgg : (G != G) = false := by simp
          clear hG
          go_wp2_with fail
          refine HRCH.out.mono ?_
          rintro e w8 ⟨r8, S8, rfl, hM8, hS8, hw8⟩
          obtain ⟨a8, c8, rfl⟩ := hM8.shape
          have HM8 := Lib.hid (And.intro hM8 hS8)
          have HW8 := Lib.hid hw8
          have HCHA := Lib.hid (change_all w8 kb mv ov' L n d pi sp (HLIy.out.ext hw8))
          rw [HG.out] at HCHA
          clear hM8 hS8 hw8 y0 y1 y2 y3 y4 n0 n1 a0 a1 a2 a3 b0 b1 b2 b3 j0 j1 j2 j3 j4 HRCH
          have yh := HW8.out.heap HYB.out (fun h => h)
          have y1 := cellRow yh 1 (.int .i64 m) rfl
          have y2 := cellRow yh 2 (.int .i64 e0) rfl
          have y3 := cellRow yh 3 (.int .i64 pi) rfl
          have y4 := cellRow yh 4 (.int .i64 sp) rfl
          clear yh
          go_wp2_with fail
          refine HCHA.out.mono ?_
          rintro e w9 ⟨rfl, ov9, hL9, hov9, hU9⟩
          have HU9 := Lib.hid hU9
          have HL9 := Lib.hid (And.intro hL9 hov9)
          clear hU9 hL9 hov9 y1 y2 y3 y4 HCHA
          go_wp2_with fail
          have hkb := (Array.getElem?_eq_some_iff.1 HLI.out.cell).1
          have hmb := HLI.out.mot.lt
          have hsy := HWY.out.size
          have hs8 := HW8.out.size
          have hs9 := HU9.out.size
          have hnb := HNS.out
          have hF := HF.out
          go_roundg (c.length - (i + 1))
          case measure => omega
          case rel => 
            refine ⟨i + 1, chL L n d pi sp, n, d, ov9, S8, by go_num, rfl, by omega, Lib.hid (((HE.out.ext HWY.out).ext HW8.out).trans' HU9.out ?_), Lib.hid HL9.out.1, Lib.hid (by rw [chL_len]; exact HL12.out), Lib.hid (SlR.kept HM8.out.1 HU9.out ?_), Lib.hid ?_, Lib.hid (HU9.out.heap (HW8.out.heap HNBy.out (fun h => h)) ?_), Lib.hid ?_⟩
            · intro j hj h
              rcases h with h | h
              · omega
              · have := (hF.2.1 j h).1; omega
            · intro k hk h
              rcases HM8.out.2 k hk with h2 | h2
              · have h3 := HSL.out k h2
                rcases h with h | h
                · exact h3.2.2.1 h
                · exact h3.2.2.2 h
              · rcases h with h | h
                · omega
                · have := (hmb k h).2; omega
            · intro k hk
              rcases HM8.out.2 k hk with h2 | h2
              · have h3 := HSL.out k h2
                exact ⟨by omega, h3.2⟩
              · exact ⟨by omega, by omega, by omega, fun e => by have := (hmb k e).2; omega⟩
            · rintro (h | h)
              · omega
              · have := (hF.2.1 nb h).2; omega
            · intro g hg
              rcases HL9.out.2 g hg with h | h
              · omega
              · exact HON.out g h

        cases ht : timeB m e0
        · have hm := HL12.out
          have HYB := Lib.hid (alloc0 wt (.cells #[.bool false, .int .i64 m, .int .i64 e0, .int .i64 pi, .int .i64 sp] 62))
          have HUY := Lib.hid ((Upd.refl (fun _ => False) wt).alloc (.cells #[.bool false, .int .i64 m, .int .i64 e0, .int .i64 pi, .int .i64 sp] 62))
          have HWY := Lib.hid (HWS.out.alloc (.cells #[.bool false, .int .i64 m, .int .i64 e0, .int .i64 pi, .int .i64 sp] 62))
          have y0 := cellRow HYB.out 0 (.bool false) rfl
          have yh := (Upd.refl (fun _ => False) _).heap HYB.out (fun h => h)
          have y1 := cellRow yh 1 (.int .i64 m) rfl
          have y2 := cellRow yh 2 (.int .i64 e0) rfl
          have y3 := cellRow yh 3 (.int .i64 pi) rfl
          have y4 := cellRow yh 4 (.int .i64 sp) rfl
          clear yh
          have HNBy := Lib.hid (HWY.out.heap HNB.out (fun h => h))
          have n0 := cellRow ((Upd.refl (fun _ => False) _).heap HNBy.out (fun h => h)) 0 (.int .i64 n) rfl
          have n1 := cellRow ((Upd.refl (fun _ => False) _).heap HNBy.out (fun h => h)) 1 (.int .i64 d) rfl
          have HLIy := Lib.hid (HLI.out.ext HWY.out)
          have HMLy := Lib.hid (HML0.out.ext HWY.out)
          have HSY := Lib.hid (show (wt.alloc (.cells #[.bool false, .int .i64 m, .int .i64 e0, .int .i64 pi, .int .i64 sp] 62)).heap.size = wt.heap.size + 1 by simp)
          have HAD := Lib.hid (adv_bad (wt.alloc (.cells #[.bool false, .int .i64 m, .int .i64 e0, .int .i64 pi, .int .i64 sp] 62)) kb m e0 HBD.out.1.1 HBD.out.1.2 HBD.out.2.1 HBD.out.2.2 ht)
          have HRT := Lib.hid (fun W => rtime_x m e0 W)
          rw [ht] at HRT
          go_wp2_with fail
          refine (HAD.out).mono ?_
          rintro e w8 ⟨rfl, hw8⟩
          have HW8 := Lib.hid hw8
          clear hw8 y0 y1 y2 y3 y4 n0 n1 a0 a1 a2 a3 b0 b1 b2 b3 j0 j1 j2 j3 j4 HAD
          have yh := HW8.out.heap HYB.out (fun h => h)
          have y1 := cellRow yh 1 (.int .i64 m) rfl
          have y2 := cellRow yh 2 (.int .i64 e0) rfl
          have y3 := cellRow yh 3 (.int .i64 pi) rfl
          have y4 := cellRow yh 4 (.int .i64 sp) rfl
          clear yh
          go_wp2_with fail
          refine (HRT.out _).mono ?_
          rintro e w9 ⟨rfl, hw9⟩
          have HW9 := Lib.hid (HW8.out.ext hw9)
          clear hw9 y1 y2 y3 y4 HW8
          clear ht
          go_wp2_with fail
          go_roundg (c.length - (i + 1))
          case measure => omega
          case rel => exact ⟨i + 1, L, n, d, ov', S', by go_num, rfl, by omega, Lib.hid (HE.out.ext (HWY.out.ext HW9.out)), Lib.hid (HLI.out.ext (HWY.out.ext HW9.out)), HL12, Lib.hid (HML0.out.ext (HWY.out.ext HW9.out)), Lib.hid (fun k hk => ⟨Nat.lt_of_lt_of_le (HSL.out k hk).1 (HWY.out.ext HW9.out).size, (HSL.out k hk).2⟩), Lib.hid ((HWY.out.ext HW9.out).heap HNB.out (fun h => h)), HON⟩

        by_cases hlt2 : m * d < n * e0
        · have hm := HL12.out
          have HYB := Lib.hid (alloc0 wt (.cells #[.bool false, .int .i64 m, .int .i64 e0, .int .i64 pi, .int .i64 sp] 62))
          have HUY := Lib.hid ((Upd.refl (fun _ => False) wt).alloc (.cells #[.bool false, .int .i64 m, .int .i64 e0, .int .i64 pi, .int .i64 sp] 62))
          have HWY := Lib.hid (HWS.out.alloc (.cells #[.bool false, .int .i64 m, .int .i64 e0, .int .i64 pi, .int .i64 sp] 62))
          have y0 := cellRow HYB.out 0 (.bool false) rfl
          have yh := (Upd.refl (fun _ => False) _).heap HYB.out (fun h => h)
          have y1 := cellRow yh 1 (.int .i64 m) rfl
          have y2 := cellRow yh 2 (.int .i64 e0) rfl
          have y3 := cellRow yh 3 (.int .i64 pi) rfl
          have y4 := cellRow yh 4 (.int .i64 sp) rfl
          clear yh
          have HNBy := Lib.hid (HWY.out.heap HNB.out (fun h => h))
          have n0 := cellRow ((Upd.refl (fun _ => False) _).heap HNBy.out (fun h => h)) 0 (.int .i64 n) rfl
          have n1 := cellRow ((Upd.refl (fun _ => False) _).heap HNBy.out (fun h => h)) 1 (.int .i64 d) rfl
          have HLIy := Lib.hid (HLI.out.ext HWY.out)
          have HMLy := Lib.hid (HML0.out.ext HWY.out)
          have HSY := Lib.hid (show (wt.alloc (.cells #[.bool false, .int .i64 m, .int .i64 e0, .int .i64 pi, .int .i64 sp] 62)).heap.size = wt.heap.size + 1 by simp)
          have HAD := Lib.hid (adv_early (wt.alloc (.cells #[.bool false, .int .i64 m, .int .i64 e0, .int .i64 pi, .int .i64 sp] 62)) kb mv ov' L n d m e0 HLIy.out ht hlt2)
          have HRT := Lib.hid (fun W => rtime_x m e0 W)
          rw [ht] at HRT
          go_wp2_with fail
          refine (HAD.out).mono ?_
          rintro e w8 ⟨rfl, hw8⟩
          have HW8 := Lib.hid hw8
          clear hw8 y0 y1 y2 y3 y4 n0 n1 a0 a1 a2 a3 b0 b1 b2 b3 j0 j1 j2 j3 j4 HAD
          have yh := HW8.out.heap HYB.out (fun h => h)
          have y1 := cellRow yh 1 (.int .i64 m) rfl
          have y2 := cellRow yh 2 (.int .i64 e0) rfl
          have y3 := cellRow yh 3 (.int .i64 pi) rfl
          have y4 := cellRow yh 4 (.int .i64 sp) rfl
          clear yh
          go_wp2_with fail
          refine (HRT.out _).mono ?_
          rintro e w9 ⟨rfl, hw9⟩
          have HW9 := Lib.hid (HW8.out.ext hw9)
          clear hw9 y1 y2 y3 y4 HW8
          have yh := HW9.out.heap HYB.out (fun h => h)
          have y1 := cellRow yh 1 (.int .i64 m) rfl
          have y2 := cellRow yh 2 (.int .i64 e0) rfl
          have y3 := cellRow yh 3 (.int .i64 pi) rfl
          have y4 := cellRow yh 4 (.int .i64 sp) rfl
          clear yh
          have n0 := cellRow (HW9.out.heap HNBy.out (fun h => h)) 0 (.int .i64 n) rfl
          have n1 := cellRow (HW9.out.heap HNBy.out (fun h => h)) 1 (.int .i64 d) rfl
          have HCP := Lib.hid (fun W => rcmp_ok m e0 n d W ⟨((timeB_iff _ _).1 ht).1, HLI.out.okt⟩)
          have hcz := cmpI_neg (m * d) (n * e0)
          rw [decide_eq_true hlt2] at hcz
          generalize Lib.compareInt (m * d) (n * e0) = Z at *
          go_wp2_with fail
          refine (HCP.out _).mono ?_
          rintro e w10 ⟨rfl, hw10⟩
          have HW10 := Lib.hid (HWY.out.ext (HW9.out.ext hw10))
          clear hw10 y1 y2 y3 y4 n0 n1
          go_wp2_with fail
          go_roundg (c.length - (i + 1))
          case measure => omega
          case rel => exact ⟨i + 1, L, n, d, ov', S', by go_num, rfl, by omega, Lib.hid (HE.out.ext HW10.out), Lib.hid (HLI.out.ext HW10.out), HL12, Lib.hid (HML0.out.ext HW10.out), Lib.hid (fun k hk => ⟨Nat.lt_of_lt_of_le (HSL.out k hk).1 HW10.out.size, (HSL.out k hk).2⟩), Lib.hid (HW10.out.heap HNB.out (fun h => h)), HON⟩

        · have hm := HL12.out
          have HYB := Lib.hid (alloc0 wt (.cells #[.bool false, .int .i64 m, .int .i64 e0, .int .i64 pi, .int .i64 sp] 62))
          have HUY := Lib.hid ((Upd.refl (fun _ => False) wt).alloc (.cells #[.bool false, .int .i64 m, .int .i64 e0, .int .i64 pi, .int .i64 sp] 62))
          have HWY := Lib.hid (HWS.out.alloc (.cells #[.bool false, .int .i64 m, .int .i64 e0, .int .i64 pi, .int .i64 sp] 62))
          have y0 := cellRow HYB.out 0 (.bool false) rfl
          have yh := (Upd.refl (fun _ => False) _).heap HYB.out (fun h => h)
          have y1 := cellRow yh 1 (.int .i64 m) rfl
          have y2 := cellRow yh 2 (.int .i64 e0) rfl
          have y3 := cellRow yh 3 (.int .i64 pi) rfl
          have y4 := cellRow yh 4 (.int .i64 sp) rfl
          clear yh
          have HNBy := Lib.hid (HWY.out.heap HNB.out (fun h => h))
          have n0 := cellRow ((Upd.refl (fun _ => False) _).heap HNBy.out (fun h => h)) 0 (.int .i64 n) rfl
          have n1 := cellRow ((Upd.refl (fun _ => False) _).heap HNBy.out (fun h => h)) 1 (.int .i64 d) rfl
          have HLIy := Lib.hid (HLI.out.ext HWY.out)
          have HMLy := Lib.hid (HML0.out.ext HWY.out)
          have HSY := Lib.hid (show (wt.alloc (.cells #[.bool false, .int .i64 m, .int .i64 e0, .int .i64 pi, .int .i64 sp] 62)).heap.size = wt.heap.size + 1 by simp)
          have HLE := Lib.hid (show n * e0 ≤ m * d by omega)
          have HAD := Lib.hid (adv_ok (wt.alloc (.cells #[.bool false, .int .i64 m, .int .i64 e0, .int .i64 pi, .int .i64 sp] 62)) kb mv ov' L n d m e0 HLIy.out ht HLE.out)
          have HRT := Lib.hid (fun W => rtime_x m e0 W)
          rw [ht] at HRT
          have HV2 := Lib.hid ((timeB_iff _ _).1 ht)
          go_wp2_with fail
          refine (HAD.out).mono ?_
          rintro e w8 ⟨r8, ov8, rfl, hO8, hL8, hov8, hw8⟩
          obtain ⟨a8, c8, rfl⟩ := own_shape hO8
          have HW8 := Lib.hid hw8
          have HL8 := Lib.hid (And.intro hL8 hov8)
          have HO8 := Lib.hid hO8
          have hkb := (Array.getElem?_eq_some_iff.1 HLI.out.cell).1
          have hnb := HNS.out
          have hF := HF.out
          have hsy := HWY.out.size
          have HNEY := Lib.hid (show wt.heap.size ≠ kb by have := HWS.out.size; omega)
          have HYB8 := Lib.hid (hw8.heap HYB.out HNEY.out)
          have HNB8 := Lib.hid (hw8.heap HNBy.out (by omega))
          have HM8 : Hid (MoR S' w8 (.slice am L.length cm) L) := Lib.hid (SlR.kept HMLy.out hw8 (fun k hk h => (HSL.out k hk).2.2.1 h))
          have HS8 := Lib.hid hw8.size
          have HE8 := Lib.hid ((HE.out.ext HWY.out).trans' hw8 (fun j hj h => by omega))
          clear hO8 hL8 hov8 hw8 y0 y1 y2 y3 y4 n0 n1 a0 a1 a2 a3 b0 b1 b2 b3 j0 j1 j2 j3 j4 HAD hkb hnb hF hsy
          have y1 := cellRow HYB8.out 1 (.int .i64 m) rfl
          have y2 := cellRow HYB8.out 2 (.int .i64 e0) rfl
          go_wp2_with fail
          refine (HRT.out _).mono ?_
          rintro e w9 ⟨rfl, hw9⟩
          have HW9 := Lib.hid hw9
          clear hw9 y1 y2
          have y1 := cellRow (HW9.out.heap HYB8.out (fun h => h)) 1 (.int .i64 m) rfl
          have y2 := cellRow (HW9.out.heap HYB8.out (fun h => h)) 2 (.int .i64 e0) rfl
          have n0 := cellRow (HW9.out.heap HNB8.out (fun h => h)) 0 (.int .i64 n) rfl
          have n1 := cellRow (HW9.out.heap HNB8.out (fun h => h)) 1 (.int .i64 d) rfl
          have HCP := Lib.hid (fun W => rcmp_ok m e0 n d W ⟨HV2.out.1, HLI.out.okt⟩)
          have hcz := cmpI_neg (m * d) (n * e0)
          rw [decide_eq_false (Int.not_lt.2 HLE.out)] at hcz
          generalize Lib.compareInt (m * d) (n * e0) = Z at *
          go_wp2_with fail
          refine (HCP.out _).mono ?_
          rintro e w10 ⟨rfl, hw10⟩
          have HW10 := Lib.hid (HW9.out.ext hw10)
          clear hw10 y1 y2 n0 n1
          have y1 := cellRow (HW10.out.heap HYB8.out (fun h => h)) 1 (.int .i64 m) rfl
          have y2 := cellRow (HW10.out.heap HYB8.out (fun h => h)) 2 (.int .i64 e0) rfl
          have n0 := cellRow (HW10.out.heap HNB8.out (fun h => h)) 0 (.int .i64 n) rfl
          have n1 := cellRow (HW10.out.heap HNB8.out (fun h => h)) 1 (.int .i64 d) rfl
          have HRS := Lib.hid (rswaps_x L n d m e0 S' (.slice am L.length cm) w10 (by have := HL12.out; omega) HLI.out.okm HLI.out.okt HLI.out.pos HV2.out.1 HLE.out (HM8.out.ext HW10.out) (fun k hk => by have h1 := (HSL.out k hk).1; have h2 := HWY.out.size; have h3 := HS8.out; have h4 := HW10.out.size; omega))
          have HSWL : Hid ((swF L n d m e0).length ≤ 1000) := Lib.hid (by
            have h1 := swF_len L n d m e0
            have h2 := HL12.out
            have h3 : L.length * L.length ≤ 12 * 12 := Nat.mul_le_mul h2 h2
            omega)
          generalize swF L n d m e0 = W8 at *
          go_wp2_with fail
          refine (HRS.out).mono ?_
          rintro e w11 ⟨r11, rfl, hO11, hw11⟩
          obtain ⟨a11, c11, rfl⟩ := own_shape hO11
          have HW11 := Lib.hid (HW10.out.ext hw11)
          have HSM := Lib.hid (same_true W8 w11 _ _ (.slice a8 W8.length c8) (.slice a11 W8.length c11) (by have := HSWL.out; omega) (SwR.own rfl (own_kept HO8.out HW11.out (fun _ _ h => h))) (SwR.own rfl hO11))
          clear hO11 hw11 y1 y2 n0 n1 HRS
          go_wp2_with fail
          refine (HSM.out).mono ?_
          rintro e w12 ⟨rfl, hw12⟩
          have HW12 := Lib.hid (HW11.out.ext hw12)
          clear hw12 HSM
          have y1 := cellRow (HW12.out.heap HYB8.out (fun h => h)) 1 (.int .i64 m) rfl
          have y2 := cellRow (HW12.out.heap HYB8.out (fun h => h)) 2 (.int .i64 e0) rfl
          have hnn := HW12.out.heap HNB8.out (fun h => h)
          have HNN := Lib.hid hnn
          have n0 := cellRow hnn 0 (.int .i64 n) rfl
          have n1 := cellRow hnn 1 (.int .i64 d) rfl
          have m0 := frozenRow hnn 0
          have m1 := frozenRow hnn 1
          clear hnn
          go_wp2_with fail
          have hU : Upd (fun k => k = nb) w12 ((w12.setCell ⟨nb, 0, none⟩ (.int .i64 m)).setCell ⟨nb, 1, none⟩ (.int .i64 e0)) := ((Upd.refl (fun k => k = nb) w12).setCell (p := ⟨nb, 0, none⟩) (.inl rfl) _).setCell (p := ⟨nb, 1, none⟩) (.inl rfl) _
          have HU := Lib.hid hU
          have HNB9 := Lib.hid (setBlock (setBlock HNN.out 0 (.int .i64 m)) 1 (.int .i64 e0))
          clear hU y1 y2 n0 n1 m0 m1
          have hs8 := HS8.out
          have hsy := HWY.out.size
          have hs12 := HW12.out.size
          have hsu := HU.out.size
          have hnb := HNS.out
          have hF := HF.out
          have hkb := (Array.getElem?_eq_some_iff.1 HLI.out.cell).1
          go_roundg (c.length - (i + 1))
          case measure => omega
          case rel => 
            refine ⟨i + 1, L, m, e0, ov8, S', by go_num, rfl, by omega, Lib.hid ((HE8.out.ext HW12.out).trans' HU.out ?_), Lib.hid ((HL8.out.1.ext HW12.out).kept HU.out ?_ ?_ ?_), HL12, Lib.hid (SlR.kept (HM8.out.ext HW12.out) HU.out ?_), Lib.hid ?_, HNB9, Lib.hid ?_⟩
            · intro j hj h
              omega
            · omega
            · intro g hg h
              have := (hF.2.1 g hg).2
              omega
            · intro g hg h
              have := HL8.out.2 g hg
              omega
            · intro k hk h
              exact (HSL.out k hk).2.1 h
            · intro k hk
              have h3 := HSL.out k hk
              exact ⟨by omega, h3.2⟩
            · intro g hg
              have := HL8.out.2 g hg
              omega

end Go.Proofs.Ytncnojhbdkhcjaa

/- Calls, times as they come in. -/
namespace Go.Proofs.Ytncnojhbdkhcjaa
open Go.RowKit Go.Hw Go
set_option linter.unusedVariables false
set_option linter.unusedSimpArgs false

set_option maxRecDepth 100000
open Go.ChangeShapes Go.WideShapes Go.Deep Go.Joins Go.ChangeAt
theorem cells62 : Try.prog.cellsOf 62 = 5 := by kernel_rfl
theorem cells4 : Try.prog.cellsOf 4 = 1 := by kernel_rfl
section
variable {H : Type} {enc : TypeId × Value → H} {W : World}
def I64 (x : Int) : Prop := -9223372036854775808 ≤ x ∧ x ≤ 9223372036854775807
def cC (c : Cl) : List Value := [.bool c.1, .int .i64 c.2.1, .int .i64 c.2.2.1, .int .i64 c.2.2.2.1, .int .i64 c.2.2.2.2]
theorem cCells_get (l : List Cl) : ∀ q r, q < l.length → r < 5 → (cCells l)[q * 5 + r]? = (cC (cg l q))[r]? := by
  intro q r hq hr
  obtain ⟨h0, h1, h2, h3, h4⟩ := cCells_at l q hq
  match r, hr with
  | 0, _ => exact h0
  | 1, _ => exact h1
  | 2, _ => exact h2
  | 3, _ => exact h3
  | 4, _ => exact h4
theorem call_of {held : Bool} {fuel : Nat} {cs : List Value} {y : DataW H × List MemPlace} (h : DataW.trod enc Try.prog W 0 (fun _ => true) held fuel 62 cs = some y) :
    ∃ c : Cl, cs = cC c ∧ I64 c.2.1 ∧ I64 c.2.2.1 := by
  obtain ⟨xs, n, _, hx, hcl, hxl, hf⟩ := DataW.trod_struct Try.underlying62 h
  rw [cells62] at hcl
  match cs, hcl, xs, hxl with
  | [v0, v1, v2, v3, v4], _, [y0, y1, y2, y3], _ =>
    have g0 := hf 0 _ rfl
    have g1 := hf 1 _ rfl
    have g2 := hf 2 _ rfl
    have g3 := hf 3 _ rfl
    simp [cells4, cells25, cells3] at g0 g1 g2 g3
    obtain ⟨b, e0, _⟩ := DataW.trod_bool Try.underlying4 g0
    obtain ⟨ys, k, _, _, _, hyl, hg⟩ := DataW.trod_struct Try.underlying25 g1
    match ys, hyl with
    | [u0, u1], _ =>
      have k0 := hg 0 _ rfl
      have k1 := hg 1 _ rfl
      simp [cells3] at k0 k1
      obtain ⟨x1, e1, _, w1⟩ := DataW.trod_int Try.underlying3 k0
      obtain ⟨x2, e2, _, w2⟩ := DataW.trod_int Try.underlying3 k1
      obtain ⟨x3, e3, _, w3⟩ := DataW.trod_int Try.underlying3 g2
      obtain ⟨x4, e4, _, w4⟩ := DataW.trod_int Try.underlying3 g3
      simp only [List.cons.injEq, and_true] at e0 e1 e2 e3 e4
      subst e0; subst e1; subst e2; subst e3; subst e4
      exact ⟨(b, x1, x2, x3, x4), rfl, bounds_i64 w1, bounds_i64 w2⟩
theorem open_calls {v : Value} {d : DataW H} {ps : List MemPlace} (h : DataW.Trod enc Try.prog W 0 (fun _ => true) true 44 v d ps) (hs : ∃ a len cap, v = .slice a len cap) : ∃ l : List Cl, CallR (fun k => k < W.heap.size) W v l ∧ l.length ≤ maxLen ∧ ∀ x ∈ l, I64 x.2.1 ∧ I64 x.2.2.1 := by
  obtain ⟨a0, len, cap, rfl⟩ := hs
  obtain ⟨fuel, hf⟩ := h
  rcases open_slice Try.underlying44 hf with ⟨hcs, hx⟩ | ⟨a, len', cap', m, n, D, Pl, hcs, _, hl, hm, hmm, hx, hall⟩
  · simp [Value.cells] at hcs
    obtain ⟨rfl, rfl, rfl⟩ := hcs
    exact ⟨[], SlR.nil _ _ _, by simp, by simp⟩
  · simp [Value.cells] at hcs
    obtain ⟨rfl, rfl, rfl⟩ := hcs
    simp only [if_true] at hmm
    subst hmm
    have hA : ∀ i, ∃ f : Cl, i < len → (∃ cs', W.cells? 0 (a.add (i * 5)) 5 = some cs' ∧ cs' = cC f) ∧ I64 f.2.1 ∧ I64 f.2.2.1 := fun i => by
      by_cases hi : i < len
      · obtain ⟨cs', h1, h2⟩ := hall i (by omega)
        rw [cells62] at h1
        obtain ⟨f, hf, hr⟩ := call_of h2
        exact ⟨f, fun _ => ⟨⟨cs', h1, hf⟩, hr⟩⟩
      · exact ⟨(false, 0, 0, 0, 0), fun h => absurd h hi⟩
    obtain ⟨A, hA3⟩ := Classical.axiomOfChoice hA
    have hlen : ((List.range len).map A).length = len := by simp
    have hu : ∀ i, i < len → ∃ u, W.cell? ((a.add (i * 5)).add 0) = some u := fun i hi => by
      obtain ⟨⟨cs', h1, _⟩, _⟩ := hA3 i hi
      have h2 := (World.cells?_some h1).2.2 0 (by omega)
      have hl5 := (World.cells?_some h1).2.1
      exact ⟨cs'[0]'(by omega), by rw [h2]; simp [hl5]⟩
    have hsp : 0 < len → a.spot = none := fun h0 => by
      obtain ⟨u, hu⟩ := hu 0 h0
      have := World.cell?_spot hu
      simpa [Addr.add] using this
    refine ⟨(List.range len).map A, ?_, by rw [hlen]; omega, fun p hp => ?_⟩
    · unfold CallR
      rw [hlen]
      refine ⟨by rw [cCells_len, hlen], .inr ⟨a, m, rfl, hl, fun h0 => ⟨hsp h0, ?_⟩, fun j hj => ?_⟩⟩
      · obtain ⟨u, hu⟩ := hu 0 h0
        have := World.block_lt_of_cell? W _ hu
        simpa [Addr.add] using this
      · obtain ⟨q, r, hq, hr⟩ : ∃ q r, j = q * 5 + r ∧ r < 5 := ⟨j / 5, j % 5, by omega, by omega⟩
        subst hq
        have hqn : q < len := by omega
        obtain ⟨⟨cs', h1, hc⟩, _⟩ := hA3 q hqn
        have h2 := (World.cells?_some h1).2.2 r hr
        rw [cCells_get _ q r (by rw [hlen]; exact hqn) hr]
        have e : cg ((List.range len).map A) q = A q := by unfold cg; simp [hqn]
        rw [e, ← hc, ← h2]
        have h4 := hsp (by omega)
        obtain ⟨ab, ao, asp⟩ := a
        simp only at h4
        subst h4
        rw [add_plain, add_plain, Nat.add_assoc]
    · simp only [List.mem_map, List.mem_range] at hp
      obtain ⟨i, hi, rfl⟩ := hp
      exact (hA3 i hi).2
theorem open_fracs {v : Value} {d : DataW H} {ps : List MemPlace} (h : DataW.Trod enc Try.prog W 0 (fun _ => true) true 73 v d ps) (hs : ∃ a len cap, v = .slice a len cap) : ∃ l : List Mo, MoR (fun k => k < W.heap.size) W v l ∧ l.length ≤ maxLen ∧ ∀ i, i < l.length → (-9223372036854775808 ≤ (mg l i).1 ∧ (mg l i).1 ≤ 9223372036854775807) ∧ (-9223372036854775808 ≤ (mg l i).2 ∧ (mg l i).2 ≤ 9223372036854775807) :=
  open_twos Try.underlying73 Try.underlying25 cells25 rfl rfl rfl rfl h hs
end

end Go.Proofs.Ytncnojhbdkhcjaa
