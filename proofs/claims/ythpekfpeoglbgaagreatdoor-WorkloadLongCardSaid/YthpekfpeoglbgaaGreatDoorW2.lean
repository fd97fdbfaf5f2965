/- Searches by a predicate. -/
import Derived.Test.YthpekfpeoglbgaaGreatDoorW1
namespace Go.Proofs.YthpekfpeoglbgaaGreatDoor
open Go.RowKit Go.Hw
set_option linter.unusedVariables false
set_option linter.unusedSimpArgs false

set_option maxHeartbeats 400000 in
theorem clo59_any (x : Int) (w : World) : Calls Tryz.prog 64 #[.int .i64 x] w fun e w' => e = .returned (.bool (!chrB x)) ∧ w = w' := by
  by_cases h1 : 0 ≤ x <;> by_cases h2 : x ≤ 255
  all_goals
    go_enter Tryz.func64, Tryz.ntmps64
    go_wp2
    go_ret
    exact ⟨by simp [chrB, h1, h2], rfl⟩
set_option maxHeartbeats 400000 in
theorem clo61_any (x : Int) (w : World) : Calls Tryz.prog 66 #[.int .i64 x] w fun e w' => e = .returned (.bool (!keyB x)) ∧ w = w' := by
  by_cases h1 : -1048576 ≤ x <;> by_cases h2 : x ≤ 1048576
  all_goals
    go_enter Tryz.func66, Tryz.ntmps66
    go_wp2
    go_ret
    exact ⟨by simp [keyB, h1, h2], rfl⟩

/-- the first place of an element with p; -1 -/
def idxP (p : Int → Bool) : List Int → Int
  | [] => -1
  | x :: r => if p x then 0 else if idxP p r < 0 then -1 else idxP p r + 1
theorem idxP_any (p : Int → Bool) (l : List Int) : decide (0 ≤ idxP p l) = l.any p ∧ -1 ≤ idxP p l := by
  induction l with
  | nil => simp [idxP]
  | cons x r ih =>
    obtain ⟨h1, h2⟩ := ih
    unfold idxP
    cases hx : p x with
    | true => simp [hx]
    | false =>
      simp only [List.any_cons, hx, Bool.false_or, ← h1]
      by_cases h : idxP p r < 0
      · simp [h]
      · simp [h]; omega
theorem idxP_step (p : Int → Bool) (l : List Int) (k : Nat) (h : ∀ j, j < k → p (l.getD j 0) = false) (hk : k < l.length) (hp : p (l.getD k 0) = true) : idxP p l = k := by
  induction l generalizing k with
  | nil => simp at hk
  | cons x r ih =>
    unfold idxP
    cases k with
    | zero => simp at hp; simp [hp]
    | succ k =>
      have h0 := h 0 (by omega)
      simp at h0
      have := ih k (fun j hj => by have := h (j + 1) (by omega); simpa using this) (by simpa using hk) (by simpa using hp)
      simp [h0, this]; omega
theorem idxP_none (p : Int → Bool) (l : List Int) (h : ∀ j, j < l.length → p (l.getD j 0) = false) : idxP p l = -1 := by
  induction l with
  | nil => rfl
  | cons x r ih =>
    have h0 := h 0 (by simp)
    simp at h0
    have := ih (fun j hj => by have := h (j + 1) (by simpa using hj); simpa using this)
    unfold idxP
    simp [h0, this]

set_option maxHeartbeats 1000000 in
theorem idx_int (k : FuncId) (p : Int → Bool) (S : Nat → Prop) (v : Value) (l : List Int) (w : World) (h : NumR S w v l) (hl : l.length ≤ 100000000)
    (hen : ∀ args W, Sem.run Tryz.prog (callFunc k args) W = .ok (.enter k args) W)
    (hp : ∀ x ∈ l, ∀ W, Ext w W → Calls Tryz.prog k #[.int .i64 x] W fun e w' => e = .returned (.bool (p x)) ∧ Ext W w') :
    Calls Tryz.prog 81 #[v, .func (.func k) #[] #[]] w fun e w' => e = .returned (.int .i64 (idxP p l)) ∧ Ext w w' := by
  obtain ⟨a, cap, hv⟩ := h.shape
  subst hv
  have HN := Lib.hid h
  have HP := Lib.hid hp
  obtain ⟨R, hR⟩ : ∃ R, R = idxP p l := ⟨_, rfl⟩
  rw [← hR]
  have HR := Lib.hid hR
  clear h hp hR
  go_enter Tryz.func81, Tryz.ntmps81
  go_wp2_with fail
  go_loopg [5, 8] l.length (fun gk s5 i wr => ∃ j : Nat, i = .int .i64 j ∧ gk = l.length - j ∧ j ≤ l.length ∧ Hid (∀ i, i < j → p (l.getD i 0) = false) ∧ Hid (Ext w wr))
  case atStart => exact ⟨0, rfl, rfl, Nat.zero_le _, fun i h => absurd h (Nat.not_lt_zero _), Upd.refl _ _⟩
  case round =>
    obtain ⟨j, rfl, rfl, hj, Hj, HE⟩ := hrel
    by_cases hlt : j < l.length
    · obtain ⟨g, off, cap', hv, hc, hg, hc'⟩ := (HN.out.kept HE.out (fun _ _ h => h)).pos (by omega)
      injection hv with e1 e2 e3
      subst e1; subst e3
      have hcel : wr.cell? ⟨g, off + j, none⟩ = some (.int .i64 (l.getD j 0)) := by rw [← nums_get l j hlt]; exact hc' j (by omega)
      have HC := Lib.hid (HP.out _ (getD_mem0 hlt) wr HE.out)
      have i0' : (0 : Int) ≤ (j : Int) := by omega
      have i1' : (j : Int) < (l.length : Int) := by omega
      have Hs := Lib.hid (idxP_step p l j Hj.out hlt)
      clear hc' hg e2 hc
      have HJ : Hid (p (l.getD j 0) = false → ∀ i, i < j + 1 → p (l.getD i 0) = false) := fun h i hi => by
        by_cases e : i = j
        · subst e; exact h
        · exact Hj.out i (by omega)
      have hsz := HE.out.size
      cases hpx : p (l.getD j 0) with
      | true =>
        rw [hpx] at HC
        obtain rfl : R = j := HR.out.trans (Hs.out hpx)
        have HPX := Lib.hid hpx
        clear hpx HR Hs
        generalize l.getD j 0 = X at *
        go_wp2_with fail
        refine HC.out.mono ?_
        rintro e w2 ⟨rfl, h2⟩
        have H2 := Lib.hid (HE.out.ext h2)
        clear h2
        go_wp2_with fail
        go_ret
        exact ⟨rfl, H2.out⟩
      | false =>
        rw [hpx] at HC
        have HJ2 := Lib.hid (HJ.out hpx)
        clear hpx Hs HJ
        generalize l.getD j 0 = X at *
        go_wp2_with fail
        refine HC.out.mono ?_
        rintro e w2 ⟨rfl, h2⟩
        have H2 := Lib.hid (HE.out.ext h2)
        clear h2
        go_wp2_with fail
        go_roundg (l.length - (j + 1))
        case measure => omega
        case rel => exact ⟨j + 1, by go_num, rfl, by omega, HJ2, H2⟩
    · obtain rfl : R = -1 := HR.out.trans (idxP_none p l (fun i hi => Hj.out i (by omega)))
      clear HR
      go_wp2_with fail
      go_ret
      exact ⟨rfl, HE.out⟩

theorem con_int (k : FuncId) (p : Int → Bool) (S : Nat → Prop) (v : Value) (l : List Int) (w : World) (h : NumR S w v l) (hl : l.length ≤ 100000000)
    (hen : ∀ args W, Sem.run Tryz.prog (callFunc k args) W = .ok (.enter k args) W)
    (hp : ∀ x ∈ l, ∀ W, Ext w W → Calls Tryz.prog k #[.int .i64 x] W fun e w' => e = .returned (.bool (p x)) ∧ Ext W w') :
    Calls Tryz.prog 63 #[v, .func (.func k) #[] #[]] w fun e w' => e = .returned (.bool (l.any p)) ∧ Ext w w' := by
  have C := idx_int k p S v l w h hl hen hp
  have hb := idxP_any p l
  rw [← hb.1]
  replace hb := hb.2
  generalize idxP p l = r at *
  obtain ⟨a, cap, hv⟩ := h.shape
  subst hv
  have HC := Lib.hid C
  clear C h hp
  go_enter Tryz.func63, Tryz.ntmps63
  go_wp2_with fail
  refine HC.out.mono ?_
  rintro e w2 ⟨rfl, h2⟩
  have H2 := Lib.hid h2
  clear h2
  go_wp2_with fail
  go_ret
  exact ⟨rfl, H2.out⟩

end Go.Proofs.YthpekfpeoglbgaaGreatDoor
