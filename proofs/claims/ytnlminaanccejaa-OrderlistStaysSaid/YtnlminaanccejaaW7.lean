/- The walks of the reference. -/
import Derived.Test.YtnlminaanccejaaA
namespace Go.Proofs.Ytnlminaanccejaa
open Go.RowKit Go.Hw
set_option linter.unusedVariables false
set_option linter.unusedSimpArgs false

theorem ints_length (l : List Nat) : (ints l).length = l.length := by simp [ints]
theorem ints_get (l : List Nat) (j : Nat) (h : j < l.length) : (ints l)[j]? = some (.int .i64 (l.getD j 0 : Nat)) := by simp [ints, h]
theorem ints_append (a b : List Nat) : ints (a ++ b) = ints a ++ ints b := by simp [ints]
theorem ints_take (a : List Nat) (k : Nat) : ints (a.take k) = (ints a).take k := by simp [ints, List.map_take]
theorem ints_drop (a : List Nat) (k : Nat) : ints (a.drop k) = (ints a).drop k := by simp [ints, List.map_drop]
theorem ints_one (l : List Nat) : ∀ u ∈ ints l, u.oneCell' = true := by
  intro u hu; simp [ints] at hu; obtain ⟨a, _, rfl⟩ := hu; rfl

def posFrom : List Nat → Int → Nat → Int
  | [], _, _ => -1
  | a :: r, x, i => if (a : Int) = x then i else posFrom r x (i + 1)
def pos (xs : List Nat) (x : Int) : Int := posFrom xs x 0

theorem posFrom_bd (xs : List Nat) (x : Int) (i : Nat) : posFrom xs x i = -1 ∨ ((i : Int) ≤ posFrom xs x i ∧ posFrom xs x i < i + xs.length) := by
  induction xs generalizing i with
  | nil => left; rfl
  | cons a r ih =>
    unfold posFrom
    split
    · right; simp; omega
    · rcases ih (i + 1) with h | h
      · exact .inl h
      · right; simp; omega
theorem pos_bd (xs : List Nat) (x : Int) : pos xs x = -1 ∨ (0 ≤ pos xs x ∧ pos xs x < xs.length) := by
  have := posFrom_bd xs x 0; simpa [pos] using this

/-- a list of the reference in memory -/
def LsR (S : Nat → Prop) (w : World) (sl : Value) (xs : List Nat) : Prop := SlR S w 1 sl xs.length (ints xs)

set_option maxHeartbeats 400000 in
theorem at_any (S : Nat → Prop) (sl : Value) (xs : List Nat) (made x : Int) (w : World) (h : LsR S w sl xs) (hS : ∀ k, S k → k < w.heap.size) (hl : xs.length ≤ 4000) :
    Calls Try.prog 13 #[.agg #[sl, .int .i64 made], .int .i64 x] w fun e w' => e = .returned (.int .i64 (pos xs x)) ∧ Ext w w' := by
  obtain ⟨R, hR⟩ : ∃ R, R = pos xs x := ⟨_, rfl⟩
  rw [← hR]
  by_cases h0 : xs.length = 0
  · obtain ⟨a, cap, hv⟩ := h.shape
    have hx : xs = [] := List.eq_nil_of_length_eq_zero h0
    have hr : R = -1 := by rw [hR, hx]; rfl
    subst hv; subst hr; subst hx
    clear hR h hl h0
    simp only [List.length_nil]
    go_enter Try.func13, Try.ntmps13
    go_wp2_with fail
    go_loop [5] (fun i => i = .int .i64 0) (fun _ => 0)
    case atStart => rfl
    case round =>
      subst hrel
      go_wp2_with fail
      go_ret
      exact ⟨rfl, (Upd.refl _ _).alloc _⟩
  · obtain ⟨g, off, cap, hv, hc, hg, hj⟩ := h.pos (by omega)
    have hgs := hS g hg
    subst hv
    have hxs : Hid (posFrom (xs.drop 0) x 0 = R) := by rw [hR]; rfl
    have hcell : ∀ k, k < xs.length → (w.alloc (.cells #[.slice (some ⟨g, off, none⟩) xs.length cap, .int .i64 made] 27)).cell? ⟨g, off + k, none⟩ = some (.int .i64 (xs.getD k 0 : Nat)) := by
      intro k hk
      rw [← ints_get xs k hk, ← hj k (by omega)]
      exact World.cell?_of_block (w := w) (Below.heap_alloc _ _ _ hgs)
    have Hcell := Lib.hid hcell
    clear hR h hj hS hg hcell
    go_enter Try.func13, Try.ntmps13
    go_wp2_with fail
    go_loop [5] (fun i => ∃ k : Nat, i = .int .i64 k ∧ k ≤ xs.length ∧ Hid (posFrom (xs.drop k) x k = R)) (fun i => xs.length - (intOf i).toNat)
    case atStart => exact ⟨0, rfl, Nat.zero_le _, hxs⟩
    case round =>
      obtain ⟨k, rfl, hk, Hk⟩ := hrel
      by_cases hlt : k < xs.length
      · have hc1 := Hcell.out k hlt
        have hk' : Hid (posFrom (xs.drop (k + 1)) x (k + 1) = R ∨ ((xs.getD k 0 : Nat) : Int) = x ∧ R = k) := by
          have h1 := Hk.out
          rw [List.drop_eq_getElem_cons hlt] at h1
          unfold posFrom at h1
          have e : xs.getD k 0 = xs[k] := by simp [hlt]
          rw [e]
          split at h1
          · rename_i h2; exact .inr ⟨h2, h1.symm⟩
          · exact .inl h1
        have hk2 : Hid (((xs.getD k 0 : Nat) : Int) = x → R = k) := by
          intro h2
          have h1 := Hk.out
          rw [List.drop_eq_getElem_cons hlt] at h1
          have e : xs.getD k 0 = xs[k] := by simp [hlt]
          rw [e] at h2
          unfold posFrom at h1
          rw [if_pos h2] at h1
          exact h1.symm
        generalize xs.getD k 0 = X at *
        clear Hk
        by_cases hX : (X : Int) = x
        · have t1 : ((X : Int) == x) = true := by simpa using hX
          have hRk : R = k := hk2.out hX
          subst hRk
          clear hX
          go_wp2_with fail
          go_ret
          exact ⟨rfl, (Upd.refl _ _).alloc _⟩
        · have t1 : ((X : Int) == x) = false := by simpa using hX
          have hk3 : Hid (posFrom (xs.drop (k + 1)) x (k + 1) = R) := by
            rcases hk'.out with h | h
            · exact h
            · exact absurd h.1 hX
          clear hX hk' hk2
          go_wp2_with fail
          go_round
          case rel => exact ⟨k + 1, by go_num, by omega, hk3⟩
          case measure => simp [intOf]; omega
      · have he : k = xs.length := by omega
        have hr : R = -1 := by
          have := Hk.out
          rw [List.drop_eq_nil_of_le (by omega)] at this
          exact this.symm
        subst hr
        clear Hk
        go_wp2_with fail
        go_ret
        exact ⟨rfl, (Upd.refl _ _).alloc _⟩

end Go.Proofs.Ytnlminaanccejaa
