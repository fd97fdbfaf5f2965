/- Roots. -/
import Derived.Test.YtlipjgpfhmkdhaaDoorR10
namespace Go.Proofs.YtlipjgpfhmkdhaaDoor
open Go.RowKit Go.Hw
set_option linter.unusedVariables false
set_option linter.unusedSimpArgs false

theorem sq_uniq {r s n : Nat} (h1 : r * r ≤ n) (h2 : n < (r + 1) * (r + 1)) (h3 : s * s ≤ n) (h4 : n < (s + 1) * (s + 1)) : r = s := by
  rcases Nat.lt_trichotomy r s with h | h | h
  · have := Nat.mul_le_mul (show r + 1 ≤ s from h) (show r + 1 ≤ s from h); omega
  · exact h
  · have := Nat.mul_le_mul (show s + 1 ≤ r from h) (show s + 1 ≤ r from h); omega
theorem sq_bd {c : Nat} (h : c ≤ 2097152) : c * c ≤ 4398046511104 := Nat.mul_le_mul h h

set_option maxRecDepth 100000 in
set_option maxHeartbeats 1000000 in
theorem root_ok (n : Nat) (w : World) (h2 : n ≤ 1099511627776) : Calls Tryd.prog 32 #[.int .i64 n] w fun e w' => ∃ r : Nat, e = .returned (.tuple #[.int .i64 r, .int .i64 0]) ∧ w = w' ∧ r * r ≤ n ∧ n < (r + 1) * (r + 1) := by
  have t1 : decide ((n : Int) < 0) = false := decide_eq_false (by omega)
  have t2 : decide (1099511627776 < (n : Int)) = false := decide_eq_false (by omega)
  go_enter Tryd.func32, Tryd.ntmps32
  go_wp2_with fail
  go_loopg [4, 5] 2097152 (fun gk lv hv wr => ∃ a b : Nat, lv = .int .i64 a ∧ hv = .int .i64 b ∧ gk = b - a ∧ a < b ∧ b ≤ 2097152 ∧ wr = w ∧ Hid (a * a ≤ n ∧ n < b * b))
  case atStart => exact ⟨0, 2097152, rfl, rfl, rfl, by omega, by omega, rfl, by omega, by omega⟩
  case round =>
    obtain ⟨a, b, rfl, rfl, rfl, hab, hb, rfl, HK⟩ := hrel
    by_cases h : 1 < b - a
    · have t3 : decide (1 < (b : Int) - (a : Int)) = true := decide_eq_true (by omega)
      obtain ⟨c, hc⟩ : ∃ c : Nat, (a + b) / 2 = c := ⟨_, rfl⟩
      have e1 : ((a : Int) + (b : Int)) / 2 = (c : Int) := by omega
      have e2 : Int.tdiv ((a : Int) + (b : Int)) 2 = (c : Int) := by rw [Int.tdiv_eq_ediv_of_nonneg (by omega)]; exact e1
      obtain ⟨P, hP⟩ : ∃ P : Nat, c * c = P := ⟨_, rfl⟩
      have e3 : (c : Int) * (c : Int) = (P : Int) := by rw [← hP]; simp
      have hP2 : P ≤ 4398046511104 := by rw [← hP]; exact sq_bd (by omega)
      have HP := Lib.hid hP
      have hc1 : a < c := by omega
      have hc2 : c < b := by omega
      clear hP hc e1
      by_cases hp : P ≤ n
      · have t4 : decide ((P : Int) ≤ (n : Int)) = true := decide_eq_true (by omega)
        have t5 : decide (P ≤ n) = true := decide_eq_true hp
        go_wp2_with fail
        go_roundg (b - c)
        case measure => omega
        case rel => exact ⟨c, b, rfl, rfl, rfl, hc2, hb, rfl, by rw [HP.out]; exact hp, HK.out.2⟩
      · have t4 : decide ((P : Int) ≤ (n : Int)) = false := decide_eq_false (by omega)
        have t5 : decide (P ≤ n) = false := decide_eq_false hp
        go_wp2_with fail
        go_roundg (c - a)
        case measure => omega
        case rel => exact ⟨a, c, rfl, rfl, rfl, hc1, by omega, rfl, HK.out.1, by rw [HP.out]; omega⟩
    · have t3 : decide (1 < (b : Int) - (a : Int)) = false := decide_eq_false (by omega)
      obtain rfl : b = a + 1 := by omega
      go_wp2_with fail
      go_ret2
      exact ⟨a, rfl, rfl, HK.out.1, HK.out.2⟩
set_option maxRecDepth 100000 in
set_option maxHeartbeats 1000000 in
theorem rroot_ok (n : Nat) (w : World) (h2 : n ≤ 1099511627776) : Calls Tryd.prog 33 #[.int .i64 n] w fun e w' => ∃ r : Nat, e = .returned (.tuple #[.int .i64 r, .int .i64 0]) ∧ w = w' ∧ r * r ≤ n ∧ n < (r + 1) * (r + 1) := by
  have t1 : decide ((n : Int) < 0) = false := decide_eq_false (by omega)
  have t2 : decide (1099511627776 < (n : Int)) = false := decide_eq_false (by omega)
  go_enter Tryd.func33, Tryd.ntmps33
  go_wp2_with fail
  go_loopg [4, 5] 1048576 (fun gk kv bv wr => ∃ k b : Nat, kv = .int .i64 k ∧ bv = .int .i64 b ∧ b = gk ∧ k + b ≤ 2097152 ∧ wr = w ∧ Hid (∃ c, k * k ≤ n ∧ n < (k + c) * (k + c) ∧ k + c ≤ 2097152 ∧ (c = 1 ∧ b = 0 ∨ c = 2 * b ∧ ∃ j, b = 2 ^ j)))
  case atStart => exact ⟨0, 1048576, rfl, rfl, rfl, by omega, rfl, 2097152, by omega, by omega, by omega, .inr ⟨by omega, 20, by decide⟩⟩
  case round =>
    obtain ⟨k, b, rfl, rfl, hgk, hkb, rfl, HK⟩ := hrel
    subst hgk
    by_cases h : 0 < b
    · have t3 : decide (0 < (b : Int)) = true := decide_eq_true (by omega)
      have t3' : decide (0 < b) = true := decide_eq_true h
      obtain ⟨c, c1, c2, c3, c4⟩ := HK.out
      have c4 : c = 2 * b ∧ ∃ j, b = 2 ^ j := by
        rcases c4 with ⟨_, h0⟩ | h4
        · omega
        · exact h4
      obtain ⟨rfl, j, hj⟩ := c4
      obtain ⟨b2, hb2⟩ : ∃ b2 : Nat, b / 2 = b2 := ⟨_, rfl⟩
      have e1 : (b : Int) / 2 = (b2 : Int) := by omega
      have e2 : Int.tdiv (b : Int) 2 = (b2 : Int) := by rw [Int.tdiv_eq_ediv_of_nonneg (by omega)]; exact e1
      have hj2 : b = 1 ∧ b2 = 0 ∨ b = 2 * b2 ∧ ∃ j, b2 = 2 ^ j := by
        cases j with
        | zero => left; rw [Nat.pow_zero] at hj; omega
        | succ j => right; rw [Nat.pow_succ] at hj; exact ⟨by omega, j, by omega⟩
      obtain ⟨P, hP⟩ : ∃ P : Nat, (k + b) * (k + b) = P := ⟨_, rfl⟩
      have e3 : ((k : Int) + (b : Int)) * ((k : Int) + (b : Int)) = (P : Int) := by rw [← hP]; simp
      have hP2 : P ≤ 4398046511104 := by rw [← hP]; exact sq_bd (by omega)
      have HP := Lib.hid (And.intro hP (And.intro c1 (And.intro c2 hj2)))
      have hb3 : b2 < b := by omega
      clear hP hj hb2 e1 HK hj2 c1 c2
      by_cases hp : P ≤ n
      · have t4 : decide ((P : Int) ≤ (n : Int)) = true := decide_eq_true (by omega)
        have t5 : decide (P ≤ n) = true := decide_eq_true hp
        go_wp2_with fail
        go_roundg b2
        case measure => exact hb3
        case rel => exact ⟨k + b, b2, by go_num, rfl, rfl, by omega, rfl, b, by rw [HP.out.1]; exact hp, by rw [show k + b + b = k + 2 * b by omega]; exact HP.out.2.2.1, by omega, HP.out.2.2.2⟩
      · have t4 : decide ((P : Int) ≤ (n : Int)) = false := decide_eq_false (by omega)
        have t5 : decide (P ≤ n) = false := decide_eq_false hp
        go_wp2_with fail
        go_roundg b2
        case measure => exact hb3
        case rel => exact ⟨k, b2, rfl, rfl, rfl, by omega, rfl, b, HP.out.2.1, by rw [HP.out.1]; omega, by omega, HP.out.2.2.2⟩
    · obtain rfl : b = 0 := by omega
      have t3 : decide (0 < ((0 : Nat) : Int)) = false := rfl
      obtain ⟨c, c1, c2, c3, c4⟩ := HK.out
      have c4 : c = 1 := by
        rcases c4 with ⟨h0, _⟩ | ⟨_, j, hj⟩
        · exact h0
        · have := Nat.pow_pos (n := j) (show 0 < 2 by decide); omega
      subst c4
      clear HK
      go_wp2_with fail
      go_ret2
      exact ⟨k, rfl, rfl, c1, c2⟩

end Go.Proofs.YtlipjgpfhmkdhaaDoor
