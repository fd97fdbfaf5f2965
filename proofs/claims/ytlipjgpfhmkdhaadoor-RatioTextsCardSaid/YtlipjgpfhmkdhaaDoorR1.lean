/- Sizes and divisors. -/
import Derived.Test.YtlipjgpfhmkdhaaDoorRows
import Derived.Test.YtlipjgpfhmkdhaaDoorL4
import Derived.Deep.QuietTactic
import Derived.BigQuiet
namespace Go.Proofs.YtlipjgpfhmkdhaaDoor
open Go.RowKit Go.Hw
set_option linter.unusedVariables false
set_option linter.unusedSimpArgs false

theorem wrap_u64' (n : Int) : IntKind.u64.wrap n = n % 18446744073709551616 := by simp [IntKind.wrap, IntKind.bits, IntKind.signed]
set_option maxRecDepth 100000 in
set_option maxHeartbeats 400000 in
theorem size_any (n : Int) (w : World) (h0 : -9223372036854775808 ≤ n) (h1 : n ≤ 9223372036854775807) : Calls Tryd.prog 42 #[.int .i64 n] w fun e w' => e = .returned (.int .u64 n.natAbs) ∧ w = w' := by
  by_cases hn : n < 0
  · have t1 : decide (n < 0) = true := decide_eq_true hn
    have e1 : IntKind.u64.wrap n = n + 18446744073709551616 := by rw [wrap_u64']; omega
    have e2 : IntKind.u64.wrap (-(n + 18446744073709551616)) = (n.natAbs : Int) := by rw [wrap_u64']; omega
    go_enter Tryd.func42, Tryd.ntmps42
    go_wp2_with fail
    go_ret
    exact ⟨rfl, rfl⟩
  · have t1 : decide (n < 0) = false := decide_eq_false hn
    have e1 : IntKind.u64.wrap n = (n.natAbs : Int) := by rw [wrap_u64']; omega
    go_enter Tryd.func42, Tryd.ntmps42
    go_wp2_with fail
    go_ret
    exact ⟨rfl, rfl⟩
set_option maxRecDepth 100000 in
set_option maxHeartbeats 400000 in
theorem gcd_any (a b : Nat) (w : World) (h0 : a ≤ 9223372036854775808) (h1 : b ≤ 9223372036854775808) : Calls Tryd.prog 43 #[.int .u64 a, .int .u64 b] w fun e w' => e = .returned (.int .u64 (Nat.gcd a b : Nat)) ∧ ∃ k, w' = w.drewN k := by
  obtain ⟨G, hG⟩ : ∃ G, G = Nat.gcd a b := ⟨_, rfl⟩
  rw [← hG]
  have HG := Lib.hid hG
  clear hG
  go_enter Tryd.func43, Tryd.ntmps43
  go_wp2_with fail
  go_loopg [0, 1] b (fun gk av bv wr => ∃ x y k : Nat, av = .int .u64 x ∧ bv = .int .u64 y ∧ y = gk ∧ x ≤ 9223372036854775808 ∧ y ≤ 9223372036854775808 ∧ wr = w.drewN k ∧ Hid (G = Nat.gcd x y))
  case atStart => exact ⟨a, b, 0, rfl, rfl, rfl, h0, h1, rfl, HG.out⟩
  case round =>
    obtain ⟨x, y, k, rfl, rfl, rfl, hx, hy, rfl, Hg⟩ := hrel
    by_cases h : y = 0
    · subst h
      have hg : G = x := by rw [Hg.out]; exact Nat.gcd_zero_right x
      subst hg
      clear Hg
      go_wp2_with fail
      go_ret
      exact ⟨rfl, k, rfl⟩
    · have t1 : ((y : Int) != 0) = true := by simp; omega
      have t2 : ¬ ((y : Int) = 0) := by omega
      have t3 : ((y : Int) == 0) = false := beq_eq_false_iff_ne.2 t2
      have m1 : (x : Int) % (y : Int) = ((x % y : Nat) : Int) := by simp
      have m2 : Int.tmod (x : Int) (y : Int) = ((x % y : Nat) : Int) := by rw [Int.tmod_eq_emod_of_nonneg (by omega)]; exact m1
      have hlt := Nat.mod_lt x (show 0 < y by omega)
      have hg2 : G = Nat.gcd y (x % y) := by rw [Hg.out, Nat.gcd_comm x y, Nat.gcd_rec y x, Nat.gcd_comm]
      have HG2 := Lib.hid hg2
      clear hg2 Hg HG
      generalize x % y = z at *
      have m3 : IntKind.u64.wrap (z : Int) = (z : Int) := by rw [wrap_u64']; omega
      go_wp2_with fail
      go_quiet (fail)
      go_wp2_with fail
      go_roundg z
      case measure => exact hlt
      case rel => exact ⟨y, z, _, rfl, rfl, rfl, hy, by omega, World.drewN_drewN _ _ _, HG2.out⟩

end Go.Proofs.YtlipjgpfhmkdhaaDoor
