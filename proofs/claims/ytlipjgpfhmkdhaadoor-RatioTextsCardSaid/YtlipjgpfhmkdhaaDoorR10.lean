/- Logarithms. -/
import Derived.Test.YtlipjgpfhmkdhaaDoorR9
namespace Go.Proofs.YtlipjgpfhmkdhaaDoor
open Go.RowKit Go.Hw
set_option linter.unusedVariables false
set_option linter.unusedSimpArgs false

theorem bitLen_zero' : Lib.bitLen 0 = 0 := by unfold Lib.bitLen Lib.bitLenAux; simp
theorem bitLen_pow : ∀ (m : Nat), m < 2 ^ 64 → m < 2 ^ Lib.bitLen m ∧ (m ≠ 0 → 1 ≤ Lib.bitLen m ∧ 2 ^ (Lib.bitLen m - 1) ≤ m) := by
  intro m
  induction m using Nat.strongRecOn with
  | _ m ih =>
    intro hm
    by_cases h0 : m = 0
    · subst h0; rw [bitLen_zero']; exact ⟨by decide, fun h => absurd rfl h⟩
    · have hh := Lib.bitLen_half m h0 hm
      obtain ⟨h1, h2⟩ := ih (m / 2) (by omega) (by omega)
      rw [hh]
      refine ⟨?_, fun _ => ⟨by omega, ?_⟩⟩
      · rw [Nat.add_comm, Nat.pow_succ]; omega
      · rw [show 1 + Lib.bitLen (m / 2) - 1 = Lib.bitLen (m / 2) by omega]
        by_cases h3 : m / 2 = 0
        · rw [h3, bitLen_zero']; simp; omega
        · obtain ⟨h4, h5⟩ := h2 h3
          have h6 : 2 ^ Lib.bitLen (m / 2) = 2 ^ (Lib.bitLen (m / 2) - 1) * 2 := by rw [← Nat.pow_succ]; congr 1; omega
          omega
theorem bitLen_uniq (m k : Nat) (hm : m < 2 ^ 64) (h1 : m < 2 ^ k) (h2 : k = 0 ∨ 2 ^ (k - 1) ≤ m) : Lib.bitLen m = k := by
  obtain ⟨a1, a2⟩ := bitLen_pow m hm
  rcases Nat.lt_trichotomy (Lib.bitLen m) k with h | h | h
  · rcases h2 with h2 | h2
    · omega
    · have : 2 ^ Lib.bitLen m ≤ 2 ^ (k - 1) := Nat.pow_le_pow_right (by decide) (by omega)
      omega
  · exact h
  · have hm0 : m ≠ 0 := fun e => by subst e; rw [bitLen_zero'] at h; omega
    obtain ⟨b1, b2⟩ := a2 hm0
    have : 2 ^ k ≤ 2 ^ (Lib.bitLen m - 1) := Nat.pow_le_pow_right (by decide) (by omega)
    omega
theorem bitLen_le (m : Nat) (h : m ≤ 1099511627776) : Lib.bitLen m ≤ 41 := by
  obtain ⟨a1, a2⟩ := bitLen_pow m (by omega)
  rcases Nat.lt_or_ge 41 (Lib.bitLen m) with h1 | h1
  · have hm0 : m ≠ 0 := fun e => by subst e; rw [bitLen_zero'] at h1; omega
    obtain ⟨b1, b2⟩ := a2 hm0
    have : 2 ^ 41 ≤ 2 ^ (Lib.bitLen m - 1) := Nat.pow_le_pow_right (by decide) (by omega)
    omega
  · exact h1

set_option maxRecDepth 100000 in
set_option maxHeartbeats 1000000 in
theorem flog_bad1 (n : Int) (w : World) (h : n < 1) : Calls Tryd.prog 28 #[.int .i64 n] w fun e w' => e = .returned (.tuple #[.int .i64 0, .int .i64 2]) ∧ w = w' := by
  have t1 : decide (n < 1) = true := decide_eq_true h
  go_enter Tryd.func28, Tryd.ntmps28
  go_wp2_with fail
  go_ret2
  exact ⟨rfl, rfl⟩
set_option maxRecDepth 100000 in
set_option maxHeartbeats 1000000 in
theorem flog_bad2 (n : Int) (w : World) (h : 1099511627776 < n) : Calls Tryd.prog 28 #[.int .i64 n] w fun e w' => e = .returned (.tuple #[.int .i64 0, .int .i64 2]) ∧ w = w' := by
  have t1 : decide (n < 1) = false := decide_eq_false (by omega)
  have t2 : decide (1099511627776 < n) = true := decide_eq_true h
  go_enter Tryd.func28, Tryd.ntmps28
  go_wp2_with fail
  go_ret2
  exact ⟨rfl, rfl⟩

set_option maxRecDepth 100000 in
set_option maxHeartbeats 1000000 in
theorem rflog_bad1 (n : Int) (w : World) (h : n < 1) : Calls Tryd.prog 29 #[.int .i64 n] w fun e w' => e = .returned (.tuple #[.int .i64 0, .int .i64 2]) ∧ w = w' := by
  have t1 : decide (n < 1) = true := decide_eq_true h
  go_enter Tryd.func29, Tryd.ntmps29
  go_wp2_with fail
  go_ret2
  exact ⟨rfl, rfl⟩
set_option maxRecDepth 100000 in
set_option maxHeartbeats 1000000 in
theorem rflog_bad2 (n : Int) (w : World) (h : 1099511627776 < n) : Calls Tryd.prog 29 #[.int .i64 n] w fun e w' => e = .returned (.tuple #[.int .i64 0, .int .i64 2]) ∧ w = w' := by
  have t1 : decide (n < 1) = false := decide_eq_false (by omega)
  have t2 : decide (1099511627776 < n) = true := decide_eq_true h
  go_enter Tryd.func29, Tryd.ntmps29
  go_wp2_with fail
  go_ret2
  exact ⟨rfl, rfl⟩

set_option maxRecDepth 100000 in
set_option maxHeartbeats 1000000 in
theorem clog_bad1 (n : Int) (w : World) (h : n < 1) : Calls Tryd.prog 30 #[.int .i64 n] w fun e w' => e = .returned (.tuple #[.int .i64 0, .int .i64 2]) ∧ w = w' := by
  have t1 : decide (n < 1) = true := decide_eq_true h
  go_enter Tryd.func30, Tryd.ntmps30
  go_wp2_with fail
  go_ret2
  exact ⟨rfl, rfl⟩
set_option maxRecDepth 100000 in
set_option maxHeartbeats 1000000 in
theorem clog_bad2 (n : Int) (w : World) (h : 1099511627776 < n) : Calls Tryd.prog 30 #[.int .i64 n] w fun e w' => e = .returned (.tuple #[.int .i64 0, .int .i64 2]) ∧ w = w' := by
  have t1 : decide (n < 1) = false := decide_eq_false (by omega)
  have t2 : decide (1099511627776 < n) = true := decide_eq_true h
  go_enter Tryd.func30, Tryd.ntmps30
  go_wp2_with fail
  go_ret2
  exact ⟨rfl, rfl⟩

set_option maxRecDepth 100000 in
set_option maxHeartbeats 1000000 in
theorem rclog_bad1 (n : Int) (w : World) (h : n < 1) : Calls Tryd.prog 31 #[.int .i64 n] w fun e w' => e = .returned (.tuple #[.int .i64 0, .int .i64 2]) ∧ w = w' := by
  have t1 : decide (n < 1) = true := decide_eq_true h
  go_enter Tryd.func31, Tryd.ntmps31
  go_wp2_with fail
  go_ret2
  exact ⟨rfl, rfl⟩
set_option maxRecDepth 100000 in
set_option maxHeartbeats 1000000 in
theorem rclog_bad2 (n : Int) (w : World) (h : 1099511627776 < n) : Calls Tryd.prog 31 #[.int .i64 n] w fun e w' => e = .returned (.tuple #[.int .i64 0, .int .i64 2]) ∧ w = w' := by
  have t1 : decide (n < 1) = false := decide_eq_false (by omega)
  have t2 : decide (1099511627776 < n) = true := decide_eq_true h
  go_enter Tryd.func31, Tryd.ntmps31
  go_wp2_with fail
  go_ret2
  exact ⟨rfl, rfl⟩

set_option maxRecDepth 100000 in
set_option maxHeartbeats 1000000 in
theorem root_bad1 (n : Int) (w : World) (h : n < 0) : Calls Tryd.prog 32 #[.int .i64 n] w fun e w' => e = .returned (.tuple #[.int .i64 0, .int .i64 2]) ∧ w = w' := by
  have t1 : decide (n < 0) = true := decide_eq_true h
  go_enter Tryd.func32, Tryd.ntmps32
  go_wp2_with fail
  go_ret2
  exact ⟨rfl, rfl⟩
set_option maxRecDepth 100000 in
set_option maxHeartbeats 1000000 in
theorem root_bad2 (n : Int) (w : World) (h : 1099511627776 < n) : Calls Tryd.prog 32 #[.int .i64 n] w fun e w' => e = .returned (.tuple #[.int .i64 0, .int .i64 2]) ∧ w = w' := by
  have t1 : decide (n < 0) = false := decide_eq_false (by omega)
  have t2 : decide (1099511627776 < n) = true := decide_eq_true h
  go_enter Tryd.func32, Tryd.ntmps32
  go_wp2_with fail
  go_ret2
  exact ⟨rfl, rfl⟩

set_option maxRecDepth 100000 in
set_option maxHeartbeats 1000000 in
theorem rroot_bad1 (n : Int) (w : World) (h : n < 0) : Calls Tryd.prog 33 #[.int .i64 n] w fun e w' => e = .returned (.tuple #[.int .i64 0, .int .i64 2]) ∧ w = w' := by
  have t1 : decide (n < 0) = true := decide_eq_true h
  go_enter Tryd.func33, Tryd.ntmps33
  go_wp2_with fail
  go_ret2
  exact ⟨rfl, rfl⟩
set_option maxRecDepth 100000 in
set_option maxHeartbeats 1000000 in
theorem rroot_bad2 (n : Int) (w : World) (h : 1099511627776 < n) : Calls Tryd.prog 33 #[.int .i64 n] w fun e w' => e = .returned (.tuple #[.int .i64 0, .int .i64 2]) ∧ w = w' := by
  have t1 : decide (n < 0) = false := decide_eq_false (by omega)
  have t2 : decide (1099511627776 < n) = true := decide_eq_true h
  go_enter Tryd.func33, Tryd.ntmps33
  go_wp2_with fail
  go_ret2
  exact ⟨rfl, rfl⟩

set_option maxRecDepth 100000 in
set_option maxHeartbeats 1000000 in
theorem flog_ok (m : Nat) (w : World) (h1 : 1 ≤ m) (h2 : m ≤ 1099511627776) : Calls Tryd.prog 28 #[.int .i64 m] w fun e w' => e = .returned (.tuple #[.int .i64 ((Lib.bitLen m : Int) - 1), .int .i64 0]) ∧ w = w' := by
  have t1 : decide ((m : Int) < 1) = false := decide_eq_false (by omega)
  have t2 : decide (1099511627776 < (m : Int)) = false := decide_eq_false (by omega)
  have e1 : IntKind.u64.wrap (m : Int) = (m : Int) := by rw [wrap_u64']; omega
  have CL : Hid (∀ W, Calls Tryd.prog 45 #[.int .u64 (m : Int)] W fun e w' => e = .returned (.int .i64 (Lib.bitLen m)) ∧ W = w') := fun W => (Tryd.bits_Len (m : Int) W (by omega) (by omega)).mono fun e w' ⟨h, h'⟩ => ⟨by rw [h]; rfl, h'.symm⟩
  have hb := bitLen_le m h2
  generalize Lib.bitLen m = B at *
  go_enter Tryd.func28, Tryd.ntmps28
  go_wp2_with fail
  refine (CL.out _).mono ?_
  rintro e w4 ⟨rfl, rfl⟩
  go_wp2_with fail
  go_ret2
  exact ⟨rfl, rfl⟩
set_option maxRecDepth 100000 in
set_option maxHeartbeats 1000000 in
theorem rlog_ok (m : Nat) (w : World) (h1 : 1 ≤ m) (h2 : m ≤ 1099511627776) : Calls Tryd.prog 46 #[.int .i64 m] w fun e w' => e = .returned (.int .i64 ((Lib.bitLen m : Int) - 1)) ∧ w = w' := by
  obtain ⟨R, hR⟩ : ∃ R : Int, (Lib.bitLen m : Int) - 1 = R := ⟨_, rfl⟩
  rw [hR]
  have HR := Lib.hid hR
  have hbm := bitLen_le m h2
  have HKB : Hid (∀ (k x : Nat), 1 < x → (k : Int) + Lib.bitLen x - 1 = R → k ≤ 40) := fun k x hx h => by
    have h9 := bitLen_pow (x / 2)
    rcases Nat.lt_or_ge x (2 ^ 64) with hlt | hge
    · have hh := Lib.bitLen_half x (by omega) hlt
      have h10 := ((bitLen_pow (x / 2) (by omega)).2 (by omega)).1
      omega
    · have : 1 ≤ Lib.bitLen x := by
        unfold Lib.bitLen Lib.bitLenAux
        rw [if_neg (by omega)]; omega
      have h11 : 2 ≤ Lib.bitLen x := by
        unfold Lib.bitLen Lib.bitLenAux
        rw [if_neg (by omega)]
        unfold Lib.bitLenAux
        rw [if_neg (by omega)]; omega
      omega
  clear hR
  go_enter Tryd.func46, Tryd.ntmps46
  go_wp2_with fail
  go_loopg [0, 3] m (fun gk nv kv wr => ∃ x k : Nat, nv = .int .i64 x ∧ kv = .int .i64 k ∧ x = gk ∧ 1 ≤ x ∧ x ≤ 1099511627776 ∧ wr = w ∧ Hid ((k : Int) + Lib.bitLen x - 1 = R) ∧ k ≤ 41)
  case atStart => exact ⟨m, 0, rfl, rfl, rfl, h1, h2, rfl, by show _ = _; rw [← HR.out]; simp, by omega⟩
  case round =>
    obtain ⟨x, k, rfl, rfl, rfl, hx1, hx2, rfl, HK, hk⟩ := hrel
    clear HR
    by_cases h : 1 < x
    · have t1 : decide (1 < (x : Int)) = true := decide_eq_true (by omega)
      have t2 : decide (1 < x) = true := decide_eq_true h
      have hh := Lib.bitLen_half x (by omega) (by omega)
      have hk2 := HK.out
      rw [hh] at hk2
      have hle := bitLen_pow (x / 2) (by omega)
      have hb41 := bitLen_le x hx2
      have hk41 : k + 1 ≤ 41 := by
        have h9 := (hle.2 (by omega)).1
        have h10 := HK.out
        have h11 := HKB.out k x (by omega) HK.out
        omega
      have e1 : (x : Int) / 2 = ((x / 2 : Nat) : Int) := by omega
      have e2 : Int.tdiv (x : Int) 2 = ((x / 2 : Nat) : Int) := by rw [Int.tdiv_eq_ediv_of_nonneg (by omega)]; exact e1
      have HK2 := Lib.hid hk2
      clear hh hk2 hle
      generalize hy : x / 2 = y at *
      have hy1 : 1 ≤ y := by omega
      have hy2 : y < x := by omega
      clear hy
      go_wp2_with fail
      go_roundg y
      case measure => exact hy2
      case rel => exact ⟨y, k + 1, rfl, by go_num, rfl, hy1, by omega, rfl, by have := HK2.out; show _ = _; omega, hk41⟩
    · obtain rfl : x = 1 := by omega
      have t1 : decide (1 < ((1 : Nat) : Int)) = false := rfl
      have hr : R = (k : Int) := by
        have := HK.out
        have e : Lib.bitLen 1 = 1 := by decide +kernel
        rw [e] at this; omega
      subst hr
      clear HK
      go_wp2_with fail
      go_ret
      exact ⟨rfl, rfl⟩

set_option maxRecDepth 100000 in
set_option maxHeartbeats 1000000 in
theorem rflog_ok (m : Nat) (w : World) (h1 : 1 ≤ m) (h2 : m ≤ 1099511627776) : Calls Tryd.prog 29 #[.int .i64 m] w fun e w' => e = .returned (.tuple #[.int .i64 ((Lib.bitLen m : Int) - 1), .int .i64 0]) ∧ w = w' := by
  have t1 : decide ((m : Int) < 1) = false := decide_eq_false (by omega)
  have t2 : decide (1099511627776 < (m : Int)) = false := decide_eq_false (by omega)
  have CL := Lib.hid (fun W : World => rlog_ok m W h1 h2)
  generalize (Lib.bitLen m : Int) - 1 = B at *
  go_enter Tryd.func29, Tryd.ntmps29
  go_wp2_with fail
  refine (CL.out _).mono ?_
  rintro e w4 ⟨rfl, rfl⟩
  go_wp2_with fail
  go_ret2
  exact ⟨rfl, rfl⟩
set_option maxRecDepth 100000 in
set_option maxHeartbeats 1000000 in
theorem clog_ok (m : Nat) (w : World) (h1 : 1 ≤ m) (h2 : m ≤ 1099511627776) : Calls Tryd.prog 30 #[.int .i64 m] w fun e w' => e = .returned (.tuple #[.int .i64 (Lib.bitLen (m - 1) : Int), .int .i64 0]) ∧ w = w' := by
  have t1 : decide ((m : Int) < 1) = false := decide_eq_false (by omega)
  have t2 : decide (1099511627776 < (m : Int)) = false := decide_eq_false (by omega)
  have e1 : IntKind.u64.wrap (m : Int) = (m : Int) := by rw [wrap_u64']; omega
  have e2 : IntKind.u64.wrap ((m : Int) - 1) = (m : Int) - 1 := by rw [wrap_u64']; omega
  have CL : Hid (∀ W, Calls Tryd.prog 45 #[.int .u64 ((m : Int) - 1)] W fun e w' => e = .returned (.int .i64 (Lib.bitLen (m - 1))) ∧ W = w') := fun W => (Tryd.bits_Len ((m : Int) - 1) W (by omega) (by omega)).mono fun e w' ⟨h, h'⟩ => ⟨by rw [h]; congr 4; omega, h'.symm⟩
  have hb := bitLen_le (m - 1) (by omega)
  generalize Lib.bitLen (m - 1) = B at *
  go_enter Tryd.func30, Tryd.ntmps30
  go_wp2_with fail
  refine (CL.out _).mono ?_
  rintro e w4 ⟨rfl, rfl⟩
  go_wp2_with fail
  go_ret2
  exact ⟨rfl, rfl⟩
set_option maxRecDepth 100000 in
set_option maxHeartbeats 1000000 in
theorem rclog_ok (m : Nat) (w : World) (h1 : 1 ≤ m) (h2 : m ≤ 1099511627776) : Calls Tryd.prog 31 #[.int .i64 m] w fun e w' => e = .returned (.tuple #[.int .i64 (Lib.bitLen (m - 1) : Int), .int .i64 0]) ∧ w = w' := by
  have t1 : decide ((m : Int) < 1) = false := decide_eq_false (by omega)
  have t2 : decide (1099511627776 < (m : Int)) = false := decide_eq_false (by omega)
  obtain ⟨R, hR⟩ : ∃ R, Lib.bitLen (m - 1) = R := ⟨_, rfl⟩
  rw [hR]
  have HR := Lib.hid hR
  clear hR
  go_enter Tryd.func31, Tryd.ntmps31
  go_wp2_with fail
  go_loopg [4, 5] (m - 1) (fun gk kv pv wr => ∃ k p : Nat, kv = .int .i64 k ∧ pv = .int .i64 p ∧ gk = m - p ∧ 1 ≤ p ∧ p < 2 * m ∧ k < p ∧ wr = w ∧ Hid (p = 2 ^ k ∧ (k = 0 ∨ 2 ^ (k - 1) < m)))
  case atStart => exact ⟨0, 1, rfl, rfl, rfl, Nat.le_refl _, by omega, by omega, rfl, rfl, .inl rfl⟩
  case round =>
    obtain ⟨k, p, rfl, rfl, rfl, hp1, hp2, hkp, rfl, HK⟩ := hrel
    by_cases h : p < m
    · have t3 : decide ((p : Int) < (m : Int)) = true := decide_eq_true (by omega)
      have t4 : decide (p < m) = true := decide_eq_true h
      go_wp2_with fail
      go_roundg (m - 2 * p)
      case measure => omega
      case rel => exact ⟨k + 1, 2 * p, by go_num, by congr 1, rfl, by omega, by omega, by omega, rfl, by rw [HK.out.1, Nat.pow_succ]; omega, .inr (by rw [Nat.add_sub_cancel, ← HK.out.1]; exact h)⟩
    · have t3 : decide ((p : Int) < (m : Int)) = false := decide_eq_false (by omega)
      have t4 : decide (p < m) = false := decide_eq_false h
      have hr : R = k := by
        rw [← HR.out]
        obtain ⟨e1, e2⟩ := HK.out
        refine bitLen_uniq _ _ (by omega) (by omega) ?_
        rcases e2 with e2 | e2
        · exact .inl e2
        · exact .inr (by omega)
      subst hr
      clear HR HK
      go_wp2_with fail
      go_ret2
      exact ⟨rfl, rfl⟩

end Go.Proofs.YtlipjgpfhmkdhaaDoor
