/- The law Between. -/
import Derived.Test.YtlipjgpfhmkdhaaDoorR15
namespace Go.Proofs.YtlipjgpfhmkdhaaDoor
open Go.RowKit Go.Hw
set_option linter.unusedVariables false
set_option linter.unusedSimpArgs false

theorem wrap64_nat {x : Int} {P : Nat} (h : x = (P : Int)) (hP : P ≤ 8796093022208) : wrap64 x = (P : Int) := by
  subst h
  rcases wrap64_W (P : Int) (by omega) (by omega) with ⟨h, _⟩ | ⟨_, h⟩
  · omega
  · exact h
theorem wrap64_of {x : Int} (h0 : -9223372036854775808 ≤ x) (h1 : x ≤ 9223372036854775807) : wrap64 x = x := by
  rcases wrap64_W x h0 (by omega) with ⟨h, _⟩ | ⟨_, h⟩
  · omega
  · exact h
theorem log_facts (m : Nat) (h1 : 1 ≤ m) (h2 : m ≤ 1099511627776) : ∃ k B, Lib.bitLen m = k + 1 ∧ Lib.bitLen (m - 1) = B ∧ k ≤ 40 ∧ B ≤ 41 ∧ k ≤ B ∧ B ≤ k + 1 ∧ 2 ^ k ≤ m ∧ m < 2 * 2 ^ k ∧ m ≤ 2 ^ B ∧ (k = B ↔ 2 ^ k = m) := by
  by_cases hm1 : m = 1
  · subst hm1
    exact ⟨0, 0, by decide +kernel, by decide +kernel, by decide, by decide, by decide, by decide, by decide, by decide, by decide, by decide⟩
  obtain ⟨a1, a2⟩ := bitLen_pow m (by omega)
  obtain ⟨a3, a4⟩ := a2 (by omega)
  obtain ⟨b1, b2⟩ := bitLen_pow (m - 1) (by omega)
  have l1 := bitLen_le m h2
  have l2 := bitLen_le (m - 1) (by omega)
  obtain ⟨k, hk⟩ : ∃ k, Lib.bitLen m = k + 1 := ⟨Lib.bitLen m - 1, by omega⟩
  rw [hk] at a1 a4 l1
  rw [Nat.add_sub_cancel] at a4
  have e : 2 ^ (k + 1) = 2 * 2 ^ k := by rw [Nat.pow_succ]; omega
  generalize Lib.bitLen (m - 1) = B at *
  have c1 : k ≤ B := by
    rcases Nat.lt_or_ge B k with h | h
    · have : 2 ^ (B + 1) ≤ 2 ^ k := Nat.pow_le_pow_right (by decide) h
      rw [Nat.pow_succ] at this
      omega
    · exact h
  have c2 : B ≤ k + 1 := by
    rcases Nat.lt_or_ge (k + 1) B with h | h
    · have : 2 ^ (k + 1) ≤ 2 ^ (B - 1) := Nat.pow_le_pow_right (by decide) (by omega)
      by_cases h0 : m - 1 = 0
      · omega
      · have := (b2 h0).2
        omega
    · exact h
  refine ⟨k, B, hk, rfl, by omega, l2, c1, c2, a4, by omega, by omega, ⟨fun h => by subst h; omega, fun h => ?_⟩⟩
  rcases Nat.lt_or_ge k B with h3 | h3
  · have hB : B = k + 1 := by omega
    by_cases h0 : m - 1 = 0
    · omega
    · have := (b2 h0).2
      rw [hB, Nat.add_sub_cancel] at this
      omega
  · omega
set_option maxRecDepth 100000 in
set_option maxHeartbeats 1000000 in
theorem between1 (n : Int) (w : World) (htab : Lib.TabIs Tryd.prog w "internal/strconv.uint64pow10" .u64 Lib.pow10Tab) (h : n < 1) : Calls Tryd.prog 8 #[.int .i64 n] w fun e w' => e = .returned (.bool true) ∧ Ext w w' := by
  have CA := Lib.hid (awake_x w htab)
  have t1 : decide (n < 1) = true := decide_eq_true h
  clear htab
  go_enter Tryd.func8, Tryd.ntmps8
  go_wp2_with fail
  refine CA.out.mono ?_
  rintro e w1 ⟨rfl, h1⟩
  have H1 := Lib.hid h1
  clear h1 CA
  go_wp2_with fail
  go_ret
  exact ⟨rfl, H1.out⟩
set_option maxRecDepth 100000 in
set_option maxHeartbeats 1000000 in
theorem between2 (n : Int) (w : World) (htab : Lib.TabIs Tryd.prog w "internal/strconv.uint64pow10" .u64 Lib.pow10Tab) (h0 : 1 ≤ n) (h : 1099511627776 < n) : Calls Tryd.prog 8 #[.int .i64 n] w fun e w' => e = .returned (.bool true) ∧ Ext w w' := by
  have CA := Lib.hid (awake_x w htab)
  have t1 : decide (n < 1) = false := decide_eq_false (by omega)
  have t2 : decide (1099511627776 < n) = true := decide_eq_true h
  clear htab
  go_enter Tryd.func8, Tryd.ntmps8
  go_wp2_with fail
  refine CA.out.mono ?_
  rintro e w1 ⟨rfl, h1⟩
  have H1 := Lib.hid h1
  clear h1 CA
  go_wp2_with fail
  go_ret
  exact ⟨rfl, H1.out⟩
set_option maxRecDepth 100000 in
set_option maxHeartbeats 1000000 in
theorem between3 (m : Nat) (w : World) (htab : Lib.TabIs Tryd.prog w "internal/strconv.uint64pow10" .u64 Lib.pow10Tab) (h1 : 1 ≤ m) (h2 : m ≤ 1099511627776) : Calls Tryd.prog 8 #[.int .i64 m] w fun e w' => e = .returned (.bool true) ∧ Ext w w' := by
  have CA := Lib.hid (awake_x w htab)
  obtain ⟨k, B, hk, hB, k40, b41, kB, Bk, p1, p2, p3, p4⟩ := log_facts m h1 h2
  obtain ⟨r, r1, r2⟩ := sq_ex m
  have C28 : Hid (∀ W, Calls Tryd.prog 28 #[.int .i64 m] W fun e w' => e = .returned (.tuple #[.int .i64 k, .int .i64 0]) ∧ W = w') := fun W => by
    have := flog_ok m W h1 h2; rw [hk] at this; rw [show (((k + 1 : Nat) : Int) - 1) = (k : Int) by omega] at this; exact this
  have C30 : Hid (∀ W, Calls Tryd.prog 30 #[.int .i64 m] W fun e w' => e = .returned (.tuple #[.int .i64 B, .int .i64 0]) ∧ W = w') := fun W => by
    have := clog_ok m W h1 h2; rw [hB] at this; exact this
  have C32 : Hid (∀ W, Calls Tryd.prog 32 #[.int .i64 m] W fun e w' => e = .returned (.tuple #[.int .i64 r, .int .i64 0]) ∧ W = w') := fun W => root_at m r W h2 r1 r2
  clear htab hk hB
  have t1 : decide ((m : Int) < 1) = false := decide_eq_false (by omega)
  have t2 : decide (1099511627776 < (m : Int)) = false := decide_eq_false (by omega)
  have t3 : decide ((k : Int) < 0) = false := decide_eq_false (by omega)
  have t4 : decide (41 < (k : Int)) = false := decide_eq_false (by omega)
  have t5 : decide ((B : Int) < (k : Int)) = false := decide_eq_false (by omega)
  have t6 : decide ((k : Int) + 1 < (B : Int)) = false := decide_eq_false (by omega)
  have hr1 : 1 ≤ r := by
    rcases Nat.eq_zero_or_pos r with h | h
    · subst h; omega
    · exact h
  have hr2 : r ≤ 1048576 := by
    rcases Nat.lt_or_ge 1048576 r with h | h
    · have := Nat.mul_le_mul (show 1048577 ≤ r from h) (show 1048577 ≤ r from h); omega
    · exact h
  have t7 : decide ((r : Int) < 1) = false := decide_eq_false (by omega)
  have t8 : decide (2097152 < (r : Int)) = false := decide_eq_false (by omega)
  have RB : 2 ^ B ≤ 2199023255552 := by
    have : 2 ^ B ≤ 2 ^ 41 := Nat.pow_le_pow_right (by decide) b41
    omega
  obtain ⟨P, hP⟩ : ∃ P : Nat, 2 ^ k = P := ⟨_, rfl⟩
  obtain ⟨R, hR⟩ : ∃ R : Nat, 2 ^ B = R := ⟨_, rfl⟩
  rw [hP] at p1 p2 p4
  rw [hR] at p3 RB
  have PB : P ≤ 8796093022208 := by omega
  have PB2 : 2 * P ≤ 8796093022208 := by omega
  have RB2 : R ≤ 8796093022208 := by omega
  have s1 := Nat.mul_le_mul hr2 hr2
  have s2 := Nat.mul_le_mul (show r + 1 ≤ 1048577 by omega) (show r + 1 ≤ 1048577 by omega)
  obtain ⟨S, hS⟩ : ∃ S : Nat, r * r = S := ⟨_, rfl⟩
  obtain ⟨T, hT⟩ : ∃ T : Nat, (r + 1) * (r + 1) = T := ⟨_, rfl⟩
  rw [hS] at r1 s1
  rw [hT] at r2 s2
  have SB : S ≤ 8796093022208 := by omega
  have TB : T ≤ 8796093022208 := by omega
  have q1 : ((P : Int) ≤ (m : Int)) := by omega
  have q2 : ((m : Int) < ((2 * P : Nat) : Int)) := by omega
  have q2' : m < 2 * P := p2
  have q2'' : ((m : Int) < 2 * (P : Int)) := by omega
  have q3 : ((m : Int) ≤ (R : Int)) := by omega
  have q4 : ((S : Int) ≤ (m : Int)) := by omega
  have q5 : ((m : Int) < (T : Int)) := by omega
  have q6 : ¬ (B < k) := by omega
  obtain ⟨bb, b1, b2⟩ : ∃ bb : Bool, ((k : Int) == (B : Int)) = bb ∧ ((P : Int) == (m : Int)) = bb := by
    by_cases h : k = B
    · exact ⟨true, beq_iff_eq.2 (by omega), beq_iff_eq.2 (by have := p4.1 h; omega)⟩
    · exact ⟨false, beq_eq_false_iff_ne.2 (by omega), beq_eq_false_iff_ne.2 (fun e => h (p4.2 (by omega)))⟩
  clear p4
  have e1 : (2 : Int) ^ k = (P : Int) := by rw [← hP]; simp
  have e3 : (2 : Int) ^ B = (R : Int) := by rw [← hR]; simp
  have e4 : (r : Int) * (r : Int) = (S : Int) := by rw [← hS]; simp
  have e5 : ((r : Int) + 1) * ((r : Int) + 1) = (T : Int) := by rw [← hT]; simp
  clear hP hR hS hT RB s1 s2 r1 r2 p1 p2 p3 q2' q2
  go_enter Tryd.func8, Tryd.ntmps8
  go_wp2_with fail
  refine CA.out.mono ?_
  rintro e w1 ⟨rfl, h1⟩
  have H1 := Lib.hid h1
  clear h1 CA
  go_wp2_with fail
  refine (C28.out _).mono ?_
  rintro e w2 ⟨rfl, rfl⟩
  go_wp2_with fail
  refine (C30.out _).mono ?_
  rintro e w2 ⟨rfl, rfl⟩
  go_wp2_with fail
  refine (C32.out _).mono ?_
  rintro e w2 ⟨rfl, rfl⟩
  go_wp2_with fail
  go_ret
  exact ⟨rfl, H1.out⟩
theorem between_law (n : Int) (w : World) (htab : Lib.TabIs Tryd.prog w "internal/strconv.uint64pow10" .u64 Lib.pow10Tab) : Calls Tryd.prog 8 #[.int .i64 n] w fun e w' => e = .returned (.bool true) ∧ Ext w w' := by
  by_cases h : n < 1
  · exact between1 n w htab h
  · by_cases h2 : 1099511627776 < n
    · exact between2 n w htab (by omega) h2
    · obtain ⟨m, rfl⟩ : ∃ m : Nat, n = m := ⟨n.toNat, by omega⟩
      exact between3 m w htab (by omega) (by omega)

end Go.Proofs.YtlipjgpfhmkdhaaDoor
