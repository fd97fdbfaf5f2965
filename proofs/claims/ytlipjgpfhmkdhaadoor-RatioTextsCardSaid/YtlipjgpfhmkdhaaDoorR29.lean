/- Decimal. -/
import Derived.Test.YtlipjgpfhmkdhaaDoorR12
namespace Go.Proofs.YtlipjgpfhmkdhaaDoor
open Go.RowKit Go.Hw
set_option linter.unusedVariables false
set_option linter.unusedSimpArgs false

theorem enc_fin : ∀ k : Fin 10, Utf8.encode (48 + (k.val : Int)) = ⟨#[UInt8.ofNat (48 + k.val)]⟩ := by decide +kernel
theorem enc_dg (k : Nat) (h : k ≤ 9) : Utf8.encode (48 + (k : Int)) = ⟨#[UInt8.ofNat (48 + k)]⟩ := enc_fin ⟨k, by omega⟩
theorem app_ba (a b : List UInt8) : (⟨a.toArray⟩ : ByteArray) ++ ⟨b.toArray⟩ = ⟨(a ++ b).toArray⟩ := by
  apply ByteArray.ext
  simp [ByteArray.data_append]
set_option maxRecDepth 100000 in
set_option maxHeartbeats 1000000 in
theorem dec_small (k : Nat) (w : World) (h : k ≤ 9) : Calls Tryd.prog 52 #[.int .i64 k] w fun e w' => e = .returned (.string (istr k)) ∧ w = w' := by
  have t1 : decide ((k : Int) < 0) = false := decide_eq_false (by omega)
  have t2 : decide (9 < (k : Int)) = false := decide_eq_false (by omega)
  have t3 : decide (9 < k) = false := decide_eq_false (by omega)
  have hk : Utf8.encode (48 + (k : Int)) = istr k := by
    rw [enc_dg k h]
    unfold istr Lib.itoa
    rw [if_neg (by omega), show ((k : Int)).toNat = k by omega, Lib.decDigits, dif_pos (by omega)]
  generalize istr k = R at *
  go_enter Tryd.func52, Tryd.ntmps52
  go_wp2_with fail
  go_ret
  exact ⟨rfl, rfl⟩
set_option maxRecDepth 100000 in
set_option maxHeartbeats 1000000 in
theorem dec_neg1 (n : Int) (k : Nat) (K R : ByteArray) (w : World) (h0 : n < 0) (h : -9 ≤ n) (e : 48 - n = 48 + (k : Int)) (hK : Utf8.encode (48 + (k : Int)) = K) (hs : K.size ≤ 1) (hR : (⟨#[45]⟩ : ByteArray) ++ K = R) : Calls Tryd.prog 52 #[.int .i64 n] w fun e w' => e = .returned (.string R) ∧ w = w' := by
  have t1 : decide (n < 0) = true := decide_eq_true h0
  have t2 : decide (n < -9) = false := decide_eq_false (by omega)
  have s1 : ¬ (9223372036854775807 < 1 + K.size) := by omega
  have hk9 : k ≤ 9 := by omega
  go_enter Tryd.func52, Tryd.ntmps52
  go_wp2_with fail
  go_ret
  exact ⟨rfl, rfl⟩
set_option maxRecDepth 100000 in
set_option maxHeartbeats 1000000 in
theorem dec_big (n q : Int) (k : Nat) (S K R : ByteArray) (w : World) (h : 9 < n) (hn : n ≤ 9223372036854775807) (e1 : Int.tdiv n 10 = q) (e2 : Int.tmod n 10 = (k : Int)) (hk9 : k ≤ 9) (hS : ∀ W, Calls Tryd.prog 52 #[.int .i64 q] W fun e w' => e = .returned (.string S) ∧ W = w') (hK : Utf8.encode (48 + (k : Int)) = K) (hs : K.size ≤ 1) (hs2 : S.size ≤ 21) (hR : S ++ K = R) : Calls Tryd.prog 52 #[.int .i64 n] w fun e w' => e = .returned (.string R) ∧ w = w' := by
  have t1 : decide (n < 0) = false := decide_eq_false (by omega)
  have t2 : decide (9 < n) = true := decide_eq_true h
  have s1 : ¬ (9223372036854775807 < S.size + K.size) := by omega
  have q1 : n / 10 = q := by rw [← e1, Int.tdiv_eq_ediv_of_nonneg (by omega)]
  have q2 : n % 10 = (k : Int) := by rw [← e2, Int.tmod_eq_emod_of_nonneg (by omega)]
  have q3 : -9223372036854775808 ≤ q ∧ q ≤ 9223372036854775807 := by omega
  obtain ⟨q4, q5⟩ := q3
  have C := Lib.hid hS
  clear hS
  go_enter Tryd.func52, Tryd.ntmps52
  go_wp2_with fail
  refine (C.out _).mono ?_
  rintro e w4 ⟨rfl, rfl⟩
  go_wp2_with fail
  go_ret
  exact ⟨rfl, rfl⟩
set_option maxRecDepth 100000 in
set_option maxHeartbeats 1000000 in
theorem dec_neg2 (n q : Int) (k : Nat) (S K R : ByteArray) (w : World) (h : n < -9) (hn : -9223372036854775808 ≤ n) (e1 : Int.tdiv n 10 = q) (e2 : Int.tmod n 10 = -(k : Int)) (hq : -9223372036854775808 ≤ q ∧ q ≤ 0) (hk9 : k ≤ 9) (hS : ∀ W, Calls Tryd.prog 52 #[.int .i64 q] W fun e w' => e = .returned (.string S) ∧ W = w') (hK : Utf8.encode (48 + (k : Int)) = K) (hs : K.size ≤ 1) (hs2 : S.size ≤ 21) (hR : S ++ K = R) : Calls Tryd.prog 52 #[.int .i64 n] w fun e w' => e = .returned (.string R) ∧ w = w' := by
  have t1 : decide (n < 0) = true := decide_eq_true (by omega)
  have t2 : decide (n < -9) = true := decide_eq_true h
  have s1 : ¬ (9223372036854775807 < S.size + K.size) := by omega
  obtain ⟨q4, q5⟩ := hq
  have e3 : 48 - -(k : Int) = 48 + (k : Int) := by omega
  have C := Lib.hid hS
  clear hS
  go_enter Tryd.func52, Tryd.ntmps52
  go_wp2_with fail
  refine (C.out _).mono ?_
  rintro e w4 ⟨rfl, rfl⟩
  go_wp2_with fail
  go_ret
  exact ⟨rfl, rfl⟩
theorem istr_size (n : Int) (h0 : -9223372036854775808 ≤ n) (h1 : n ≤ 9223372036854775807) : (istr n).size ≤ 21 := Lib.itoa_length_le n h0 h1
theorem istr_big (m : Nat) (h : ¬ m < 10) : istr (m : Int) = istr ((m / 10 : Nat) : Int) ++ ⟨#[UInt8.ofNat (48 + m % 10)]⟩ := by
  unfold istr Lib.itoa
  rw [if_neg (by omega), if_neg (by omega), show ((m : Int)).toNat = m by omega, show (((m / 10 : Nat) : Int)).toNat = m / 10 by omega, Lib.decDigits, dif_neg h]
  exact (app_ba _ _).symm
theorem istr_nbig (m : Nat) (h : ¬ m < 10) : istr (-(m : Int)) = istr (-((m / 10 : Nat) : Int)) ++ ⟨#[UInt8.ofNat (48 + m % 10)]⟩ := by
  unfold istr Lib.itoa
  rw [if_pos (by omega), if_pos (by omega), show (-(m : Int)).natAbs = m by omega, show (-((m / 10 : Nat) : Int)).natAbs = m / 10 by omega, Lib.decDigits, dif_neg h]
  exact (app_ba (45 :: Lib.decDigits (m / 10)) _).symm
theorem istr_n1 (m : Nat) (h0 : 0 < m) (h : m < 10) : istr (-(m : Int)) = (⟨#[45]⟩ : ByteArray) ++ ⟨#[UInt8.ofNat (48 + m)]⟩ := by
  unfold istr Lib.itoa
  rw [if_pos (by omega), show (-(m : Int)).natAbs = m by omega, Lib.decDigits, dif_pos h]
  exact (app_ba [45] [UInt8.ofNat (48 + m)]).symm
theorem dec_pos : ∀ (m : Nat) (w : World), m ≤ 9223372036854775807 → Calls Tryd.prog 52 #[.int .i64 (m : Int)] w fun e w' => e = .returned (.string (istr m)) ∧ w = w' := by
  intro m
  induction m using Nat.strongRecOn with
  | _ m ih =>
    intro w hm
    by_cases h : m < 10
    · exact dec_small m w (by omega)
    · have e1 : Int.tdiv (m : Int) 10 = ((m / 10 : Nat) : Int) := by rw [Int.tdiv_eq_ediv_of_nonneg (by omega)]; omega
      have e2 : Int.tmod (m : Int) 10 = ((m % 10 : Nat) : Int) := by rw [Int.tmod_eq_emod_of_nonneg (by omega)]; omega
      exact dec_big m _ (m % 10) _ _ _ w (by omega) (by omega) e1 e2 (by omega) (fun W => ih (m / 10) (by omega) W (by omega)) (enc_dg _ (by omega)) (Nat.le_refl 1) (istr_size _ (by omega) (by omega)) (istr_big m h).symm
theorem dec_neg : ∀ (m : Nat) (w : World), 0 < m → m ≤ 9223372036854775808 → Calls Tryd.prog 52 #[.int .i64 (-(m : Int))] w fun e w' => e = .returned (.string (istr (-(m : Int)))) ∧ w = w' := by
  intro m
  induction m using Nat.strongRecOn with
  | _ m ih =>
    intro w h0 hm
    by_cases h : m < 10
    · exact dec_neg1 (-(m : Int)) m _ _ w (by omega) (by omega) (by omega) (enc_dg _ (by omega)) (Nat.le_refl 1) (istr_n1 m h0 h).symm
    · have e1 : Int.tdiv (-(m : Int)) 10 = -((m / 10 : Nat) : Int) := by rw [Int.neg_tdiv, Int.tdiv_eq_ediv_of_nonneg (by omega)]; omega
      have e2 : Int.tmod (-(m : Int)) 10 = -((m % 10 : Nat) : Int) := by rw [Int.neg_tmod, Int.tmod_eq_emod_of_nonneg (by omega)]; omega
      exact dec_neg2 (-(m : Int)) _ (m % 10) _ _ _ w (by omega) (by omega) e1 e2 (by omega) (by omega) (fun W => ih (m / 10) (by omega) W (by omega) (by omega)) (enc_dg _ (by omega)) (Nat.le_refl 1) (istr_size _ (by omega) (by omega)) (istr_nbig m h).symm
theorem dec_x (n : Int) (w : World) (h0 : -9223372036854775808 ≤ n) (h1 : n ≤ 9223372036854775807) : Calls Tryd.prog 52 #[.int .i64 n] w fun e w' => e = .returned (.string (istr n)) ∧ w = w' := by
  by_cases h : n < 0
  · obtain ⟨m, rfl⟩ : ∃ m : Nat, n = -(m : Int) := ⟨n.natAbs, by omega⟩
    exact dec_neg m w (by omega) (by omega)
  · obtain ⟨m, rfl⟩ : ∃ m : Nat, n = (m : Int) := ⟨n.toNat, by omega⟩
    exact dec_pos m w (by omega)

end Go.Proofs.YtlipjgpfhmkdhaaDoor
