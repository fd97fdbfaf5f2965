/- Sets of numbers as bits, the least one. -/
import Derived.Test.YtlbnilhbfiidmaaDoorP3
namespace Go.Proofs.YtlbnilhbfiidmaaDoor
open Go.RowKit Go.Hw
set_option linter.unusedVariables false
set_option linter.unusedSimpArgs false

theorem ctz_bits (x : Nat) (h0 : x ≠ 0) (hx : x < 18446744073709551616) : Lib.ctz 64 x < 64 ∧ x.testBit (Lib.ctz 64 x) = true ∧ ∀ j, j < Lib.ctz 64 x → x.testBit j = false := by
  obtain ⟨m, hm, hk⟩ := Lib.ctzFrom_spec 64 x (by omega) (by simpa using hx)
  have e : Lib.ctz 64 x = Lib.ctzFrom 64 x := by simp [Lib.ctz, h0]
  rw [e]
  generalize Lib.ctzFrom 64 x = k at *
  refine ⟨hk, ?_, fun j hj => ?_⟩
  · rw [hm, Nat.testBit_two_pow_mul]; simp [Nat.testBit_zero]
  · rw [hm, Nat.testBit_two_pow_mul]; simp; omega
theorem andnot_u64 (x y : Nat) (hx : x < 18446744073709551616) (hy : y < 18446744073709551616) : bits .andNot .u64 (x : Int) (y : Int) = ((x &&& (18446744073709551615 - y) : Nat) : Int) := by
  show IntKind.u64.wrap ((BitVec.ofInt 64 (x : Int) &&& ~~~ BitVec.ofInt 64 (y : Int)).toNat : Int) = _
  rw [ofInt_nat, ofInt_nat, BitVec.toNat_and, BitVec.toNat_not, BitVec.toNat_ofNat, BitVec.toNat_ofNat, Nat.mod_eq_of_lt (by omega : x < 2 ^ 64), Nat.mod_eq_of_lt (by omega : y < 2 ^ 64), wrap_u64q]
  have h : x &&& (2 ^ 64 - 1 - y) < 2 ^ 64 := Nat.lt_of_le_of_lt Nat.and_le_left (by omega)
  have e : (2 ^ 64 - 1 - y) = 18446744073709551615 - y := by omega
  rw [e] at h ⊢
  omega
theorem testBit_clear (x k j : Nat) (hk : k < 64) (hj : j < 64) : (x &&& (18446744073709551615 - 2 ^ k)).testBit j = (x.testBit j && decide (j ≠ k)) := by
  have h1 : (2 : Nat) ^ k < 2 ^ 64 := Nat.pow_lt_pow_right (by decide) hk
  have h2 := Nat.testBit_two_pow_sub_succ h1 j
  have e : 2 ^ 64 - (2 ^ k + 1) = 18446744073709551615 - 2 ^ k := by omega
  rw [e] at h2
  rw [Nat.testBit_and, h2, Nat.testBit_two_pow]
  have : decide (j < 64) = true := decide_eq_true hj
  rw [this]
  congr 1
  by_cases q : k = j
  · subst q; simp
  · simp [q, Ne.symm q]
theorem bit_none (ws : List Nat) (from_ : Nat) (h : ∀ j, from_ ≤ j → ws.getD j 0 = 0) (j : Nat) (hj : 64 * from_ ≤ j) : bitOf ws j = false := by
  unfold bitOf
  rw [h _ (by omega)]; simp
def NxtB (g : Nat) (ws : List Nat) (from_ : Nat) (w : World) (e : Ending) (w' : World) : Prop := ∃ (r : Int) (ws' : List Nat), e = .returned (.int .i64 r) ∧ Arr w' g 77 (words ws') ∧ ws'.length = ws.length ∧ U64s ws' ∧ Upd (fun k => k = g) w w' ∧
  ((r = -1 ∧ ws' = ws ∧ ∀ j, 64 * from_ ≤ j → bitOf ws j = false) ∨ ∃ k : Nat, r = k ∧ k / 64 < ws.length ∧ bitOf ws k = true ∧ (∀ j, 64 * from_ ≤ j → j < k → bitOf ws j = false) ∧ ∀ j, bitOf ws' j = (bitOf ws j && decide (j ≠ k)))
/-- the bit that is found -/
theorem found_bit (ws : List Nat) (from_ v : Nat) (x : Nat) (hv : v < ws.length) (hx : ws.getD v 0 = x) (h0 : x ≠ 0) (hu : x < 18446744073709551616) (hb : ∀ j, from_ ≤ j → j < v → ws.getD j 0 = 0) :
    (64 * v + Lib.ctz 64 x) / 64 = v ∧ bitOf ws (64 * v + Lib.ctz 64 x) = true ∧ (∀ j, 64 * from_ ≤ j → j < 64 * v + Lib.ctz 64 x → bitOf ws j = false) ∧ ∀ j, bitOf (ws.set v (x &&& (18446744073709551615 - 2 ^ Lib.ctz 64 x))) j = (bitOf ws j && decide (j ≠ 64 * v + Lib.ctz 64 x)) := by
  obtain ⟨c1, c2, c3⟩ := ctz_bits x h0 hu
  generalize Lib.ctz 64 x = k at *
  have e1 : (64 * v + k) / 64 = v := by omega
  have e2 : (64 * v + k) % 64 = k := by omega
  refine ⟨e1, ?_, fun j hj1 hj2 => ?_, fun j => ?_⟩
  · unfold bitOf; rw [e1, e2, hx]; exact c2
  · unfold bitOf
    by_cases q : j / 64 = v
    · rw [q, hx]; exact c3 _ (by omega)
    · rw [hb _ (by omega) (by omega)]; simp
  · by_cases q : j / 64 = v
    · have h1 : bitOf ws j = x.testBit (j % 64) := by unfold bitOf; rw [q, hx]
      have h2 : bitOf (ws.set v (x &&& (18446744073709551615 - 2 ^ k))) j = (x &&& (18446744073709551615 - 2 ^ k)).testBit (j % 64) := by
        unfold bitOf; rw [q]; simp [hv]
      rw [h1, h2, testBit_clear x k _ c1 (by omega)]
      congr 1
      rw [decide_eq_decide]
      omega
    · have h2 : bitOf (ws.set v (x &&& (18446744073709551615 - 2 ^ k))) j = bitOf ws j := by
        unfold bitOf; simp [List.getElem?_set_ne (Ne.symm q)]
      rw [h2, decide_eq_true (by omega : j ≠ 64 * v + k), Bool.and_true]

end Go.Proofs.YtlbnilhbfiidmaaDoor
