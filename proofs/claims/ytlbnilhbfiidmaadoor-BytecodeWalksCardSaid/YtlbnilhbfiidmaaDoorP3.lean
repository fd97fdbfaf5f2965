/- Sets of numbers as bits. -/
import Derived.Test.YtlbnilhbfiidmaaDoorL6
import Derived.Test.YtlbnilhbfiidmaaDoorShelf
import Derived.IntWalk
import Derived.Lib.TrailingZeros
namespace Go.Proofs.YtlbnilhbfiidmaaDoor
open Go.RowKit Go.Hw
set_option linter.unusedVariables false
set_option linter.unusedSimpArgs false

def words (ws : List Nat) : List Value := ws.map fun n => Value.int .u64 (n : Nat)
theorem words_get (ws : List Nat) (j : Nat) (h : j < ws.length) : (words ws)[j]? = some (.int .u64 (ws.getD j 0 : Nat)) := by simp [words, h]
theorem words_len (ws : List Nat) : (words ws).length = ws.length := by simp [words]
theorem words_set (ws : List Nat) (j v : Nat) : (words ws).set j (.int .u64 (v : Nat)) = words (ws.set j v) := by simp [words, List.map_set]
def bitOf (ws : List Nat) (i : Nat) : Bool := (ws.getD (i / 64) 0).testBit (i % 64)
theorem wrap_u64q (n : Int) : IntKind.u64.wrap n = n % 18446744073709551616 := by simp [IntKind.wrap, IntKind.bits, IntKind.signed]
theorem ofInt_nat (x : Nat) : BitVec.ofInt 64 (x : Int) = BitVec.ofNat 64 x := BitVec.ofInt_natCast _ _
theorem pow_wrap (k : Nat) (hk : k < 64) : IntKind.u64.wrap ((2 : Int) ^ k) = ((2 ^ k : Nat) : Int) := by
  rw [wrap_u64q]
  have h1 : (2 : Nat) ^ k < 2 ^ 64 := Nat.pow_lt_pow_right (by decide) hk
  have h2 : ((2 : Int) ^ k) = ((2 ^ k : Nat) : Int) := by rw [Int.natCast_pow]; rfl
  rw [h2]
  have h3 : (2 : Nat) ^ k < 18446744073709551616 := h1
  generalize (2 : Nat) ^ k = P at *
  exact Int.emod_eq_of_lt (by omega) (by omega)
theorem or_u64 (x y : Nat) (hx : x < 18446744073709551616) (hy : y < 18446744073709551616) : bits .or .u64 (x : Int) (y : Int) = ((x ||| y : Nat) : Int) := by
  show IntKind.u64.wrap ((BitVec.ofInt 64 (x : Int) ||| BitVec.ofInt 64 (y : Int)).toNat : Int) = _
  rw [ofInt_nat, ofInt_nat, BitVec.toNat_or, BitVec.toNat_ofNat, BitVec.toNat_ofNat, Nat.mod_eq_of_lt (by omega : x < 2 ^ 64), Nat.mod_eq_of_lt (by omega : y < 2 ^ 64), wrap_u64q]
  have h : x ||| y < 2 ^ 64 := Nat.or_lt_two_pow (by omega) (by omega)
  omega
theorem bit_set (ws : List Nat) (i j v : Nat) (hi : i / 64 < ws.length) : bitOf (ws.set (i / 64) v) j = if j / 64 = i / 64 then v.testBit (j % 64) else bitOf ws j := by
  unfold bitOf
  by_cases e : j / 64 = i / 64
  · rw [if_pos e, e]; simp [hi]
  · rw [if_neg e]
    simp [List.getElem?_set_ne (Ne.symm e)]
theorem bit_add (ws : List Nat) (i j : Nat) (hi : i / 64 < ws.length) : bitOf (ws.set (i / 64) (ws.getD (i / 64) 0 ||| 2 ^ (i % 64))) j = (decide (j = i) || bitOf ws j) := by
  rw [bit_set _ _ _ _ hi]
  by_cases e : j / 64 = i / 64
  · rw [if_pos e, Nat.testBit_or, Nat.testBit_two_pow]
    have h1 : bitOf ws j = (ws.getD (i / 64) 0).testBit (j % 64) := by unfold bitOf; rw [e]
    rw [h1, Bool.or_comm]
    congr 1
    rw [decide_eq_decide]
    omega
  · rw [if_neg e, decide_eq_false (by intro q; subst q; exact e rfl), Bool.false_or]
def U64s (ws : List Nat) : Prop := ∀ j, ws.getD j 0 < 18446744073709551616
theorem u64s_set {ws : List Nat} (h : U64s ws) (k v : Nat) (hv : v < 18446744073709551616) : U64s (ws.set k v) := by
  intro j
  by_cases e : j = k
  · subst e
    by_cases hl : j < ws.length
    · simp [hl]; exact hv
    · simp [List.getElem?_eq_none (by simpa using hl : (ws.set j v).length ≤ j)]
  · have := h j
    simpa [List.getElem?_set_ne (Ne.symm e)] using this

end Go.Proofs.YtlbnilhbfiidmaaDoor
