/- Fractions in lowest terms. -/
import Derived.Below
namespace Go.Proofs.YtlipjgpfhmkdhaaDoor
open Go
set_option linter.unusedVariables false
set_option linter.unusedSimpArgs false

/-! ### the fraction of two numbers -/
def gg (num den : Int) : Nat := Nat.gcd num.natAbs den.natAbs
def aN (num den : Int) : Nat := num.natAbs / gg num den
def aD (num den : Int) : Nat := den.natAbs / gg num den
def negB (num den : Int) : Bool := decide (num < 0) != decide (den < 0)
def qN (num den : Int) : Int := if negB num den then -(aN num den : Int) else aN num den
def bigB (num den : Int) : Bool := decide (1073741824 < aN num den) || decide (1073741824 < aD num den)
def mkE (num den : Int) : Int := if den = 0 then 18 else if bigB num den then 5 else 0
def mkN (num den : Int) : Int := if den = 0 then 0 else if bigB num den then 0 else qN num den
def mkD (num den : Int) : Int := if den = 0 then 0 else if bigB num den then 0 else aD num den
def vfB (n d : Int) : Bool := decide (1 ≤ d ∧ d ≤ 1073741824 ∧ -1073741824 ≤ n ∧ n ≤ 1073741824) && decide (Nat.gcd n.natAbs d.natAbs = 1)
theorem gg_pos {num den : Int} (h : den ≠ 0) : 0 < gg num den := Nat.gcd_pos_of_pos_right _ (by omega)
theorem aN_mul (num den : Int) : aN num den * gg num den = num.natAbs := Nat.div_mul_cancel (Nat.gcd_dvd_left _ _)
theorem aD_mul (num den : Int) : aD num den * gg num den = den.natAbs := Nat.div_mul_cancel (Nat.gcd_dvd_right _ _)
theorem aD_pos {num den : Int} (h : den ≠ 0) : 0 < aD num den := by
  have h1 := aD_mul num den
  rcases Nat.eq_zero_or_pos (aD num den) with h2 | h2
  · rw [h2, Nat.zero_mul] at h1; omega
  · exact h2
theorem aN_le (num den : Int) : aN num den ≤ num.natAbs := Nat.div_le_self _ _
theorem aD_le (num den : Int) : aD num den ≤ den.natAbs := Nat.div_le_self _ _
theorem cop {num den : Int} (h : den ≠ 0) : Nat.gcd (aN num den) (aD num den) = 1 := Nat.coprime_div_gcd_div_gcd (gg_pos h)
theorem qN_abs (num den : Int) : (qN num den).natAbs = aN num den := by unfold qN; split <;> omega
theorem cross (num den : Int) : qN num den * den = num * aD num den := by
  have h1 := aN_mul num den
  have h2 := aD_mul num den
  have e1 : num = (aN num den : Int) * gg num den ∨ num = -((aN num den : Int) * gg num den) := by
    have : ((aN num den * gg num den : Nat) : Int) = num.natAbs := by rw [h1]
    rw [Int.natCast_mul] at this; omega
  have e2 : den = (aD num den : Int) * gg num den ∨ den = -((aD num den : Int) * gg num den) := by
    have : ((aD num den * gg num den : Nat) : Int) = den.natAbs := by rw [h2]
    rw [Int.natCast_mul] at this; omega
  have ha : (0 : Int) ≤ (aN num den : Int) * gg num den := Int.mul_nonneg (by omega) (by omega)
  have hd : (0 : Int) ≤ (aD num den : Int) * gg num den := Int.mul_nonneg (by omega) (by omega)
  unfold qN negB
  clear h1 h2
  generalize (aN num den : Int) = a at *
  generalize (aD num den : Int) = b at *
  generalize (gg num den : Int) = g at *
  by_cases hn : num < 0
  · by_cases hd : den < 0
    · have e1 : num = -(a * g) := by omega
      have e2 : den = -(b * g) := by omega
      simp only [hn, hd, decide_true, bne_self_eq_false, Bool.false_eq_true, if_false]
      rw [e1, e2]; grind
    · have e1 : num = -(a * g) := by omega
      have e2 : den = b * g := by omega
      simp only [hn, hd, decide_true, decide_false, Bool.true_bne, Bool.not_false, if_true]
      rw [e1, e2]; grind
  · by_cases hd : den < 0
    · have e1 : num = a * g := by omega
      have e2 : den = -(b * g) := by omega
      simp only [hn, hd, decide_true, decide_false, Bool.false_bne, if_true]
      rw [e1, e2]; grind
    · have e1 : num = a * g := by omega
      have e2 : den = b * g := by omega
      simp only [hn, hd, decide_false, bne_self_eq_false, Bool.false_eq_true, if_false]
      rw [e1, e2]; grind
theorem vfB_iff (n d : Int) : vfB n d = true ↔ (1 ≤ d ∧ d ≤ 1073741824 ∧ -1073741824 ≤ n ∧ n ≤ 1073741824) ∧ Nat.gcd n.natAbs d.natAbs = 1 := by
  unfold vfB
  simp only [Bool.and_eq_true, decide_eq_true_eq]

end Go.Proofs.YtlipjgpfhmkdhaaDoor
