/- Comparisons of fractions. -/
import Derived.Test.YtlipjgpfhmkdhaaDoorR14
namespace Go.Proofs.YtlipjgpfhmkdhaaDoor
open Go.RowKit Go.Hw
set_option linter.unusedVariables false
set_option linter.unusedSimpArgs false

theorem cmp_cases (x y : Int) : (x < y ∧ Lib.compareInt x y = -1) ∨ (x = y ∧ Lib.compareInt x y = 0) ∨ (y < x ∧ Lib.compareInt x y = 1) := by
  rw [cmpI_of]
  by_cases h1 : x < y
  · exact .inl ⟨h1, if_pos h1⟩
  · by_cases h2 : y < x
    · exact .inr (.inr ⟨h2, by rw [if_neg h1, if_pos h2]⟩)
    · exact .inr (.inl ⟨by omega, by rw [if_neg h1, if_neg h2]⟩)
theorem cmp_swap (x y : Int) : Lib.compareInt y x = -(Lib.compareInt x y) := by
  rcases cmp_cases x y with ⟨h, e⟩ | ⟨h, e⟩ | ⟨h, e⟩ <;> rcases cmp_cases y x with ⟨h', e'⟩ | ⟨h', e'⟩ | ⟨h', e'⟩ <;> rw [e, e'] <;> omega
theorem cmp_scale {x y u v p q : Int} (hp : 0 < p) (hq : 0 < q) (h : (x - y) * p = (u - v) * q) : Lib.compareInt x y = Lib.compareInt u v := by
  rcases cmp_cases x y with ⟨h1, e⟩ | ⟨h1, e⟩ | ⟨h1, e⟩ <;> rcases cmp_cases u v with ⟨h2, e'⟩ | ⟨h2, e'⟩ | ⟨h2, e'⟩ <;> rw [e, e'] <;> exfalso
  · have a1 : (x - y) * p < 0 := Int.mul_neg_of_neg_of_pos (by omega) hp
    have a2 : (u - v) = 0 := by omega
    rw [h, a2] at a1; omega
  · have a1 : (x - y) * p < 0 := Int.mul_neg_of_neg_of_pos (by omega) hp
    have a2 : 0 < (u - v) * q := Int.mul_pos (by omega) hq
    omega
  · have a1 : (u - v) * q < 0 := Int.mul_neg_of_neg_of_pos (by omega) hq
    have a2 : (x - y) = 0 := by omega
    rw [← h, a2] at a1; omega
  · have a1 : 0 < (u - v) * q := Int.mul_pos (by omega) hq
    have a2 : (x - y) = 0 := by omega
    rw [← h, a2] at a1; omega
  · have a1 : 0 < (x - y) * p := Int.mul_pos (by omega) hp
    have a2 : (u - v) * q < 0 := Int.mul_neg_of_neg_of_pos (by omega) hq
    omega
  · have a1 : 0 < (x - y) * p := Int.mul_pos (by omega) hp
    have a2 : (u - v) = 0 := by omega
    rw [h, a2] at a1; omega
theorem low_uniq {a b c d : Int} (h1 : vfB a b = true) (h2 : vfB c d = true) (h : a * d = c * b) : a = c ∧ b = d := by
  obtain ⟨⟨b1, _⟩, g1⟩ := (vfB_iff a b).1 h1
  obtain ⟨⟨d1, _⟩, g2⟩ := (vfB_iff c d).1 h2
  have hn : a.natAbs * d.natAbs = c.natAbs * b.natAbs := by rw [← Int.natAbs_mul, ← Int.natAbs_mul, h]
  have k1 : b.natAbs ∣ d.natAbs := by
    have hc : Nat.Coprime b.natAbs a.natAbs := by rw [Nat.coprime_comm]; exact g1
    exact hc.dvd_of_dvd_mul_left (by rw [hn]; exact Nat.dvd_mul_left _ _)
  have k2 : d.natAbs ∣ b.natAbs := by
    have hc : Nat.Coprime d.natAbs c.natAbs := by rw [Nat.coprime_comm]; exact g2
    exact hc.dvd_of_dvd_mul_left (by rw [← hn]; exact Nat.dvd_mul_left _ _)
  have hbd : b = d := by have := Nat.dvd_antisymm k1 k2; omega
  subst hbd
  exact ⟨Int.eq_of_mul_eq_mul_right (by omega) h, rfl⟩
theorem cmp_trans {a b c d e f : Int} (hb : 0 < b) (hd : 0 < d) (hf : 0 < f) (h1 : a * d ≤ c * b) (h2 : c * f ≤ e * d) : a * f ≤ e * b ∧ (a * f = e * b → a * d = c * b ∧ c * f = e * d) := by
  have k1 : a * d * f ≤ c * b * f := Int.mul_le_mul_of_nonneg_right h1 (by omega)
  have k2 : c * f * b ≤ e * d * b := Int.mul_le_mul_of_nonneg_right h2 (by omega)
  have e1 : c * b * f = c * f * b := by rw [Int.mul_assoc, Int.mul_comm b f, ← Int.mul_assoc]
  have e2 : a * d * f = a * f * d := by rw [Int.mul_assoc, Int.mul_comm d f, ← Int.mul_assoc]
  have e3 : e * d * b = e * b * d := by rw [Int.mul_assoc, Int.mul_comm d b, ← Int.mul_assoc]
  rw [e1] at k1; rw [e2] at k1; rw [e3] at k2
  refine ⟨Int.le_of_mul_le_mul_right (by omega) hd, fun h => ?_⟩
  rw [h] at k1
  have m1 : e * b * d = c * f * b := by omega
  refine ⟨Int.eq_of_mul_eq_mul_right (a := f) (by omega) ?_, Int.eq_of_mul_eq_mul_right (a := b) (by omega) ?_⟩
  · rw [e2, h, e1]; exact m1
  · rw [e3]; exact m1.symm
theorem mk_cross {n d : Int} (h : mkE n d = 0) : mkN n d * d = n * mkD n d := by
  by_cases hd : d = 0
  · simp [mkE, hd] at h
  · by_cases hb : bigB n d = true
    · simp [mkE, hd, hb] at h
    · have hb' : bigB n d = false := by simpa using hb
      simp only [mkN, mkD, hd, hb', if_false, Bool.false_eq_true]
      exact cross n d
theorem cmp_add {a b c d e f : Int} (hb : 0 < b) (hd : 0 < d) (hf : 0 < f) (hE1 : mkE (a * f + e * b) (b * f) = 0) (hE2 : mkE (c * f + e * d) (d * f) = 0) :
    Lib.compareInt (mkN (a * f + e * b) (b * f) * mkD (c * f + e * d) (d * f)) (mkN (c * f + e * d) (d * f) * mkD (a * f + e * b) (b * f)) = Lib.compareInt (a * d) (c * b) := by
  have hbf : 0 < b * f := Int.mul_pos hb hf
  have hdf : 0 < d * f := Int.mul_pos hd hf
  have v1 := mk_valid hE1
  have v2 := mk_valid hE2
  have w1 := (vf_bd v1).2.1.1
  have w2 := (vf_bd v2).2.1.1
  have c1 := mk_cross hE1
  have c2 := mk_cross hE2
  generalize mkN (a * f + e * b) (b * f) = N1 at *
  generalize mkD (a * f + e * b) (b * f) = D1 at *
  generalize mkN (c * f + e * d) (d * f) = N2 at *
  generalize mkD (c * f + e * d) (d * f) = D2 at *
  refine cmp_scale (p := (b * f) * (d * f)) (q := D1 * D2 * (f * f)) (Int.mul_pos hbf hdf) (Int.mul_pos (Int.mul_pos (by omega) (by omega)) (Int.mul_pos hf hf)) ?_
  have r1 : N1 * D2 * (b * f * (d * f)) = (a * f + e * b) * D1 * (D2 * (d * f)) := by rw [← c1]; grind
  have r2 : N2 * D1 * (b * f * (d * f)) = (c * f + e * d) * D2 * (D1 * (b * f)) := by rw [← c2]; grind
  rw [Int.sub_mul, r1, r2]
  grind

end Go.Proofs.YtlipjgpfhmkdhaaDoor
