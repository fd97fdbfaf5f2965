/- Fractions as rational numbers. -/
import Derived.Test.YtlipjgpfhmkdhaaDoorP2
namespace Go.Proofs.YtlipjgpfhmkdhaaDoor
open Go.RowKit Go.Hw
set_option linter.unusedVariables false
set_option linter.unusedSimpArgs false

noncomputable def val (n d : Int) : Rat := (n : Rat) / (d : Rat)
theorem rc {d : Int} (h : d ≠ 0) : (d : Rat) ≠ 0 := fun e => h (by exact_mod_cast e)
theorem val_iff {a b c d : Int} (hb : b ≠ 0) (hd : d ≠ 0) : val a b = val c d ↔ a * d = c * b := by
  have h1 := rc hb
  have h2 := rc hd
  unfold val
  constructor
  · intro h
    have : (a : Rat) * (d : Rat) = (c : Rat) * (b : Rat) := by grind
    exact_mod_cast this
  · intro h
    have : (a : Rat) * (d : Rat) = (c : Rat) * (b : Rat) := by exact_mod_cast h
    grind
theorem val_add {a b c d : Int} (hb : b ≠ 0) (hd : d ≠ 0) : val (a * d + c * b) (b * d) = val a b + val c d := by
  have h1 := rc hb
  have h2 := rc hd
  unfold val
  simp only [Rat.intCast_add, Rat.intCast_mul]
  grind
theorem val_sub {a b c d : Int} (hb : b ≠ 0) (hd : d ≠ 0) : val (a * d - c * b) (b * d) = val a b - val c d := by
  have h1 := rc hb
  have h2 := rc hd
  unfold val
  simp only [Rat.intCast_sub, Rat.intCast_mul]
  grind
theorem val_mul {a b c d : Int} (hb : b ≠ 0) (hd : d ≠ 0) : val (a * c) (b * d) = val a b * val c d := by
  have h1 := rc hb
  have h2 := rc hd
  unfold val
  simp only [Rat.intCast_mul]
  grind
theorem val_div {a b c d : Int} (hb : b ≠ 0) (hc : c ≠ 0) (hd : d ≠ 0) : val (a * d) (b * c) = val a b / val c d := by
  have h1 := rc hb
  have h2 := rc hd
  have h3 := rc hc
  unfold val
  simp only [Rat.intCast_mul]
  grind
theorem low0 {a b c d : Int} (hb : 1 ≤ b) (hd : 1 ≤ d) (g1 : Nat.gcd a.natAbs b.natAbs = 1) (g2 : Nat.gcd c.natAbs d.natAbs = 1) (h : a * d = c * b) : a = c ∧ b = d := by
  have hn : a.natAbs * d.natAbs = c.natAbs * b.natAbs := by rw [← Int.natAbs_mul, ← Int.natAbs_mul, h]
  have k1 : b.natAbs ∣ d.natAbs := by
    have hc : Nat.Coprime b.natAbs a.natAbs := by rw [Nat.coprime_comm]; exact g1
    exact hc.dvd_of_dvd_mul_left (by rw [hn]; exact Nat.dvd_mul_left _ _)
  have k2 : d.natAbs ∣ b.natAbs := by
    have hc : Nat.Coprime d.natAbs c.natAbs := by rw [Nat.coprime_comm]; exact g2
    exact hc.dvd_of_dvd_mul_left (by rw [← hn]; exact Nat.dvd_mul_left _ _)
  have hbd : b = d := by have := Nat.dvd_antisymm k1 k2; omega
  subst hbd
  exact ⟨Int.eq_of_mul_eq_mul_right (by omega) h, rfl⟩
theorem mkE_den {n d : Int} (h : mkE n d = 0) : d ≠ 0 := fun hd => by simp [mkE, hd] at h
theorem mkD_pos {n d : Int} (h : mkE n d = 0) : 1 ≤ mkD n d := (vf_bd (mk_valid h)).2.1.1
theorem mkD_ne {n d : Int} (h : mkE n d = 0) : mkD n d ≠ 0 := by have := mkD_pos h; omega
theorem val_mk {n d : Int} (h : mkE n d = 0) : val (mkN n d) (mkD n d) = val n d :=
  (val_iff (mkD_ne h) (mkE_den h)).2 (mk_cross h)
theorem val_uniq {a b c d : Int} (h1 : vfB a b = true) (h2 : vfB c d = true) (h : val a b = val c d) : a = c ∧ b = d := by
  have b1 := (vf_bd h1).2.1.1
  have d1 := (vf_bd h2).2.1.1
  exact low_uniq h1 h2 ((val_iff (by omega) (by omega)).1 h)
theorem mk_val {n m a b : Int} (hm : m ≠ 0) (hv : vfB a b = true) (h : val n m = val a b) : mkN n m = a ∧ mkD n m = b ∧ mkE n m = 0 := by
  obtain ⟨⟨b1, b2, a1, a2⟩, g⟩ := (vfB_iff a b).1 hv
  have hp := aD_pos (num := n) hm
  have hc := cop (num := n) hm
  have hq := qN_abs n m
  have e1 : val (qN n m) (aD n m) = val n m := (val_iff (by omega) hm).2 (cross n m)
  have e2 := (val_iff (by omega) (by omega)).1 (e1.trans h)
  obtain ⟨e3, e4⟩ := low0 (a := qN n m) (b := (aD n m : Int)) (c := a) (d := b) (by omega) b1 (by rw [hq]; simpa using hc) g e2
  have hb : bigB n m = false := by
    unfold bigB
    rw [Bool.or_eq_false_iff]
    exact ⟨decide_eq_false (by omega), decide_eq_false (by omega)⟩
  simp only [mkN, mkD, mkE, hm, hb, if_false, Bool.false_eq_true]
  exact ⟨e3, e4, trivial⟩
/-- the results of Add and Mul, of whatever fractions. -/
def okB (a b c d : Int) : Bool := vfB a b && vfB c d
theorem add_assoc' {a b c d e f : Int} (hb : b ≠ 0) (hd : d ≠ 0) (hf : f ≠ 0) (hx : mkE (a * d + c * b) (b * d) = 0) (hm : mkE (c * f + e * d) (d * f) = 0)
    (hl : mkE (mkN (a * d + c * b) (b * d) * f + e * mkD (a * d + c * b) (b * d)) (mkD (a * d + c * b) (b * d) * f) = 0)
    (hr : mkE (a * mkD (c * f + e * d) (d * f) + mkN (c * f + e * d) (d * f) * b) (b * mkD (c * f + e * d) (d * f)) = 0) :
    mkN (mkN (a * d + c * b) (b * d) * f + e * mkD (a * d + c * b) (b * d)) (mkD (a * d + c * b) (b * d) * f) = mkN (a * mkD (c * f + e * d) (d * f) + mkN (c * f + e * d) (d * f) * b) (b * mkD (c * f + e * d) (d * f)) ∧
    mkD (mkN (a * d + c * b) (b * d) * f + e * mkD (a * d + c * b) (b * d)) (mkD (a * d + c * b) (b * d) * f) = mkD (a * mkD (c * f + e * d) (d * f) + mkN (c * f + e * d) (d * f) * b) (b * mkD (c * f + e * d) (d * f)) := by
  refine val_uniq (mk_valid hl) (mk_valid hr) ?_
  rw [val_mk hl, val_mk hr, val_add (mkD_ne hx) hf, val_add hb (mkD_ne hm), val_mk hx, val_mk hm, val_add hb hd, val_add hd hf]
  exact Rat.add_assoc _ _ _
theorem mul_assoc' {a b c d e f : Int} (hb : b ≠ 0) (hd : d ≠ 0) (hf : f ≠ 0) (hx : mkE (a * c) (b * d) = 0) (hm : mkE (c * e) (d * f) = 0)
    (hl : mkE (mkN (a * c) (b * d) * e) (mkD (a * c) (b * d) * f) = 0) (hr : mkE (a * mkN (c * e) (d * f)) (b * mkD (c * e) (d * f)) = 0) :
    mkN (mkN (a * c) (b * d) * e) (mkD (a * c) (b * d) * f) = mkN (a * mkN (c * e) (d * f)) (b * mkD (c * e) (d * f)) ∧
    mkD (mkN (a * c) (b * d) * e) (mkD (a * c) (b * d) * f) = mkD (a * mkN (c * e) (d * f)) (b * mkD (c * e) (d * f)) := by
  refine val_uniq (mk_valid hl) (mk_valid hr) ?_
  rw [val_mk hl, val_mk hr, val_mul (mkD_ne hx) hf, val_mul hb (mkD_ne hm), val_mk hx, val_mk hm, val_mul hb hd, val_mul hd hf]
  exact Rat.mul_assoc _ _ _
theorem distrib' {a b c d e f : Int} (hb : b ≠ 0) (hd : d ≠ 0) (hf : f ≠ 0) (hs : mkE (c * f + e * d) (d * f) = 0) (hx : mkE (a * c) (b * d) = 0) (hy : mkE (a * e) (b * f) = 0)
    (hl : mkE (a * mkN (c * f + e * d) (d * f)) (b * mkD (c * f + e * d) (d * f)) = 0)
    (hr : mkE (mkN (a * c) (b * d) * mkD (a * e) (b * f) + mkN (a * e) (b * f) * mkD (a * c) (b * d)) (mkD (a * c) (b * d) * mkD (a * e) (b * f)) = 0) :
    mkN (a * mkN (c * f + e * d) (d * f)) (b * mkD (c * f + e * d) (d * f)) = mkN (mkN (a * c) (b * d) * mkD (a * e) (b * f) + mkN (a * e) (b * f) * mkD (a * c) (b * d)) (mkD (a * c) (b * d) * mkD (a * e) (b * f)) ∧
    mkD (a * mkN (c * f + e * d) (d * f)) (b * mkD (c * f + e * d) (d * f)) = mkD (mkN (a * c) (b * d) * mkD (a * e) (b * f) + mkN (a * e) (b * f) * mkD (a * c) (b * d)) (mkD (a * c) (b * d) * mkD (a * e) (b * f)) := by
  refine val_uniq (mk_valid hl) (mk_valid hr) ?_
  rw [val_mk hl, val_mk hr, val_mul hb (mkD_ne hs), val_add (mkD_ne hx) (mkD_ne hy), val_mk hs, val_mk hx, val_mk hy, val_add hd hf, val_mul hb hd, val_mul hb hf]
  exact Rat.mul_add _ _ _
theorem sub_add' {a b c d : Int} (hv : vfB a b = true) (hd : d ≠ 0) (hx : mkE (a * d - c * b) (b * d) = 0) :
    mkN (mkN (a * d - c * b) (b * d) * d + c * mkD (a * d - c * b) (b * d)) (mkD (a * d - c * b) (b * d) * d) = a ∧ mkD (mkN (a * d - c * b) (b * d) * d + c * mkD (a * d - c * b) (b * d)) (mkD (a * d - c * b) (b * d) * d) = b ∧ mkE (mkN (a * d - c * b) (b * d) * d + c * mkD (a * d - c * b) (b * d)) (mkD (a * d - c * b) (b * d) * d) = 0 := by
  have hb : b ≠ 0 := by have := (vf_bd hv).2.1.1; omega
  refine mk_val (Int.mul_ne_zero (mkD_ne hx) hd) hv ?_
  rw [val_add (mkD_ne hx) hd, val_mk hx, val_sub hb hd]
  grind
theorem div_mul' {a b c d : Int} (hv : vfB a b = true) (hd : d ≠ 0) (hc : c ≠ 0) (hx : mkE (a * d) (b * c) = 0) :
    mkN (mkN (a * d) (b * c) * c) (mkD (a * d) (b * c) * d) = a ∧ mkD (mkN (a * d) (b * c) * c) (mkD (a * d) (b * c) * d) = b ∧ mkE (mkN (a * d) (b * c) * c) (mkD (a * d) (b * c) * d) = 0 := by
  have hb : b ≠ 0 := by have := (vf_bd hv).2.1.1; omega
  refine mk_val (Int.mul_ne_zero (mkD_ne hx) hd) hv ?_
  rw [val_mul (mkD_ne hx) hd, val_mk hx, val_div hb hc hd]
  have h1 := rc hc
  have h2 := rc hd
  unfold val
  grind

end Go.Proofs.YtlipjgpfhmkdhaaDoor
