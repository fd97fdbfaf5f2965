/- The law Order. -/
import Derived.Test.YtlipjgpfhmkdhaaDoorR20
import Derived.Test.YtlipjgpfhmkdhaaDoorR21
import Derived.Test.YtlipjgpfhmkdhaaDoorR22
import Derived.Test.YtlipjgpfhmkdhaaDoorR23
namespace Go.Proofs.YtlipjgpfhmkdhaaDoor
open Go.RowKit Go.Hw
set_option linter.unusedVariables false
set_option linter.unusedSimpArgs false

theorem ord_l {a b c d e f : Int} (hb : 0 < b) (hd : 0 < d) (hf : 0 < f) :
    (decide ((Lib.compareInt (a * d) (c * b)) ≤ 0) = false) ∨ (decide ((Lib.compareInt (a * d) (c * b)) ≤ 0) = true ∧ decide ((Lib.compareInt (c * f) (e * d)) ≤ 0) = false) ∨
    (decide ((Lib.compareInt (a * d) (c * b)) ≤ 0) = true ∧ decide ((Lib.compareInt (c * f) (e * d)) ≤ 0) = true ∧ decide (0 < (Lib.compareInt (a * f) (e * b))) = false ∧ ((Lib.compareInt (a * f) (e * b)) == 0) = false) ∨
    (decide ((Lib.compareInt (a * d) (c * b)) ≤ 0) = true ∧ decide ((Lib.compareInt (c * f) (e * d)) ≤ 0) = true ∧ decide (0 < (Lib.compareInt (a * f) (e * b))) = false ∧ ((Lib.compareInt (a * f) (e * b)) == 0) = true ∧ decide ((Lib.compareInt (a * d) (c * b)) < 0) = false ∧ decide ((Lib.compareInt (c * f) (e * d)) < 0) = false) := by
  have T := fun h1 h2 => cmp_trans (a := a) (b := b) (c := c) (d := d) (e := e) (f := f) hb hd hf h1 h2
  rcases cmp_cases (a * d) (c * b) with ⟨q1, p1⟩ | ⟨q1, p1⟩ | ⟨q1, p1⟩ <;> rcases cmp_cases (c * f) (e * d) with ⟨q2, p2⟩ | ⟨q2, p2⟩ | ⟨q2, p2⟩ <;> rw [p1, p2]
  · obtain ⟨t1, t2⟩ := T (by omega) (by omega)
    rcases cmp_cases (a * f) (e * b) with ⟨q3, p3⟩ | ⟨q3, p3⟩ | ⟨q3, p3⟩ <;> rw [p3]
    · exact .inr (.inr (.inl ⟨rfl, rfl, rfl, rfl⟩))
    · have := t2 q3; omega
    · omega
  · obtain ⟨t1, t2⟩ := T (by omega) (by omega)
    rcases cmp_cases (a * f) (e * b) with ⟨q3, p3⟩ | ⟨q3, p3⟩ | ⟨q3, p3⟩ <;> rw [p3]
    · exact .inr (.inr (.inl ⟨rfl, rfl, rfl, rfl⟩))
    · have := t2 q3; omega
    · omega
  · exact .inr (.inl ⟨rfl, rfl⟩)
  · obtain ⟨t1, t2⟩ := T (by omega) (by omega)
    rcases cmp_cases (a * f) (e * b) with ⟨q3, p3⟩ | ⟨q3, p3⟩ | ⟨q3, p3⟩ <;> rw [p3]
    · exact .inr (.inr (.inl ⟨rfl, rfl, rfl, rfl⟩))
    · have := t2 q3; omega
    · omega
  · obtain ⟨t1, t2⟩ := T (by omega) (by omega)
    rcases cmp_cases (a * f) (e * b) with ⟨q3, p3⟩ | ⟨q3, p3⟩ | ⟨q3, p3⟩ <;> rw [p3]
    · exact .inr (.inr (.inl ⟨rfl, rfl, rfl, rfl⟩))
    · exact .inr (.inr (.inr ⟨rfl, rfl, rfl, rfl, rfl, rfl⟩))
    · omega
  · exact .inr (.inl ⟨rfl, rfl⟩)
  · exact .inl rfl
  · exact .inl rfl
  · exact .inl rfl
theorem val_at {a b : Int} {r : Bool} (h : vfB a b = r) (W : World) : Calls Tryd.prog 16 #[.agg #[.int .i64 a, .int .i64 b]] W fun e w' => e = .returned (.bool r) ∧ Ext W w' := by
  have := rvalid_x a b W; rw [h] at this; exact this
theorem order_law (a b c d e f : Int) (w : World) (ha0 : -9223372036854775808 ≤ a) (ha1 : a ≤ 9223372036854775807) (hb0 : -9223372036854775808 ≤ b) (hb1 : b ≤ 9223372036854775807) (hc0 : -9223372036854775808 ≤ c) (hc1 : c ≤ 9223372036854775807) (hd0 : -9223372036854775808 ≤ d) (hd1 : d ≤ 9223372036854775807) (he0 : -9223372036854775808 ≤ e) (he1 : e ≤ 9223372036854775807) (hf0 : -9223372036854775808 ≤ f) (hf1 : f ≤ 9223372036854775807) (htab : Lib.TabIs Tryd.prog w "internal/strconv.uint64pow10" .u64 Lib.pow10Tab) : Calls Tryd.prog 10 #[.agg #[.int .i64 a, .int .i64 b], .agg #[.int .i64 c, .int .i64 d], .agg #[.int .i64 e, .int .i64 f]] w fun e w' => e = .returned (.bool true) ∧ Ext w w' := by
  cases h1 : vfB a b
  · exact ord_bad0 a b c d e f w htab (val_at h1)
  cases h2 : vfB c d
  · exact ord_bad1 a b c d e f w htab (val_at h1) (val_at h2)
  cases h3 : vfB e f
  · exact ord_bad2 a b c d e f w htab (val_at h1) (val_at h2) (val_at h3)
  obtain ⟨_, ⟨b1, _⟩, _⟩ := vf_bd h1
  obtain ⟨_, ⟨d1, _⟩, _⟩ := vf_bd h2
  obtain ⟨_, ⟨f1, _⟩, _⟩ := vf_bd h3
  have cA := val_at h1
  have cB := val_at h2
  have cC := val_at h3
  have cab := fun W => cmp_ok a b c d W ha0 ha1 hb0 hb1 hc0 hc1 hd0 hd1 ⟨h1, h2⟩
  have cba := fun W => cmp_ok c d a b W hc0 hc1 hd0 hd1 ha0 ha1 hb0 hb1 ⟨h2, h1⟩
  rw [cmp_swap] at cba
  have cbc := fun W => cmp_ok c d e f W hc0 hc1 hd0 hd1 he0 he1 hf0 hf1 ⟨h2, h3⟩
  have cac := fun W => cmp_ok a b e f W ha0 ha1 hb0 hb1 he0 he1 hf0 hf1 ⟨h1, h3⟩
  have cx := fun W => add_ok a b e f W ha0 ha1 hb0 hb1 he0 he1 hf0 hf1 ⟨h1, h3⟩
  have cy := fun W => add_ok c d e f W hc0 hc1 hd0 hd1 he0 he1 hf0 hf1 ⟨h2, h3⟩
  have HL := ord_l (a := a) (b := b) (c := c) (d := d) (e := e) (f := f) (by omega) (by omega) (by omega)
  have hab : -1 ≤ (Lib.compareInt (a * d) (c * b)) ∧ (Lib.compareInt (a * d) (c * b)) ≤ 1 := by
    rcases cmp_cases (a * d) (c * b) with ⟨q1, p1⟩ | ⟨q1, p1⟩ | ⟨q1, p1⟩ <;> rw [p1] <;> decide
  have zz : (a == c && b == d) = ((Lib.compareInt (a * d) (c * b)) == 0) := by
    by_cases hq : a * d = c * b
    · obtain ⟨rfl, rfl⟩ := low_uniq h1 h2 hq
      rcases cmp_cases (a * b) (a * b) with ⟨q1, p1⟩ | ⟨q1, p1⟩ | ⟨q1, p1⟩
      · omega
      · rw [p1]; simp
      · omega
    · have hn : (a == c && b == d) = false := by
        rw [Bool.and_eq_false_iff]
        by_cases hac : a = c
        · right
          refine beq_eq_false_iff_ne.2 fun hbd => hq ?_
          rw [hac, hbd]
        · left; exact beq_eq_false_iff_ne.2 hac
      rw [hn]
      rcases cmp_cases (a * d) (c * b) with ⟨q1, p1⟩ | ⟨q1, p1⟩ | ⟨q1, p1⟩
      · rw [p1]; rfl
      · exact absurd q1 hq
      · rw [p1]; rfl
  by_cases hE1 : mkE (a * f + e * b) (b * f) = 0
  · by_cases hE2 : mkE (c * f + e * d) (d * f) = 0
    · have v1 := mk_valid hE1
      have v2 := mk_valid hE2
      obtain ⟨⟨u1, u2⟩, ⟨u3, u4⟩, _⟩ := vf_bd v1
      obtain ⟨⟨u5, u6⟩, ⟨u7, u8⟩, _⟩ := vf_bd v2
      have cxy := fun W => cmp_ok (mkN (a * f + e * b) (b * f)) (mkD (a * f + e * b) (b * f)) (mkN (c * f + e * d) (d * f)) (mkD (c * f + e * d) (d * f)) W (by omega) (by omega) (by omega) (by omega) (by omega) (by omega) (by omega) (by omega) ⟨v1, v2⟩
      rw [cmp_add (by omega) (by omega) (by omega) hE1 hE2] at cxy
      rw [hE1] at cx
      rw [hE2] at cy
      rcases HL with l1 | ⟨l1, l2⟩ | ⟨l1, l2, l3, l4⟩ | ⟨l1, l2, l3, l4, l5, l6⟩
      · exact ord_L1A3 a b c d e f w htab (Lib.compareInt (a * d) (c * b)) (Lib.compareInt (c * f) (e * d)) (Lib.compareInt (a * f) (e * b)) (mkN (a * f + e * b) (b * f)) (mkD (a * f + e * b) (b * f)) 0 (mkN (c * f + e * d) (d * f)) (mkD (c * f + e * d) (d * f)) 0 cA cB cC cab cba cbc cac cx cy cxy hab _ rfl zz l1
      · exact ord_L2A3 a b c d e f w htab (Lib.compareInt (a * d) (c * b)) (Lib.compareInt (c * f) (e * d)) (Lib.compareInt (a * f) (e * b)) (mkN (a * f + e * b) (b * f)) (mkD (a * f + e * b) (b * f)) 0 (mkN (c * f + e * d) (d * f)) (mkD (c * f + e * d) (d * f)) 0 cA cB cC cab cba cbc cac cx cy cxy hab _ rfl zz l1 l2
      · exact ord_L3A3 a b c d e f w htab (Lib.compareInt (a * d) (c * b)) (Lib.compareInt (c * f) (e * d)) (Lib.compareInt (a * f) (e * b)) (mkN (a * f + e * b) (b * f)) (mkD (a * f + e * b) (b * f)) 0 (mkN (c * f + e * d) (d * f)) (mkD (c * f + e * d) (d * f)) 0 cA cB cC cab cba cbc cac cx cy cxy hab _ rfl zz l1 l2 l3 l4
      · exact ord_L4A3 a b c d e f w htab (Lib.compareInt (a * d) (c * b)) (Lib.compareInt (c * f) (e * d)) (Lib.compareInt (a * f) (e * b)) (mkN (a * f + e * b) (b * f)) (mkD (a * f + e * b) (b * f)) 0 (mkN (c * f + e * d) (d * f)) (mkD (c * f + e * d) (d * f)) 0 cA cB cC cab cba cbc cac cx cy cxy hab _ rfl zz l1 l2 l3 l4 l5 l6
    · rw [hE1] at cx
      rcases HL with l1 | ⟨l1, l2⟩ | ⟨l1, l2, l3, l4⟩ | ⟨l1, l2, l3, l4, l5, l6⟩
      · exact ord_L1A2 a b c d e f w htab (Lib.compareInt (a * d) (c * b)) (Lib.compareInt (c * f) (e * d)) (Lib.compareInt (a * f) (e * b)) (mkN (a * f + e * b) (b * f)) (mkD (a * f + e * b) (b * f)) 0 (mkN (c * f + e * d) (d * f)) (mkD (c * f + e * d) (d * f)) (mkE (c * f + e * d) (d * f)) cA cB cC cab cba cbc cac cx cy (bne_iff_ne.2 hE2) (beq_eq_false_iff_ne.2 hE2) hab _ rfl zz l1
      · exact ord_L2A2 a b c d e f w htab (Lib.compareInt (a * d) (c * b)) (Lib.compareInt (c * f) (e * d)) (Lib.compareInt (a * f) (e * b)) (mkN (a * f + e * b) (b * f)) (mkD (a * f + e * b) (b * f)) 0 (mkN (c * f + e * d) (d * f)) (mkD (c * f + e * d) (d * f)) (mkE (c * f + e * d) (d * f)) cA cB cC cab cba cbc cac cx cy (bne_iff_ne.2 hE2) (beq_eq_false_iff_ne.2 hE2) hab _ rfl zz l1 l2
      · exact ord_L3A2 a b c d e f w htab (Lib.compareInt (a * d) (c * b)) (Lib.compareInt (c * f) (e * d)) (Lib.compareInt (a * f) (e * b)) (mkN (a * f + e * b) (b * f)) (mkD (a * f + e * b) (b * f)) 0 (mkN (c * f + e * d) (d * f)) (mkD (c * f + e * d) (d * f)) (mkE (c * f + e * d) (d * f)) cA cB cC cab cba cbc cac cx cy (bne_iff_ne.2 hE2) (beq_eq_false_iff_ne.2 hE2) hab _ rfl zz l1 l2 l3 l4
      · exact ord_L4A2 a b c d e f w htab (Lib.compareInt (a * d) (c * b)) (Lib.compareInt (c * f) (e * d)) (Lib.compareInt (a * f) (e * b)) (mkN (a * f + e * b) (b * f)) (mkD (a * f + e * b) (b * f)) 0 (mkN (c * f + e * d) (d * f)) (mkD (c * f + e * d) (d * f)) (mkE (c * f + e * d) (d * f)) cA cB cC cab cba cbc cac cx cy (bne_iff_ne.2 hE2) (beq_eq_false_iff_ne.2 hE2) hab _ rfl zz l1 l2 l3 l4 l5 l6
  · skip
    rcases HL with l1 | ⟨l1, l2⟩ | ⟨l1, l2, l3, l4⟩ | ⟨l1, l2, l3, l4, l5, l6⟩
    · exact ord_L1A1 a b c d e f w htab (Lib.compareInt (a * d) (c * b)) (Lib.compareInt (c * f) (e * d)) (Lib.compareInt (a * f) (e * b)) (mkN (a * f + e * b) (b * f)) (mkD (a * f + e * b) (b * f)) (mkE (a * f + e * b) (b * f)) (mkN (c * f + e * d) (d * f)) (mkD (c * f + e * d) (d * f)) (mkE (c * f + e * d) (d * f)) cA cB cC cab cba cbc cac cx cy (bne_iff_ne.2 hE1) (beq_eq_false_iff_ne.2 hE1) hab _ rfl zz l1
    · exact ord_L2A1 a b c d e f w htab (Lib.compareInt (a * d) (c * b)) (Lib.compareInt (c * f) (e * d)) (Lib.compareInt (a * f) (e * b)) (mkN (a * f + e * b) (b * f)) (mkD (a * f + e * b) (b * f)) (mkE (a * f + e * b) (b * f)) (mkN (c * f + e * d) (d * f)) (mkD (c * f + e * d) (d * f)) (mkE (c * f + e * d) (d * f)) cA cB cC cab cba cbc cac cx cy (bne_iff_ne.2 hE1) (beq_eq_false_iff_ne.2 hE1) hab _ rfl zz l1 l2
    · exact ord_L3A1 a b c d e f w htab (Lib.compareInt (a * d) (c * b)) (Lib.compareInt (c * f) (e * d)) (Lib.compareInt (a * f) (e * b)) (mkN (a * f + e * b) (b * f)) (mkD (a * f + e * b) (b * f)) (mkE (a * f + e * b) (b * f)) (mkN (c * f + e * d) (d * f)) (mkD (c * f + e * d) (d * f)) (mkE (c * f + e * d) (d * f)) cA cB cC cab cba cbc cac cx cy (bne_iff_ne.2 hE1) (beq_eq_false_iff_ne.2 hE1) hab _ rfl zz l1 l2 l3 l4
    · exact ord_L4A1 a b c d e f w htab (Lib.compareInt (a * d) (c * b)) (Lib.compareInt (c * f) (e * d)) (Lib.compareInt (a * f) (e * b)) (mkN (a * f + e * b) (b * f)) (mkD (a * f + e * b) (b * f)) (mkE (a * f + e * b) (b * f)) (mkN (c * f + e * d) (d * f)) (mkD (c * f + e * d) (d * f)) (mkE (c * f + e * d) (d * f)) cA cB cC cab cba cbc cac cx cy (bne_iff_ne.2 hE1) (beq_eq_false_iff_ne.2 hE1) hab _ rfl zz l1 l2 l3 l4 l5 l6

end Go.Proofs.YtlipjgpfhmkdhaaDoor
