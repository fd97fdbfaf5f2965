/- What Atoi and Cut give of a written fraction. -/
import Derived.Test.YtlipjgpfhmkdhaaDoorP4
import Derived.Test.YtlipjgpfhmkdhaaDoorR12
import Derived.Lib.AtoiAllCases
import Derived.Lib.IndexMore
import Derived.Lib.IndexBytes
namespace Go.Proofs.YtlipjgpfhmkdhaaDoor
open Go.RowKit Go.Hw
set_option linter.unusedVariables false
set_option linter.unusedSimpArgs false

/-! ### what Atoi and Cut give of a written fraction -/
theorem parse_dig : ∀ (l : List UInt8) (acc : Nat), (∀ c ∈ l, isDig c = true) → valF l acc < 1844674407370955162 → Lib.parseUint10 acc l = .ok (valF l acc)
  | [], acc, _, _ => rfl
  | c :: t, acc, hd, hb => by
    have h1 : isDig c = true := hd c (by simp)
    have h2 : ∀ (l : List UInt8) (a : Nat), a ≤ valF l a := by
      intro l
      induction l with
      | nil => intro a; exact Nat.le_refl _
      | cons c t ih => intro a; exact Nat.le_trans (by omega) (ih (10 * a + (c.toNat - 48)))
    have e : valF (c :: t) acc = valF t (10 * acc + (c.toNat - 48)) := rfl
    have h3 := h2 t (10 * acc + (c.toNat - 48))
    rw [e] at hb ⊢
    have ih := parse_dig t (acc * 10 + (c.toNat - 48)) (fun x hx => hd x (by simp [hx])) (by rw [Nat.mul_comm acc 10]; exact hb)
    unfold Lib.parseUint10
    have h4 : 48 ≤ c.toNat ∧ c.toNat ≤ 57 := by simpa [isDig] using h1
    rw [if_pos h4, if_neg (by omega), if_neg (by omega), ih, Nat.mul_comm acc 10]
theorem mag_dec (m : Nat) (h : m ≤ 1073741824) : Lib.parseMag (Lib.decDigits m) = .ok m := by
  obtain ⟨d1, d2⟩ := decDigits_dig m
  obtain ⟨l1, _⟩ := decDigits_len m h
  unfold Lib.parseMag
  rw [if_neg (fun e => by rw [e] at l1; simp at l1), parse_dig _ _ d1 (by rw [d2]; omega), d2]
theorem atoi_itoa (n : Int) (h0 : -1073741824 ≤ n) (h1 : n ≤ 1073741824) : Lib.atoiAll (Lib.itoa n) = .ok n := by
  unfold Lib.itoa
  by_cases hn : n < 0
  · rw [if_pos hn]
    unfold Lib.atoiAll
    have e : (45 : UInt8).toNat = 45 := rfl
    have e3 : ¬ (9223372036854775808 < n.natAbs) := by omega
    simp only [e, e3, or_true, if_true, mag_dec n.natAbs (by omega), not_true_eq_false, false_and, if_false, true_and]
    congr 1; omega
  · rw [if_neg hn]
    obtain ⟨d1, _⟩ := decDigits_dig n.toNat
    have hm := mag_dec n.toNat (by omega)
    generalize Lib.decDigits n.toNat = l at d1 hm
    cases l with
    | nil => simp [Lib.parseMag] at hm
    | cons c r =>
      have h4 : 48 ≤ c.toNat ∧ c.toNat ≤ 57 := by simpa [isDig] using d1 c (by simp)
      unfold Lib.atoiAll
      have e1 : ¬ (c.toNat = 43) := by omega
      have e2 : ¬ (c.toNat = 45) := by omega
      have e3 : ¬ (9223372036854775808 ≤ n.toNat) := by omega
      simp only [e1, e2, e3, or_self, if_false, hm, false_and, not_false_eq_true, true_and, and_false]
      rw [Int.toNat_of_nonneg (by omega)]
theorem byte_none : ∀ (l : List UInt8), (47 : UInt8) ∉ l → Lib.indexByte l 47 = -1
  | [], _ => rfl
  | b :: l, h => by
    unfold Lib.indexByte
    rw [byte_none l (fun e => h (by simp [e]))]
    rw [if_neg (fun e => h (by simp [eq_of_beq e]))]
    rfl
theorem byte_at : ∀ (l r : List UInt8), (47 : UInt8) ∉ l → Lib.indexByte (l ++ 47 :: r) 47 = l.length
  | [], _, _ => rfl
  | b :: l, r, h => by
    show Lib.indexByte (b :: (l ++ 47 :: r)) 47 = _
    unfold Lib.indexByte
    rw [byte_at l r (fun e => h (by simp [e]))]
    rw [if_neg (fun e => h (by simp [eq_of_beq e])), if_neg (by simp)]
    simp
theorem cut_none (l : List UInt8) (h : (47 : UInt8) ∉ l) : Lib.cut l [47] = (l, [], false) := by
  unfold Lib.cut
  rw [Lib.index_one, byte_none l h]
  rfl
theorem cut_at (l r : List UInt8) (h : (47 : UInt8) ∉ l) : Lib.cut (l ++ 47 :: r) [47] = (l, r, true) := by
  unfold Lib.cut
  rw [Lib.index_one, byte_at l r h, if_pos (by omega)]
  simp
theorem itoa_no (n : Int) : (47 : UInt8) ∉ Lib.itoa n := by
  unfold Lib.itoa
  split
  · intro h
    rcases List.mem_cons.1 h with h | h
    · exact absurd h (by decide)
    · exact (dec_no _).1 h
  · exact (dec_no _).1
/-- A text is that of the fraction. -/
def Good (s : ByteArray) (n d : Int) : Prop := vfB n d = true ∧ textS n d = s
theorem text_list (n d : Int) : (textS n d).data.toList = Lib.itoa n ++ (if d = 1 then [] else 47 :: Lib.itoa d) := by
  unfold textS
  by_cases h : d = 1
  · simp [h, istr]
  · simp [h, istr, slash]

end Go.Proofs.YtlipjgpfhmkdhaaDoor
