/- Numerals read back. -/
import Derived.Test.YtlipjgpfhmkdhaaDoorR31
namespace Go.Proofs.YtlipjgpfhmkdhaaDoor
open Go.RowKit Go.Hw
set_option linter.unusedVariables false
set_option linter.unusedSimpArgs false

def valF (l : List UInt8) (n : Nat) : Nat := l.foldl (fun v c => 10 * v + (c.toNat - 48)) n
theorem digF_cons (f : Nat) (c : UInt8) (l : List UInt8) (n : Nat) : digF (f + 1) (c :: l) n = if isDig c then ((digF f l (10 * n + (c.toNat - 48))).1, (digF f l (10 * n + (c.toNat - 48))).2 + 1) else (n, 0) := rfl
theorem digF_app : ∀ (l rest : List UInt8) (f n : Nat), (∀ c ∈ l, isDig c = true) → l.length ≤ f →
    digF f (l ++ rest) n = ((digF (f - l.length) rest (valF l n)).1, (digF (f - l.length) rest (valF l n)).2 + l.length)
  | [], rest, f, n, _, _ => by simp [valF]
  | c :: t, rest, 0, n, _, h => by simp at h
  | c :: t, rest, f + 1, n, hd, h => by
    have h1 : isDig c = true := hd c (by simp)
    have ih := digF_app t rest f (10 * n + (c.toNat - 48)) (fun x hx => hd x (by simp [hx])) (by simpa using h)
    have e1 : digF (f + 1) (c :: t ++ rest) n = ((digF f (t ++ rest) (10 * n + (c.toNat - 48))).1, (digF f (t ++ rest) (10 * n + (c.toNat - 48))).2 + 1) := by
      show digF (f + 1) (c :: (t ++ rest)) n = _
      rw [digF_cons, if_pos h1]
    rw [e1, ih]
    have e2 : f + 1 - (c :: t).length = f - t.length := by simp
    rw [e2]
    rfl
theorem dg_toNat (k : Nat) (h : k ≤ 9) : (UInt8.ofNat (48 + k)).toNat = 48 + k := by
  simp
  omega
theorem decDigits_dig : ∀ (m : Nat), (∀ c ∈ Lib.decDigits m, isDig c = true) ∧ valF (Lib.decDigits m) 0 = m := by
  intro m
  induction m using Nat.strongRecOn with
  | _ m ih =>
    rw [Lib.decDigits]
    by_cases h : m < 10
    · rw [dif_pos h]
      have e := dg_toNat m (by omega)
      refine ⟨fun c hc => ?_, ?_⟩
      · rw [List.mem_singleton] at hc
        subst hc
        rw [isDig_of e]
        simp; omega
      · unfold valF
        rw [List.foldl_cons, List.foldl_nil, e]
        omega
    · rw [dif_neg h]
      obtain ⟨i1, i2⟩ := ih (m / 10) (by omega)
      have e := dg_toNat (m % 10) (by omega)
      refine ⟨fun c hc => ?_, ?_⟩
      · rw [List.mem_append, List.mem_singleton] at hc
        rcases hc with hc | hc
        · exact i1 c hc
        · subst hc
          rw [isDig_of e]
          simp; omega
      · unfold valF at i2 ⊢
        rw [List.foldl_append, i2, List.foldl_cons, List.foldl_nil, e]
        omega
theorem decDigits_len (m : Nat) (h : m ≤ 1073741824) : 1 ≤ (Lib.decDigits m).length ∧ (Lib.decDigits m).length ≤ 10 := by
  rw [Lib.decDigits_length]
  refine ⟨Lib.nDigits_pos m, ?_⟩
  have : ∀ k m : Nat, m < 10 ^ (k + 1) → Lib.nDigits m ≤ k + 1 := by
    intro k
    induction k with
    | zero => intro m hm; rw [Lib.nDigits_small (by simpa using hm)]; exact Nat.le_refl _
    | succ k ih =>
      intro m hm
      by_cases h : m < 10
      · rw [Lib.nDigits_small h]; omega
      · rw [Lib.nDigits_big h]
        have := ih (m / 10) (by rw [Nat.pow_succ] at hm; omega)
        omega
  exact this 9 m (by omega)
/-- What 'digits' reads of a numeral that ends the text, or that a byte which is no digit follows. -/
theorem digF_dec (m : Nat) (rest : List UInt8) (h : m ≤ 1073741824) (hr : rest = [] ∨ ∃ c t, rest = c :: t ∧ isDig c = false) :
    digF 11 (Lib.decDigits m ++ rest) 0 = (m, (Lib.decDigits m).length) := by
  obtain ⟨d1, d2⟩ := decDigits_dig m
  obtain ⟨l1, l2⟩ := decDigits_len m h
  rw [digF_app _ _ _ _ d1 (by omega), d2]
  have e : digF (11 - (Lib.decDigits m).length) rest m = (m, 0) := by
    rcases hr with rfl | ⟨c, t, rfl, hc⟩
    · exact digF_nil _ _
    · cases 11 - (Lib.decDigits m).length with
      | zero => rfl
      | succ f =>
        unfold digF
        rw [hc]
        rfl
  rw [e]
  simp
/-- no digit is a slash or a minus. -/
theorem dec_no (m : Nat) : (47 : UInt8) ∉ Lib.decDigits m ∧ (45 : UInt8) ∉ Lib.decDigits m := by
  obtain ⟨d1, _⟩ := decDigits_dig m
  exact ⟨fun h => by have := d1 _ h; revert this; decide, fun h => by have := d1 _ h; revert this; decide⟩

end Go.Proofs.YtlipjgpfhmkdhaaDoor
