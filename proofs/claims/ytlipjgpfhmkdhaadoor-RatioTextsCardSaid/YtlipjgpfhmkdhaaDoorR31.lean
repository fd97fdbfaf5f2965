/- digits. -/
import Derived.Test.YtlipjgpfhmkdhaaDoorR12
namespace Go.Proofs.YtlipjgpfhmkdhaaDoor
open Go.RowKit Go.Hw
set_option linter.unusedVariables false
set_option linter.unusedSimpArgs false

def isDig (c : UInt8) : Bool := decide (48 ≤ c.toNat) && decide (c.toNat ≤ 57)
def digF : Nat → List UInt8 → Nat → Nat × Nat
  | 0, _, n => (n, 0)
  | _ + 1, [], n => (n, 0)
  | f + 1, c :: t, n => if isDig c then ((digF f t (10 * n + (c.toNat - 48))).1, (digF f t (10 * n + (c.toNat - 48))).2 + 1) else (n, 0)
theorem digF_le : ∀ (f : Nat) (l : List UInt8) (n : Nat), (digF f l n).2 ≤ f ∧ (digF f l n).2 ≤ l.length
  | 0, _, _ => by simp [digF]
  | _ + 1, [], _ => by simp [digF]
  | f + 1, c :: t, n => by
    have := digF_le f t (10 * n + (c.toNat - 48))
    unfold digF
    split
    · simp; omega
    · simp
theorem digF_bd : ∀ (f : Nat) (l : List UInt8) (n : Nat), (digF f l n).1 + 1 ≤ (n + 1) * 10 ^ f
  | 0, _, n => by simp [digF]
  | f + 1, [], n => by
    unfold digF
    have : 1 ≤ 10 ^ (f + 1) := Nat.one_le_pow _ _ (by decide)
    have := Nat.mul_le_mul_left (n + 1) this
    simp at this ⊢; omega
  | f + 1, c :: t, n => by
    unfold digF
    split
    · rename_i h
      have h1 := digF_bd f t (10 * n + (c.toNat - 48))
      simp [isDig] at h
      have h2 : 10 * n + (c.toNat - 48) + 1 ≤ (n + 1) * 10 := by omega
      have h3 := Nat.mul_le_mul_right (10 ^ f) h2
      rw [Nat.pow_succ, Nat.mul_comm (10 ^ f) 10, ← Nat.mul_assoc]
      exact Nat.le_trans h1 h3
    · have : 1 ≤ 10 ^ (f + 1) := Nat.one_le_pow _ _ (by decide)
      have := Nat.mul_le_mul_left (n + 1) this
      simp at this ⊢; omega
theorem len_size (s : ByteArray) : s.data.toList.length = s.size := rfl
theorem digF_nil (f n : Nat) : digF f [] n = (n, 0) := by cases f <;> rfl
theorem drop_at (s : ByteArray) (k : Nat) (h : k < s.size) : s.data.toList.drop k = s[k] :: s.data.toList.drop (k + 1) := by
  have hl : k < s.data.toList.length := by rw [len_size]; exact h
  rw [List.drop_eq_getElem_cons hl]
  rfl
theorem isDig_of {b : UInt8} {c : Nat} (h : b.toNat = c) : isDig b = (decide (48 ≤ c) && decide (c ≤ 57)) := by unfold isDig; rw [h]
set_option maxRecDepth 100000 in
set_option maxHeartbeats 1000000 in
theorem digits_x (s : ByteArray) (i : Nat) (w : World) (hs : s.size ≤ 1000) (hi : i ≤ s.size) : Calls Tryd.prog 50 #[.string s, .int .i64 i] w fun e w' => e = .returned (.tuple #[.int .i64 (digF 11 (s.data.toList.drop i) 0).1, .int .i64 ((i : Int) + (digF 11 (s.data.toList.drop i) 0).2)]) ∧ w = w' := by
  obtain ⟨X, hX⟩ : ∃ X, digF 11 (s.data.toList.drop i) 0 = X := ⟨_, rfl⟩
  rw [hX]
  have HX := Lib.hid hX
  clear hX
  go_enter Tryd.func50, Tryd.ntmps50
  go_wp2_with fail
  go_loopg [6, 7] 11 (fun gk nv kv wr => ∃ n j : Nat, nv = .int .i64 n ∧ kv = .int .i64 ((i : Int) + j) ∧ gk + j = 11 ∧ i + j ≤ s.size ∧ n < 10 ^ j ∧ wr = w ∧ Hid ((digF gk (s.data.toList.drop (i + j)) n).1 = X.1 ∧ (digF gk (s.data.toList.drop (i + j)) n).2 + j = X.2))
  case atStart => exact ⟨0, 0, rfl, by simp, rfl, by omega, by decide, rfl, by show _ ∧ _; rw [← HX.out]; simp⟩
  case round =>
    obtain ⟨n, j, rfl, rfl, hgk, hij, hn, rfl, HK⟩ := hrel
    by_cases h1 : i + j < s.size
    · have t1 : decide ((i : Int) + (j : Int) < (s.size : Int)) = true := decide_eq_true (by omega)
      have t1' : decide (i + j < s.size) = true := decide_eq_true h1
      have p2 : (0 ≤ (i : Int) + (j : Int) ∧ (i : Int) + (j : Int) < (s.size : Int)) := by omega
      have hdr := drop_at s (i + j) h1
      by_cases h2 : j < 11
      · have p1 : ((j : Int) < 11) := by omega
        obtain ⟨g, rfl⟩ : ∃ g, gk = g + 1 := ⟨gk - 1, by omega⟩
        obtain ⟨c, hc⟩ : ∃ c : Nat, (s[i + j]'h1).toNat = c := ⟨_, rfl⟩
        have hK := HK.out
        rw [hdr] at hK
        unfold digF at hK
        rw [isDig_of hc, hc] at hK
        have hc255 : c ≤ 255 := by rw [← hc]; have := (s[i + j]'h1).toNat_lt; omega
        have hp : 10 ^ j ≤ 10000000000 := by
          have : 10 ^ j ≤ 10 ^ 10 := Nat.pow_le_pow_right (by decide) (by omega)
          omega
        have hnb : n < 10000000000 := by omega
        clear hdr HX
        by_cases h3 : 48 ≤ c
        · have p3 : (48 ≤ (c : Int)) := by omega
          have q3 : decide (48 ≤ c) = true := decide_eq_true h3
          by_cases h4 : c ≤ 57
          · have p4 : ((c : Int) ≤ 57) := by omega
            have q4 : decide (c ≤ 57) = true := decide_eq_true h4
            rw [q3, q4] at hK
            simp only [Bool.and_true, if_true] at hK
            have HK2 := Lib.hid hK
            have hn2 : 10 * n + (c - 48) < 10 ^ (j + 1) := by rw [Nat.pow_succ]; omega
            have HN2 := Lib.hid hn2
            clear hK hn2 HK hn hp
            go_wp2_with fail
            go_roundg g
            case measure => omega
            case rel => exact ⟨10 * n + (c - 48), j + 1, by go_num, by go_num, by omega, by omega, HN2.out, rfl, by rw [← Nat.add_assoc]; exact ⟨HK2.out.1, by have := HK2.out.2; omega⟩⟩
          · have p4 : ¬ ((c : Int) ≤ 57) := by omega
            have q4 : decide (c ≤ 57) = false := decide_eq_false h4
            rw [q3, q4] at hK
            simp only [Bool.and_false, if_false, Bool.false_eq_true] at hK
            obtain ⟨e1, e2⟩ := hK
            have HE := Lib.hid (And.intro e1 e2)
            clear HK hn hp e1 e2
            go_wp2_with fail
            go_ret2
            exact ⟨by rw [← HE.out.1, ← HE.out.2]; simp, rfl⟩
        · have p3 : ¬ (48 ≤ (c : Int)) := by omega
          have q3 : decide (48 ≤ c) = false := decide_eq_false h3
          rw [q3] at hK
          simp only [Bool.false_and, if_false, Bool.false_eq_true] at hK
          obtain ⟨e1, e2⟩ := hK
          have HE := Lib.hid (And.intro e1 e2)
          clear HK hn hp e1 e2
          go_wp2_with fail
          go_ret2
          exact ⟨by rw [← HE.out.1, ← HE.out.2]; simp, rfl⟩
      · have p1 : ¬ ((j : Int) < 11) := by omega
        obtain rfl : gk = 0 := by omega
        have hK := HK.out
        unfold digF at hK
        have HE := Lib.hid hK
        clear hdr HX HK hK hn
        go_wp2_with fail
        go_ret2
        exact ⟨by rw [← HE.out.1, ← HE.out.2]; simp, rfl⟩
    · have t1 : decide ((i : Int) + (j : Int) < (s.size : Int)) = false := decide_eq_false (by omega)
      have t1' : decide (i + j < s.size) = false := decide_eq_false h1
      have hdr : s.data.toList.drop (i + j) = [] := List.drop_eq_nil_of_le (by rw [len_size]; omega)
      have hK := HK.out
      rw [hdr, digF_nil] at hK
      have HE := Lib.hid hK
      clear hdr HX HK hK hn
      go_wp2_with fail
      go_ret2
      exact ⟨by rw [← HE.out.1, ← HE.out.2]; simp, rfl⟩

end Go.Proofs.YtlipjgpfhmkdhaaDoor
