/- ref.Parse, whole. -/
import Derived.Test.YtlipjgpfhmkdhaaDoorR36
import Derived.Test.YtlipjgpfhmkdhaaDoorR37
import Derived.Test.YtlipjgpfhmkdhaaDoorR38
import Derived.Test.YtlipjgpfhmkdhaaDoorR40
namespace Go.Proofs.YtlipjgpfhmkdhaaDoor
open Go.RowKit Go.Hw
set_option linter.unusedVariables false
set_option linter.unusedSimpArgs false

def dgN (s : ByteArray) (i : Nat) : Nat := (digF 11 (s.data.toList.drop i) 0).1
def dgK (s : ByteArray) (i : Nat) : Nat := (digF 11 (s.data.toList.drop i) 0).2
theorem dig_c (s : ByteArray) (i : Nat) (hs : s.size ≤ 1000) (hi : i ≤ s.size) (W : World) : Calls Tryd.prog 50 #[.string s, .int .i64 i] W fun e w' => e = .returned (.tuple #[.int .i64 (dgN s i), .int .i64 ((i + dgK s i : Nat) : Int)]) ∧ W = w' :=
  (digits_x s i W hs hi).mono fun e w' ⟨h1, h2⟩ => ⟨by rw [h1, Int.natCast_add]; rfl, h2.symm ▸ rfl⟩
theorem dg_le (s : ByteArray) (i : Nat) (hi : i ≤ s.size) : i + dgK s i ≤ s.size := by
  have := (digF_le 11 (s.data.toList.drop i) 0).2
  rw [List.length_drop, len_size] at this
  unfold dgK; omega
theorem dg_bd (s : ByteArray) (i : Nat) : dgN s i ≤ 1000000000000 := by
  have := digF_bd 11 (s.data.toList.drop i) 0
  unfold dgN; omega
def rdA (s : ByteArray) (i : Nat) (n : Int) : Option (Int × Int) :=
  if s.data.toList[i + dgK s i]? = some 47 then (if i + dgK s i + 1 + dgK s (i + dgK s i + 1) = s.size then some (n, (dgN s (i + dgK s i + 1) : Int)) else none)
  else if i + dgK s i = s.size then some (n, 1) else none
def rd (s : ByteArray) : Option (Int × Int) := if s.data.toList.head? = some 45 then rdA s 1 (-(dgN s 1 : Int)) else rdA s 0 (dgN s 0)
theorem rdA_good (s : ByteArray) (i m : Nat) (d : Int) (pre : List UInt8) (hm : m ≤ 1073741824) (hd : 1 ≤ d ∧ d ≤ 1073741824) (hp : pre.length = i)
    (h : s.data.toList = pre ++ (Lib.decDigits m ++ (if d = 1 then [] else 47 :: Lib.itoa d))) : dgN s i = m ∧ ∀ n, rdA s i n = some (n, d) := by
  have h1 : s.data.toList.drop i = Lib.decDigits m ++ (if d = 1 then [] else 47 :: Lib.itoa d) := by
    rw [h, ← hp]; simp
  have h2 := digF_dec m (if d = 1 then [] else 47 :: Lib.itoa d) hm (by
    by_cases e : d = 1
    · left; rw [if_pos e]
    · right; rw [if_neg e]; exact ⟨47, _, rfl, by decide⟩)
  rw [← h1] at h2
  have e1 : dgN s i = m := by unfold dgN; rw [h2]
  have e2 : dgK s i = (Lib.decDigits m).length := by unfold dgK; rw [h2]
  refine ⟨e1, fun n => ?_⟩
  have hsz : s.size = s.data.toList.length := rfl
  have hlen := congrArg List.length h
  rw [List.length_append, List.length_append, hp, ← e2, ← hsz] at hlen
  have h3 : s.data.toList.drop (i + dgK s i) = (if d = 1 then [] else 47 :: Lib.itoa d) := by
    rw [← List.drop_drop, h1, e2]; simp
  unfold rdA
  by_cases e : d = 1
  · rw [if_pos e] at h3 hlen
    rw [List.getElem?_eq_none (by rw [← hsz, hlen]; simp), if_neg (by simp), if_pos (by rw [hlen]; simp), e]
  · rw [if_neg e] at h3 hlen
    have h4 : s.data.toList[i + dgK s i]? = some 47 := by
      have := congrArg (fun l : List UInt8 => l[0]?) h3
      simpa using this
    have hid : Lib.itoa d = Lib.decDigits d.toNat := by unfold Lib.itoa; rw [if_neg (by omega)]
    have h5 : s.data.toList.drop (i + dgK s i + 1) = Lib.decDigits d.toNat ++ [] := by
      rw [← List.drop_drop, h3, hid]; simp
    have h6 := digF_dec d.toNat [] (by omega) (Or.inl rfl)
    rw [← h5] at h6
    have e3 : dgN s (i + dgK s i + 1) = d.toNat := by unfold dgN; rw [h6]
    have e4 : dgK s (i + dgK s i + 1) = (Lib.decDigits d.toNat).length := by
      show (digF 11 (s.data.toList.drop (i + dgK s i + 1)) 0).2 = _
      rw [h6]
    rw [hid, List.length_cons] at hlen
    rw [if_pos h4, if_pos (by rw [e4]; omega), e3]
    congr 2; omega
theorem rd_good {s : ByteArray} {n d : Int} (h : Good s n d) : rd s = some (n, d) := by
  obtain ⟨h1, h2⟩ := h
  obtain ⟨v1, v2, v3, v4⟩ := vf_bds h1
  have ht := text_list n d
  rw [h2] at ht
  unfold rd
  by_cases hn : n < 0
  · have e : Lib.itoa n = 45 :: Lib.decDigits n.natAbs := by unfold Lib.itoa; rw [if_pos hn]
    rw [e] at ht
    obtain ⟨g1, g2⟩ := rdA_good s 1 n.natAbs d [45] (by omega) ⟨v3, v4⟩ rfl (by rw [ht]; rfl)
    rw [if_pos (by rw [ht]; rfl), g2, g1]
    congr 2; omega
  · have e : Lib.itoa n = Lib.decDigits n.toNat := by unfold Lib.itoa; rw [if_neg hn]
    rw [e] at ht
    obtain ⟨g1, g2⟩ := rdA_good s 0 n.toNat d [] (by omega) ⟨v3, v4⟩ rfl (by rw [ht]; rfl)
    obtain ⟨d1, _⟩ := decDigits_dig n.toNat
    obtain ⟨l1, _⟩ := decDigits_len n.toNat (by omega)
    rw [if_neg ?_, g2, g1]
    · congr 2; omega
    · rw [ht]
      cases hl : Lib.decDigits n.toNat with
      | nil => rw [hl] at l1; simp at l1
      | cons c t =>
        rw [hl] at d1
        have := d1 c (by simp)
        intro e
        simp at e
        subst e
        revert this; decide
theorem get_at (s : ByteArray) (k : Nat) (h : k < s.size) : s.data.toList[k]? = some (s[k]'h) := by
  rw [List.getElem?_eq_getElem (by rw [len_size]; exact h)]
  rfl
theorem u8_47 {c : UInt8} : c.toNat = 47 ↔ c = 47 := ⟨fun h => UInt8.toNat_inj.1 h, fun h => by rw [h]; rfl⟩
theorem u8_45 {c : UInt8} : c.toNat = 45 ↔ c = 45 := ⟨fun h => UInt8.toNat_inj.1 h, fun h => by rw [h]; rfl⟩

theorem rp_all_m (s : ByteArray) (w : World) (hs : s.size ≤ 1000) (h0 : 0 < s.size) (hb : (s[0]'h0).toNat = 45) : (rdA s 1 (-(dgN s 1 : Int)) = none ∧ Calls Tryd.prog 39 #[.string s] w fun e w' => e = .returned (.tuple #[.agg #[.int .i64 0, .int .i64 0], .bool false]) ∧ Ext w w') ∨ ∃ N D, rdA s 1 (-(dgN s 1 : Int)) = some (N, D) ∧ ((vfB N D = true ∧ textS N D = s ∧ Calls Tryd.prog 39 #[.string s] w fun e w' => e = .returned (.tuple #[.agg #[.int .i64 N, .int .i64 D], .bool true]) ∧ Ext w w') ∨ (¬ (vfB N D = true ∧ textS N D = s) ∧ Calls Tryd.prog 39 #[.string s] w fun e w' => e = .returned (.tuple #[.agg #[.int .i64 0, .int .i64 0], .bool false]) ∧ Ext w w')) := by
  have c1 : ∀ W, Calls Tryd.prog 50 #[.string s, .int .i64 1] W fun e w' => e = .returned (.tuple #[.int .i64 (dgN s 1), .int .i64 ((1 + dgK s 1 : Nat) : Int)]) ∧ W = w' := fun W => dig_c s 1 hs (by omega) W
  have hle := dg_le s 1 (by omega)
  have hn : (dgN s 1 : Int) ≤ 1000000000000 := by have := dg_bd s 1; omega
  obtain ⟨k, hk0⟩ : ∃ k, 1 + dgK s 1 = k := ⟨_, rfl⟩
  have hN : -9223372036854775808 ≤ (-(dgN s 1 : Int)) ∧ (-(dgN s 1 : Int)) ≤ 9223372036854775807 := by omega
  unfold rdA
  rw [hk0] at c1 hle ⊢
  have hk : (k : Int) ≤ 100000 := by omega
  by_cases hks : k < s.size
  · by_cases hc : (s[k]'hks).toNat = 47
    · have hl : s.data.toList[k]? = some 47 := by rw [get_at s k hks, u8_47.1 hc]
      have c2 : ∀ W, Calls Tryd.prog 50 #[.string s, .int .i64 ((k : Int) + 1)] W fun e w' => e = .returned (.tuple #[.int .i64 (dgN s (k + 1)), .int .i64 ((k + 1 + dgK s (k + 1) : Nat) : Int)]) ∧ W = w' := fun W => dig_c s (k + 1) hs (by omega) W
      have hn2 : (dgN s (k + 1) : Int) ≤ 1000000000000 := by have := dg_bd s (k + 1); omega
      have hD : -9223372036854775808 ≤ (dgN s (k + 1) : Int) ∧ (dgN s (k + 1) : Int) ≤ 9223372036854775807 := by omega
      rw [if_pos hl]
      by_cases h2 : k + 1 + dgK s (k + 1) = s.size
      · have h2' : ((k + 1 + dgK s (k + 1) : Nat) : Int) = (s.size : Int) := by rw [h2]
        rw [if_pos h2]
        right
        refine ⟨(-(dgN s 1 : Int)), (dgN s (k + 1)), rfl, ?_⟩
        cases hv : vfB (-(dgN s 1 : Int)) (dgN s (k + 1)) with
        | false => exact Or.inr ⟨fun h => Bool.false_ne_true h.1, rp_msv s w (dgN s 1) (dgN s (k + 1)) k ((k + 1 + dgK s (k + 1) : Nat) : Int) ⟨Int.natCast_nonneg _, hn⟩ ⟨Int.natCast_nonneg _, hk⟩ c1 c2 (fun W => by have := rvalid_x (-(dgN s 1 : Int)) (dgN s (k + 1)) W; rw [hv] at this; exact this) h0 hb k rfl hks hc h2'⟩
        | true =>
          by_cases ht : textS (-(dgN s 1 : Int)) (dgN s (k + 1)) = s
          · have c4 := (fun W => rtext_ok (-(dgN s 1 : Int)) (dgN s (k + 1)) W hN.1 hN.2 hD.1 hD.2)
            rw [ht] at c4
            exact Or.inl ⟨rfl, ht, rp_msg s w (dgN s 1) (dgN s (k + 1)) k ((k + 1 + dgK s (k + 1) : Nat) : Int) ⟨Int.natCast_nonneg _, hn⟩ ⟨Int.natCast_nonneg _, hk⟩ c1 c2 (fun W => by have := rvalid_x (-(dgN s 1 : Int)) (dgN s (k + 1)) W; rw [hv] at this; exact this) c4 h0 hb k rfl hks hc h2'⟩
          · exact Or.inr ⟨fun h => ht h.2, rp_mst s w (dgN s 1) (dgN s (k + 1)) k ((k + 1 + dgK s (k + 1) : Nat) : Int) ⟨Int.natCast_nonneg _, hn⟩ ⟨Int.natCast_nonneg _, hk⟩ c1 c2 (fun W => by have := rvalid_x (-(dgN s 1 : Int)) (dgN s (k + 1)) W; rw [hv] at this; exact this) _ (ne_toList ht) (fun W => rtext_ok (-(dgN s 1 : Int)) (dgN s (k + 1)) W hN.1 hN.2 hD.1 hD.2) h0 hb k rfl hks hc h2'⟩
      · left
        rw [if_neg h2]
        exact ⟨rfl, rp_msk s w (dgN s 1) (dgN s (k + 1)) k ((k + 1 + dgK s (k + 1) : Nat) : Int) ⟨Int.natCast_nonneg _, hn⟩ ⟨Int.natCast_nonneg _, hk⟩ c1 c2 h0 hb k rfl hks hc (by omega)⟩
    · have hl : ¬ (s.data.toList[k]? = some 47) := by
        rw [get_at s k hks]
        intro e
        injection e with e
        exact hc (u8_47.2 e)
      left
      rw [if_neg hl, if_neg (by omega)]
      exact ⟨rfl, rp_mok s w (dgN s 1) 1 k 0 ⟨Int.natCast_nonneg _, hn⟩ ⟨Int.natCast_nonneg _, hk⟩ c1 h0 hb k rfl hks hc (by omega)⟩
  · have h2 : k = s.size := by omega
    have h2' : (k : Int) = (s.size : Int) := by rw [h2]
    have hks' : ¬ ((k : Int) < (s.size : Int)) := by omega
    have hl : ¬ (s.data.toList[k]? = some 47) := by
      rw [List.getElem?_eq_none (by rw [len_size]; omega)]; simp
    rw [if_neg hl, if_pos h2]
    right
    refine ⟨(-(dgN s 1 : Int)), 1, rfl, ?_⟩
    cases hv : vfB (-(dgN s 1 : Int)) 1 with
    | false => exact Or.inr ⟨fun h => Bool.false_ne_true h.1, rp_mxv s w (dgN s 1) 1 k 0 ⟨Int.natCast_nonneg _, hn⟩ ⟨Int.natCast_nonneg _, hk⟩ c1 (fun W => by have := rvalid_x (-(dgN s 1 : Int)) 1 W; rw [hv] at this; exact this) h0 hb hks' h2'⟩
    | true =>
      by_cases ht : textS (-(dgN s 1 : Int)) 1 = s
      · have c4 := (fun W => rtext_ok (-(dgN s 1 : Int)) 1 W hN.1 hN.2 (by omega) (by omega))
        rw [ht] at c4
        exact Or.inl ⟨rfl, ht, rp_mxg s w (dgN s 1) 1 k 0 ⟨Int.natCast_nonneg _, hn⟩ ⟨Int.natCast_nonneg _, hk⟩ c1 (fun W => by have := rvalid_x (-(dgN s 1 : Int)) 1 W; rw [hv] at this; exact this) c4 h0 hb hks' h2'⟩
      · exact Or.inr ⟨fun h => ht h.2, rp_mxt s w (dgN s 1) 1 k 0 ⟨Int.natCast_nonneg _, hn⟩ ⟨Int.natCast_nonneg _, hk⟩ c1 (fun W => by have := rvalid_x (-(dgN s 1 : Int)) 1 W; rw [hv] at this; exact this) _ (ne_toList ht) (fun W => rtext_ok (-(dgN s 1 : Int)) 1 W hN.1 hN.2 (by omega) (by omega)) h0 hb hks' h2'⟩

theorem rp_all_p (s : ByteArray) (w : World) (hs : s.size ≤ 1000) (h0 : 0 < s.size) (hb : (s[0]'h0).toNat = 45 → False) : (rdA s 0 (dgN s 0 : Int) = none ∧ Calls Tryd.prog 39 #[.string s] w fun e w' => e = .returned (.tuple #[.agg #[.int .i64 0, .int .i64 0], .bool false]) ∧ Ext w w') ∨ ∃ N D, rdA s 0 (dgN s 0 : Int) = some (N, D) ∧ ((vfB N D = true ∧ textS N D = s ∧ Calls Tryd.prog 39 #[.string s] w fun e w' => e = .returned (.tuple #[.agg #[.int .i64 N, .int .i64 D], .bool true]) ∧ Ext w w') ∨ (¬ (vfB N D = true ∧ textS N D = s) ∧ Calls Tryd.prog 39 #[.string s] w fun e w' => e = .returned (.tuple #[.agg #[.int .i64 0, .int .i64 0], .bool false]) ∧ Ext w w')) := by
  have c1 : ∀ W, Calls Tryd.prog 50 #[.string s, .int .i64 0] W fun e w' => e = .returned (.tuple #[.int .i64 (dgN s 0), .int .i64 ((0 + dgK s 0 : Nat) : Int)]) ∧ W = w' := fun W => dig_c s 0 hs (by omega) W
  have hle := dg_le s 0 (by omega)
  have hn : (dgN s 0 : Int) ≤ 1000000000000 := by have := dg_bd s 0; omega
  obtain ⟨k, hk0⟩ : ∃ k, 0 + dgK s 0 = k := ⟨_, rfl⟩
  have hN : -9223372036854775808 ≤ (dgN s 0 : Int) ∧ (dgN s 0 : Int) ≤ 9223372036854775807 := by omega
  unfold rdA
  rw [hk0] at c1 hle ⊢
  have hk : (k : Int) ≤ 100000 := by omega
  by_cases hks : k < s.size
  · by_cases hc : (s[k]'hks).toNat = 47
    · have hl : s.data.toList[k]? = some 47 := by rw [get_at s k hks, u8_47.1 hc]
      have c2 : ∀ W, Calls Tryd.prog 50 #[.string s, .int .i64 ((k : Int) + 1)] W fun e w' => e = .returned (.tuple #[.int .i64 (dgN s (k + 1)), .int .i64 ((k + 1 + dgK s (k + 1) : Nat) : Int)]) ∧ W = w' := fun W => dig_c s (k + 1) hs (by omega) W
      have hn2 : (dgN s (k + 1) : Int) ≤ 1000000000000 := by have := dg_bd s (k + 1); omega
      have hD : -9223372036854775808 ≤ (dgN s (k + 1) : Int) ∧ (dgN s (k + 1) : Int) ≤ 9223372036854775807 := by omega
      rw [if_pos hl]
      by_cases h2 : k + 1 + dgK s (k + 1) = s.size
      · have h2' : ((k + 1 + dgK s (k + 1) : Nat) : Int) = (s.size : Int) := by rw [h2]
        rw [if_pos h2]
        right
        refine ⟨(dgN s 0 : Int), (dgN s (k + 1)), rfl, ?_⟩
        cases hv : vfB (dgN s 0 : Int) (dgN s (k + 1)) with
        | false => exact Or.inr ⟨fun h => Bool.false_ne_true h.1, rp_psv s w (dgN s 0) (dgN s (k + 1)) k ((k + 1 + dgK s (k + 1) : Nat) : Int) ⟨Int.natCast_nonneg _, hn⟩ ⟨Int.natCast_nonneg _, hk⟩ c1 c2 (fun W => by have := rvalid_x (dgN s 0 : Int) (dgN s (k + 1)) W; rw [hv] at this; exact this) h0 hb k rfl hks hc h2'⟩
        | true =>
          by_cases ht : textS (dgN s 0 : Int) (dgN s (k + 1)) = s
          · have c4 := (fun W => rtext_ok (dgN s 0 : Int) (dgN s (k + 1)) W hN.1 hN.2 hD.1 hD.2)
            rw [ht] at c4
            exact Or.inl ⟨rfl, ht, rp_psg s w (dgN s 0) (dgN s (k + 1)) k ((k + 1 + dgK s (k + 1) : Nat) : Int) ⟨Int.natCast_nonneg _, hn⟩ ⟨Int.natCast_nonneg _, hk⟩ c1 c2 (fun W => by have := rvalid_x (dgN s 0 : Int) (dgN s (k + 1)) W; rw [hv] at this; exact this) c4 h0 hb k rfl hks hc h2'⟩
          · exact Or.inr ⟨fun h => ht h.2, rp_pst s w (dgN s 0) (dgN s (k + 1)) k ((k + 1 + dgK s (k + 1) : Nat) : Int) ⟨Int.natCast_nonneg _, hn⟩ ⟨Int.natCast_nonneg _, hk⟩ c1 c2 (fun W => by have := rvalid_x (dgN s 0 : Int) (dgN s (k + 1)) W; rw [hv] at this; exact this) _ (ne_toList ht) (fun W => rtext_ok (dgN s 0 : Int) (dgN s (k + 1)) W hN.1 hN.2 hD.1 hD.2) h0 hb k rfl hks hc h2'⟩
      · left
        rw [if_neg h2]
        exact ⟨rfl, rp_psk s w (dgN s 0) (dgN s (k + 1)) k ((k + 1 + dgK s (k + 1) : Nat) : Int) ⟨Int.natCast_nonneg _, hn⟩ ⟨Int.natCast_nonneg _, hk⟩ c1 c2 h0 hb k rfl hks hc (by omega)⟩
    · have hl : ¬ (s.data.toList[k]? = some 47) := by
        rw [get_at s k hks]
        intro e
        injection e with e
        exact hc (u8_47.2 e)
      left
      rw [if_neg hl, if_neg (by omega)]
      exact ⟨rfl, rp_pok s w (dgN s 0) 1 k 0 ⟨Int.natCast_nonneg _, hn⟩ ⟨Int.natCast_nonneg _, hk⟩ c1 h0 hb k rfl hks hc (by omega)⟩
  · have h2 : k = s.size := by omega
    have h2' : (k : Int) = (s.size : Int) := by rw [h2]
    have hks' : ¬ ((k : Int) < (s.size : Int)) := by omega
    have hl : ¬ (s.data.toList[k]? = some 47) := by
      rw [List.getElem?_eq_none (by rw [len_size]; omega)]; simp
    rw [if_neg hl, if_pos h2]
    right
    refine ⟨(dgN s 0 : Int), 1, rfl, ?_⟩
    cases hv : vfB (dgN s 0 : Int) 1 with
    | false => exact Or.inr ⟨fun h => Bool.false_ne_true h.1, rp_pxv s w (dgN s 0) 1 k 0 ⟨Int.natCast_nonneg _, hn⟩ ⟨Int.natCast_nonneg _, hk⟩ c1 (fun W => by have := rvalid_x (dgN s 0 : Int) 1 W; rw [hv] at this; exact this) h0 hb hks' h2'⟩
    | true =>
      by_cases ht : textS (dgN s 0 : Int) 1 = s
      · have c4 := (fun W => rtext_ok (dgN s 0 : Int) 1 W hN.1 hN.2 (by omega) (by omega))
        rw [ht] at c4
        exact Or.inl ⟨rfl, ht, rp_pxg s w (dgN s 0) 1 k 0 ⟨Int.natCast_nonneg _, hn⟩ ⟨Int.natCast_nonneg _, hk⟩ c1 (fun W => by have := rvalid_x (dgN s 0 : Int) 1 W; rw [hv] at this; exact this) c4 h0 hb hks' h2'⟩
      · exact Or.inr ⟨fun h => ht h.2, rp_pxt s w (dgN s 0) 1 k 0 ⟨Int.natCast_nonneg _, hn⟩ ⟨Int.natCast_nonneg _, hk⟩ c1 (fun W => by have := rvalid_x (dgN s 0 : Int) 1 W; rw [hv] at this; exact this) _ (ne_toList ht) (fun W => rtext_ok (dgN s 0 : Int) 1 W hN.1 hN.2 (by omega) (by omega)) h0 hb hks' h2'⟩

theorem rp_all_e (s : ByteArray) (w : World) (hs : s.size ≤ 1000) (h0 : s.size = 0) : (rdA s 0 (dgN s 0 : Int) = none ∧ Calls Tryd.prog 39 #[.string s] w fun e w' => e = .returned (.tuple #[.agg #[.int .i64 0, .int .i64 0], .bool false]) ∧ Ext w w') ∨ ∃ N D, rdA s 0 (dgN s 0 : Int) = some (N, D) ∧ ((vfB N D = true ∧ textS N D = s ∧ Calls Tryd.prog 39 #[.string s] w fun e w' => e = .returned (.tuple #[.agg #[.int .i64 N, .int .i64 D], .bool true]) ∧ Ext w w') ∨ (¬ (vfB N D = true ∧ textS N D = s) ∧ Calls Tryd.prog 39 #[.string s] w fun e w' => e = .returned (.tuple #[.agg #[.int .i64 0, .int .i64 0], .bool false]) ∧ Ext w w')) := by
  have c1 : ∀ W, Calls Tryd.prog 50 #[.string s, .int .i64 0] W fun e w' => e = .returned (.tuple #[.int .i64 (dgN s 0), .int .i64 ((0 + dgK s 0 : Nat) : Int)]) ∧ W = w' := fun W => dig_c s 0 hs (by omega) W
  have hle := dg_le s 0 (by omega)
  have hn : (dgN s 0 : Int) ≤ 1000000000000 := by have := dg_bd s 0; omega
  obtain ⟨k, hk0⟩ : ∃ k, 0 + dgK s 0 = k := ⟨_, rfl⟩
  have hN : -9223372036854775808 ≤ (dgN s 0 : Int) ∧ (dgN s 0 : Int) ≤ 9223372036854775807 := by omega
  unfold rdA
  rw [hk0] at c1 hle ⊢
  have hk : (k : Int) ≤ 100000 := by omega
  have h2 : k = s.size := by omega
  have h2' : (k : Int) = (s.size : Int) := by rw [h2]
  have hks' : ¬ ((k : Int) < (s.size : Int)) := by omega
  have hl : ¬ (s.data.toList[k]? = some 47) := by
    rw [List.getElem?_eq_none (by rw [len_size]; omega)]; simp
  rw [if_neg hl, if_pos h2]
  right
  refine ⟨(dgN s 0 : Int), 1, rfl, ?_⟩
  cases hv : vfB (dgN s 0 : Int) 1 with
  | false => exact Or.inr ⟨fun h => Bool.false_ne_true h.1, rp_exv s w (dgN s 0) 1 k 0 ⟨Int.natCast_nonneg _, hn⟩ ⟨Int.natCast_nonneg _, hk⟩ c1 (fun W => by have := rvalid_x (dgN s 0 : Int) 1 W; rw [hv] at this; exact this) h0 hks' h2'⟩
  | true =>
    by_cases ht : textS (dgN s 0 : Int) 1 = s
    · have c4 := (fun W => rtext_ok (dgN s 0 : Int) 1 W hN.1 hN.2 (by omega) (by omega))
      rw [ht] at c4
      exact Or.inl ⟨rfl, ht, rp_exg s w (dgN s 0) 1 k 0 ⟨Int.natCast_nonneg _, hn⟩ ⟨Int.natCast_nonneg _, hk⟩ c1 (fun W => by have := rvalid_x (dgN s 0 : Int) 1 W; rw [hv] at this; exact this) c4 h0 hks' h2'⟩
    · exact Or.inr ⟨fun h => ht h.2, rp_ext s w (dgN s 0) 1 k 0 ⟨Int.natCast_nonneg _, hn⟩ ⟨Int.natCast_nonneg _, hk⟩ c1 (fun W => by have := rvalid_x (dgN s 0 : Int) 1 W; rw [hv] at this; exact this) _ (ne_toList ht) (fun W => rtext_ok (dgN s 0 : Int) 1 W hN.1 hN.2 (by omega) (by omega)) h0 hks' h2'⟩

/-- ref.Parse. -/
theorem rparse_x (s : ByteArray) (w : World) (hs : s.size ≤ 1000) : (∃ n d, Good s n d ∧ Calls Tryd.prog 39 #[.string s] w fun e w' => e = .returned (.tuple #[.agg #[.int .i64 n, .int .i64 d], .bool true]) ∧ Ext w w') ∨ ((∀ n d, ¬ Good s n d) ∧ Calls Tryd.prog 39 #[.string s] w fun e w' => e = .returned (.tuple #[.agg #[.int .i64 0, .int .i64 0], .bool false]) ∧ Ext w w') := by
  have key : (rd s = none ∧ Calls Tryd.prog 39 #[.string s] w fun e w' => e = .returned (.tuple #[.agg #[.int .i64 0, .int .i64 0], .bool false]) ∧ Ext w w') ∨ ∃ N D, rd s = some (N, D) ∧ ((vfB N D = true ∧ textS N D = s ∧ Calls Tryd.prog 39 #[.string s] w fun e w' => e = .returned (.tuple #[.agg #[.int .i64 N, .int .i64 D], .bool true]) ∧ Ext w w') ∨ (¬ (vfB N D = true ∧ textS N D = s) ∧ Calls Tryd.prog 39 #[.string s] w fun e w' => e = .returned (.tuple #[.agg #[.int .i64 0, .int .i64 0], .bool false]) ∧ Ext w w')) := by
    unfold rd
    by_cases h0 : 0 < s.size
    · have hh : s.data.toList.head? = some (s[0]'h0) := by rw [List.head?_eq_getElem?, get_at s 0 h0]
      by_cases hb : (s[0]'h0).toNat = 45
      · rw [if_pos (by rw [hh, u8_45.1 hb])]
        exact rp_all_m s w hs h0 hb
      · rw [if_neg (by rw [hh]; intro e; injection e with e; exact hb (u8_45.2 e))]
        exact rp_all_p s w hs h0 hb
    · have hz : s.data.toList = [] := List.eq_nil_of_length_eq_zero (by rw [len_size]; omega)
      rw [if_neg (by rw [hz]; simp)]
      exact rp_all_e s w hs (by omega)
  rcases key with ⟨h1, h2⟩ | ⟨N, D, h1, ⟨h2, h3, h4⟩ | ⟨h2, h3⟩⟩
  · exact Or.inr ⟨fun n d h => (by have := rd_good h; rw [h1] at this; cases this), h2⟩
  · exact Or.inl ⟨N, D, ⟨h2, h3⟩, h4⟩
  · refine Or.inr ⟨fun n d h => ?_, h3⟩
    have := rd_good h
    rw [h1] at this
    injection this with this
    injection this with e1 e2
    subst e1; subst e2
    exact h2 ⟨h.1, h.2⟩

end Go.Proofs.YtlipjgpfhmkdhaaDoor
