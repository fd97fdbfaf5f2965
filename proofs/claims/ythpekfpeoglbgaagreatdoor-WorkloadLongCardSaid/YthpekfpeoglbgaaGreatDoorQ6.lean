/- heartwoodref51.line, head. -/
import Derived.Test.YthpekfpeoglbgaaGreatDoorQ5
namespace Go.Proofs.YthpekfpeoglbgaaGreatDoor
open Go.RowKit Go.Hw
set_option linter.unusedVariables false
set_option linter.unusedSimpArgs false

theorem kOf_none {l : List UInt8} (h : ∀ k : Int, 1 ≤ k → k ≤ 6 → l ≠ [115, 99, 114, 105, 112, 116, 32] ++ kWd k) : kOf l = 0 := by
  apply Classical.byContradiction
  intro e
  have h1 := kOf_eq e
  have h2 := kOf_bd l
  exact h (kOf l) (by omega) (by omega) h1
def kws : List ByteArray := [bs (kWd 1), bs (kWd 2), bs (kWd 3), bs (kWd 4), bs (kWd 5), bs (kWd 6)]
theorem kw_fin : ∀ k : Fin 7, 1 ≤ k.val → 1 + Lib.idxOfS kws (bs (kWd k.val)) = (k.val : Int) := by decide +kernel
theorem kw_idx (l : List UInt8) : 1 + Lib.idxOfS kws (bs l) = kOf ([115, 99, 114, 105, 112, 116, 32] ++ l) := by
  by_cases h : ∃ k : Int, 1 ≤ k ∧ k ≤ 6 ∧ l = kWd k
  · obtain ⟨k, h1, h2, rfl⟩ := h
    rw [kOf_word k ⟨h1, h2⟩]
    have := kw_fin ⟨k.toNat, by omega⟩ (by simp only; omega)
    simp only [show ((k.toNat : Nat) : Int) = k by omega] at this
    exact this
  · rw [kOf_none (fun k h1 h2 e => h ⟨k, h1, h2, List.append_cancel_left e⟩)]
    have hm : ∀ j, j < 6 → kws.getD j ByteArray.empty ≠ bs l := fun j hj e => by
      rcases j with _ | _ | _ | _ | _ | _ | j
      · exact h ⟨1, by omega, by omega, (bs_inj e).symm⟩
      · exact h ⟨2, by omega, by omega, (bs_inj e).symm⟩
      · exact h ⟨3, by omega, by omega, (bs_inj e).symm⟩
      · exact h ⟨4, by omega, by omega, (bs_inj e).symm⟩
      · exact h ⟨5, by omega, by omega, (bs_inj e).symm⟩
      · exact h ⟨6, by omega, by omega, (bs_inj e).symm⟩
      · omega
    have := Lib.idxOfS_miss kws 6 (bs l) hm
    rw [show kws.take 6 = kws from rfl] at this
    rw [this]
    rfl
theorem pre_cases (l : List UInt8) : (Lib.hasPrefix l [115, 99, 114, 105, 112, 116, 32] = true ∧ l = [115, 99, 114, 105, 112, 116, 32] ++ Lib.trimPrefix l [115, 99, 114, 105, 112, 116, 32]) ∨ (Lib.hasPrefix l [115, 99, 114, 105, 112, 116, 32] = false ∧ kOf l = 0) := by
  cases h : Lib.hasPrefix l [115, 99, 114, 105, 112, 116, 32] with
  | true =>
    left
    refine ⟨rfl, ?_⟩
    unfold Lib.trimPrefix
    rw [if_pos h]
    unfold Lib.hasPrefix at h
    obtain ⟨r, hr⟩ := List.isPrefixOf_iff_prefix.1 h
    rw [← hr]
    simp
  | false =>
    right
    refine ⟨rfl, kOf_none (fun k _ _ e => ?_)⟩
    unfold Lib.hasPrefix at h
    rw [e] at h
    have : List.isPrefixOf [115, 99, 114, 105, 112, 116, 32] ([115, 99, 114, 105, 112, 116, 32] ++ kWd k) = true := List.isPrefixOf_iff_prefix.2 (List.prefix_append _ _)
    rw [this] at h
    cases h
theorem eq10 {c : UInt8} {n : Nat} (h : c.toNat = n) : (c = 10) = (n = 10) := by
  refine propext ⟨fun e => ?_, fun e => ?_⟩
  · subst e; rw [← h]; rfl
  · apply UInt8.toNat_inj.1
    rw [h, e]; rfl
theorem extract_list (t : ByteArray) (a i : Nat) (hi : i ≤ t.size) (ha : a ≤ i) : t.extract a i = bs ((t.data.toList.drop a).take (i - a)) := by
  apply ByteArray.ext
  apply Array.toList_inj.1
  rw [ByteArray.data_extract, Array.toList_extract, bs_data]
theorem take_no (l : List UInt8) (a i : Nat) (z : UInt8) (h : ∀ j, a ≤ j → j < i → l.getD j 0 ≠ z) (hi : i ≤ l.length) : z ∉ (l.drop a).take (i - a) := by
  intro hm
  obtain ⟨j, hj, e⟩ := List.getElem_of_mem hm
  rw [List.length_take, List.length_drop] at hj
  rw [List.getElem_take, List.getElem_drop] at e
  refine h (a + j) (by omega) (by omega) ?_
  rw [List.getD_eq_getElem?_getD, List.getElem?_eq_getElem (by omega), Option.getD_some]
  exact e
theorem cut_hit (l : List UInt8) (a i : Nat) (z : UInt8) (ha : a ≤ i) (hi : i < l.length) (h : ∀ j, a ≤ j → j < i → l.getD j 0 ≠ z) (hz : l.getD i 0 = z) : Lib.cut (l.drop a) [z] = ((l.drop a).take (i - a), l.drop (i + 1), true) := by
  have e : l.drop a = (l.drop a).take (i - a) ++ z :: l.drop (i + 1) := by
    conv => lhs; rw [← List.take_append_drop (i - a) (l.drop a)]
    rw [List.drop_drop, show a + (i - a) = i by omega, List.drop_eq_getElem_cons hi]
    rw [List.getD_eq_getElem?_getD, List.getElem?_eq_getElem hi, Option.getD_some] at hz
    rw [hz]
  have h2 := cut_at z ((l.drop a).take (i - a)) (l.drop (i + 1)) (take_no l a i z h (by omega))
  rw [← e] at h2
  exact h2
set_option maxHeartbeats 1000000 in
set_option maxRecDepth 100000 in
theorem line_x (t : ByteArray) (a : Nat) (w : World) (ha : a ≤ t.size) (hs : t.size ≤ 1000000) :
    Calls Tryz.prog 24 #[.string t, .int .i64 a] w fun e w' => e = .returned (.tuple #[.string (if (Lib.cut (t.data.toList.drop a) [10]).2.2 = true then bs (Lib.cut (t.data.toList.drop a) [10]).1 else ⟨#[]⟩), .bool (Lib.cut (t.data.toList.drop a) [10]).2.2]) ∧ w = w' := by
  obtain ⟨RS, hRS⟩ : ∃ RS, (if (Lib.cut (t.data.toList.drop a) [10]).2.2 = true then bs (Lib.cut (t.data.toList.drop a) [10]).1 else ⟨#[]⟩) = RS := ⟨_, rfl⟩
  obtain ⟨RB, hRB⟩ : ∃ RB, (Lib.cut (t.data.toList.drop a) [10]).2.2 = RB := ⟨_, rfl⟩
  rw [hRS, hRB]
  have HS := Lib.hid hRS
  have HB := Lib.hid hRB
  clear hRS hRB
  go_enter Tryz.func24, Tryz.ntmps24
  go_wp2_with fail
  go_loopg [6] (t.size - a) (fun gk x wx => ∃ i : Nat, x = .int .i64 i ∧ gk = t.size - i ∧ a ≤ i ∧ i ≤ t.size ∧ Hid (∀ j, a ≤ j → j < i → t.data.toList.getD j 0 ≠ 10) ∧ wx = w)
  case atStart => exact ⟨a, rfl, rfl, Nat.le_refl _, ha, fun j h1 h2 => by omega, rfl⟩
  case round =>
    obtain ⟨i, rfl, rfl, hai, his, HF, hwx⟩ := hrel
    subst hwx
    by_cases hlt : i < t.size
    · have t1 : decide ((i : Int) < (t.size : Int)) = true := decide_eq_true (by omega)
      have t1' : decide (i < t.size) = true := decide_eq_true hlt
      have j0 : (0 : Int) ≤ (i : Int) := by omega
      have j1 : (i : Int) < (t.size : Int) := by omega
      have j2 : (0 : Int) ≤ (a : Int) := by omega
      have j3 : (a : Int) ≤ (i : Int) := by omega
      have j4 : (i : Int) ≤ (t.size : Int) := by omega
      obtain ⟨c, hc⟩ : ∃ c : Nat, (t[i]'hlt).toNat = c := ⟨_, rfl⟩
      have hgd : t.data.toList.getD i 0 = t[i]'hlt := getD_at t i hlt
      by_cases h10 : c = 10
      · have hz : t.data.toList.getD i 0 = 10 := by rw [hgd, eq10 hc]; exact h10
        have hcut := cut_hit t.data.toList a i 10 hai (by rw [len_size]; exact hlt) HF.out hz
        have hS := HS.out
        have hB := HB.out
        rw [hcut] at hS hB
        simp only [if_true] at hS hB
        rw [← extract_list t a i (by omega) hai] at hS
        clear hz hgd hcut HS HB HF
        subst hS
        subst hB
        subst h10
        go_wp2_with fail
        go_ret2
        exact ⟨rfl, rfl⟩
      · have HF2 : Hid (∀ j, a ≤ j → j < i + 1 → t.data.toList.getD j 0 ≠ 10) := fun j h1 h2 => by
          by_cases e : j = i
          · subst e; rw [hgd, Ne, eq10 hc]; exact h10
          · exact HF.out j h1 (by omega)
        have n1 : ((c : Int) == 10) = false := beq_eq_false_iff_ne.2 (by omega)
        have n2 : ((c : Int) != 10) = true := bne_iff_ne.2 (by omega)
        have n3 : (c == 10) = false := beq_eq_false_iff_ne.2 (by omega)
        have n4 : (c != 10) = true := bne_iff_ne.2 (by omega)
        clear hgd
        go_wp2_with fail
        go_roundg (t.size - (i + 1))
        case measure => omega
        case rel => exact ⟨i + 1, by go_num, rfl, by omega, by omega, HF2, rfl⟩
    · have t1 : decide ((i : Int) < (t.size : Int)) = false := decide_eq_false (by omega)
      have t1' : decide (i < t.size) = false := decide_eq_false hlt
      have hno : (10 : UInt8) ∉ t.data.toList.drop a := by
        have h1 := take_no t.data.toList a i 10 HF.out (by rw [len_size]; exact his)
        rwa [List.take_of_length_le (by rw [List.length_drop, len_size]; omega)] at h1
      have hcut := cut_none 10 _ hno
      have hS := HS.out
      have hB := HB.out
      rw [hcut] at hS hB
      have hS2 : (⟨#[]⟩ : ByteArray) = RS := hS
      have hB2 : false = RB := hB
      clear hno hcut HS HB HF hS hB
      subst hS2
      subst hB2
      go_wp2_with fail
      go_ret2
      exact ⟨rfl, rfl⟩
set_option maxRecDepth 100000 in
theorem head_x (l : List UInt8) (w : World) (hl : l.length ≤ 1000000) : Calls Tryz.prog 25 #[.string (bs l)] w fun e w' => e = .returned (.int .i64 (kOf l)) ∧ Ext w w' := by
  have CK : Hid (∀ (k : Nat) (W : World), 1 ≤ k → k ≤ 6 → Calls Tryz.prog 52 #[.int .i64 (k : Int)] W fun e w' => e = .returned (.string (bs (kWd k))) ∧ Ext W w') := fun k W h1 h2 => rword_any k W (by omega)
  obtain ⟨R, hR⟩ : ∃ R, kOf l = R := ⟨_, rfl⟩
  rw [hR]
  have HR := Lib.hid hR
  obtain ⟨t, ht⟩ : ∃ t, bs l = t := ⟨_, rfl⟩
  rw [ht]
  have HT := Lib.hid ht
  clear hR ht
  go_enter Tryz.func25, Tryz.ntmps25
  go_wp2_with fail
  go_loopg [3] 6 (fun gk x wx => ∃ j : Nat, x = .int .i64 j ∧ gk = 7 - j ∧ 1 ≤ j ∧ j ≤ 7 ∧ Hid (∀ k : Int, 1 ≤ k → k < j → l ≠ [115, 99, 114, 105, 112, 116, 32] ++ kWd k) ∧ Hid (Ext w wx))
  case atStart => exact ⟨1, rfl, rfl, by omega, by omega, fun k h1 h2 => by omega, Upd.refl _ _⟩
  case round =>
    obtain ⟨j, rfl, rfl, hj1, hj7, HF, HE⟩ := hrel
    by_cases hj : j ≤ 6
    · have t1 : decide ((j : Int) ≤ 6) = true := decide_eq_true (by omega)
      have t1' : decide (j ≤ 6) = true := decide_eq_true hj
      have CK2 := Lib.hid (fun W => CK.out j W hj1 hj)
      have hKs : (bs (kWd j)).size ≤ 5 := by rw [bs_size]; exact kWd_len _
      obtain ⟨Q, hQ⟩ : ∃ Q, (⟨#[115, 99, 114, 105, 112, 116, 32]⟩ : ByteArray) ++ bs (kWd j) = Q := ⟨_, rfl⟩
      have HQ : Hid (Q = bs ([115, 99, 114, 105, 112, 116, 32] ++ kWd j)) := Lib.hid (by rw [← hQ, ← bs_app]; rfl)
      have HQ2 := Lib.hid hQ
      have s1 : ¬ (9223372036854775807 < 7 + (bs (kWd j)).size) := by omega
      have HD : Hid (t = Q ↔ l = [115, 99, 114, 105, 112, 116, 32] ++ kWd j) := Lib.hid (by
        rw [HQ.out, ← HT.out]
        exact ⟨fun e => bs_inj e, fun e => by rw [e]⟩)
      clear hQ HQ
      generalize bs (kWd j) = KW at *
      by_cases hq : t = Q
      · have b1 : (t.toList == Q.toList) = true := (Lib.bytes_beq_iff _ _).2 hq
        obtain rfl : (j : Int) = R := by rw [← HR.out, HD.out.1 hq]; exact (kOf_word j (by omega)).symm
        clear hq HD
        go_wp2_with fail
        refine (CK2.out _).mono ?_
        rintro e w4 ⟨rfl, h4⟩
        have HE4 := Lib.hid (HE.out.ext h4)
        clear h4
        have q2 := HQ2.out
        go_wp2_with fail
        go_ret
        exact ⟨rfl, HE4.out⟩
      · have b1 : (t.toList == Q.toList) = false := (Lib.bytes_beq_false_iff _ _).2 hq
        have HF2 : Hid (∀ k : Int, 1 ≤ k → k < ((j + 1 : Nat) : Int) → l ≠ [115, 99, 114, 105, 112, 116, 32] ++ kWd k) := fun k h1 h2 e => by
          by_cases ek : k = j
          · subst ek; exact hq (HD.out.2 e)
          · exact HF.out k h1 (by omega) e
        clear hq HD
        go_wp2_with fail
        refine (CK2.out _).mono ?_
        rintro e w4 ⟨rfl, h4⟩
        have HE4 := Lib.hid (HE.out.ext h4)
        clear h4
        have q2 := HQ2.out
        go_wp2_with fail
        clear q2
        go_roundg (7 - (j + 1))
        case measure => omega
        case rel => exact ⟨j + 1, by go_num, rfl, by omega, by omega, HF2, HE4⟩
    · obtain rfl : j = 7 := by omega
      obtain rfl : (0 : Int) = R := by rw [← HR.out]; exact (kOf_none (fun k h1 h2 => HF.out k h1 (by omega))).symm
      go_wp2_with fail
      go_ret
      exact ⟨rfl, HE.out⟩
theorem NumR.lt {S : Nat → Prop} {w : World} {v : Value} {l : List Int} (h : NumR S w v l) : NumR (fun k => S k ∧ k < w.heap.size) w v l := by
  refine ⟨h.1, ?_⟩
  rcases h.2 with h2 | ⟨ad, cap, hv, hc, hg, hj⟩
  · exact .inl h2
  · refine .inr ⟨ad, cap, hv, hc, fun h0 => ⟨(hg h0).1, (hg h0).2, ?_⟩, hj⟩
    have h1 := hj 0 (by omega)
    rw [List.getElem?_eq_getElem (by rw [h.1]; omega)] at h1
    exact World.block_lt_of_cell? w ⟨ad.block, ad.off + 0, none⟩ h1

end Go.Proofs.YthpekfpeoglbgaaGreatDoor
