/- The texts Y38, one behind the other. -/
import Derived.Test.YtjjaknmnhhfjeaaGreatDoorKAW
import Derived.Test.YtjjaknmnhhfjeaaGreatDoorKBD
/- classify and symbol of the reference. -/
namespace Go.Proofs.YtjjaknmnhhfjeaaGreatDoor
open Go.RowKit Go.Hw Go Go.Sort Go.Proofs Go.ChangeMaps
set_option linter.unusedVariables false
set_option linter.unusedSimpArgs false

open Tm
set_option maxRecDepth 100000 in
set_option maxHeartbeats 2000000 in
theorem classify_x (s : By) (ln cl : Int) (w : World) (hs : s.size ≤ 1000000) : Calls Tryz.prog 103 #[.string s, .agg #[.int .i64 ln, .int .i64 cl]] w fun e w' => e = .returned (.tuple #[.agg #[.int .i64 ((wdF iR s).kind : Int), .string (wdF iR s).text, .int .i64 (wdF iR s).n, .int .i64 ln, .int .i64 cl], .bool (wdF iR s).ok]) ∧ Ext w w' := by
  have HE0 := Lib.hid (((Upd.refl (fun _ => False) w).alloc (.cells #[.int .i64 ln, .int .i64 cl] 45)).alloc (.cells #[.int .i64 0, .string ⟨#[]⟩, .int .i64 0, .int .i64 0, .int .i64 0] 114))
  have HA0 := Lib.hid (allocOld (alloc0 w (.cells #[.int .i64 ln, .int .i64 cl] 45)) (.cells #[.int .i64 0, .string ⟨#[]⟩, .int .i64 0, .int .i64 0, .int .i64 0] 114))
  have HT0 := Lib.hid (alloc_at (w.alloc (.cells #[.int .i64 ln, .int .i64 cl] 45)) (.cells #[.int .i64 0, .string ⟨#[]⟩, .int .i64 0, .int .i64 0, .int .i64 0] 114) (n := w.heap.size + 1) (by simp))
  have HKW := Lib.hid (rIsKeyword_x s ((w.alloc (.cells #[.int .i64 ln, .int .i64 cl] 45)).alloc (.cells #[.int .i64 0, .string ⟨#[]⟩, .int .i64 0, .int .i64 0, .int .i64 0] 114)))
  have HNM := Lib.hid (fun W => rIsName_x s W)
  have HNB := Lib.hid (fun W => number_x s W hs)
  have hs2 : ((w.alloc (.cells #[.int .i64 ln, .int .i64 cl] 45)).alloc (.cells #[.int .i64 0, .string ⟨#[]⟩, .int .i64 0, .int .i64 0, .int .i64 0] 114)).heap.size = w.heap.size + 2 := by simp
  have HV0 : Hid (wdF iR s = if kwB s = true then ⟨3, s, 0, true⟩ else if nmB s = true then ⟨1, s, 0, true⟩ else ⟨2, nul, (iR s).1, (iR s).2⟩) := Lib.hid rfl
  obtain ⟨V, hV⟩ : ∃ V, wdF iR s = V := ⟨_, rfl⟩
  rw [hV] at HV0 ⊢
  clear hV
  obtain ⟨b1, hb1⟩ : ∃ b, kwB s = b := ⟨_, rfl⟩
  rw [hb1] at HKW HV0
  clear hb1
  obtain ⟨ab, hab⟩ : ∃ x, w.heap.size = x := ⟨_, rfl⟩
  obtain ⟨tb, htb⟩ : ∃ x, ab + 1 = x := ⟨_, rfl⟩
  rw [hab, htb] at HT0
  rw [hab] at HA0
  go_enter Tryz.func103, Tryz.ntmps103
  go_wp2_with fail
  try rw [hab]
  try rw [htb]
  generalize ((w.alloc (.cells #[.int .i64 ln, .int .i64 cl] 45)).alloc (.cells #[.int .i64 0, .string ⟨#[]⟩, .int .i64 0, .int .i64 0, .int .i64 0] 114)) = w1 at *
  refine HKW.out.mono ?_
  rintro e w2 ⟨rfl, h2⟩
  have HA2 := Lib.hid (h2.heap HA0.out (fun h => h))
  have HT2 := Lib.hid (h2.heap HT0.out (fun h => h))
  have HE2 := Lib.hid (HE0.out.trans h2)
  have hs3 := h2.size
  clear h2 HKW HA0 HT0 HE0
  cases b1
  case true =>
    have HV : Hid (V = ⟨3, s, 0, true⟩) := Lib.hid (by rw [HV0.out]; rfl)
    have HA := HA2
    have HT := HT2
    have HE := HE2
    have a0 := cellRow HA.out 0 (.int .i64 ln) rfl
    have a1 := cellRow HA.out 1 (.int .i64 cl) rfl
    have t0 := cellRow HT.out 0 (.int .i64 0) rfl
    have t1 := cellRow HT.out 1 (.string ⟨#[]⟩) rfl
    have t2 := cellRow HT.out 2 (.int .i64 0) rfl
    have t3 := cellRow HT.out 3 (.int .i64 0) rfl
    have t4 := cellRow HT.out 4 (.int .i64 0) rfl
    have ft := fun j => frozenRow HT.out j
    go_wp2_with fail
    have hr := st5_heap HT.out (.int .i64 3) (.string s) (.int .i64 0) (.int .i64 ln) (.int .i64 cl)
    have hu := st5_upd w2 tb (.int .i64 3) (.string s) (.int .i64 0) (.int .i64 ln) (.int .i64 cl)
    have e0 := cellRow hr 0 _ rfl
    have e1 := cellRow hr 1 _ rfl
    have e2 := cellRow hr 2 _ rfl
    have e3 := cellRow hr 3 _ rfl
    have e4 := cellRow hr 4 _ rfl
    refine bodyPost_ret (v := .tuple #[.agg #[.int .i64 3, .string s, .int .i64 0, .int .i64 ln, .int .i64 cl], .bool true]) (by simp [results, Tryz.results103, go_sem, e0, e1, e2, e3, e4]) rfl ?_
    rw [HV.out]
    exact ⟨rfl, HE.out.trans' hu (fun j hj e => by omega)⟩
  have HNM := Lib.hid (HNM.out w2)
  obtain ⟨b2, hb2⟩ : ∃ b, nmB s = b := ⟨_, rfl⟩
  rw [hb2] at HNM HV0
  clear hb2
  go_wp2_with fail
  refine HNM.out.mono ?_
  rintro e w4 ⟨rfl, h4⟩
  have HA4 := Lib.hid (h4.heap HA2.out (fun h => h))
  have HT4 := Lib.hid (h4.heap HT2.out (fun h => h))
  have HE4 := Lib.hid (HE2.out.trans h4)
  have hs5 := h4.size
  clear h4 HNM HA2 HT2 HE2
  cases b2
  case true =>
    have HV : Hid (V = ⟨1, s, 0, true⟩) := Lib.hid (by rw [HV0.out]; rfl)
    have HA := HA4
    have HT := HT4
    have HE := HE4
    have a0 := cellRow HA.out 0 (.int .i64 ln) rfl
    have a1 := cellRow HA.out 1 (.int .i64 cl) rfl
    have t0 := cellRow HT.out 0 (.int .i64 0) rfl
    have t1 := cellRow HT.out 1 (.string ⟨#[]⟩) rfl
    have t2 := cellRow HT.out 2 (.int .i64 0) rfl
    have t3 := cellRow HT.out 3 (.int .i64 0) rfl
    have t4 := cellRow HT.out 4 (.int .i64 0) rfl
    have ft := fun j => frozenRow HT.out j
    go_wp2_with fail
    have hr := st5_heap HT.out (.int .i64 1) (.string s) (.int .i64 0) (.int .i64 ln) (.int .i64 cl)
    have hu := st5_upd w4 tb (.int .i64 1) (.string s) (.int .i64 0) (.int .i64 ln) (.int .i64 cl)
    have e0 := cellRow hr 0 _ rfl
    have e1 := cellRow hr 1 _ rfl
    have e2 := cellRow hr 2 _ rfl
    have e3 := cellRow hr 3 _ rfl
    have e4 := cellRow hr 4 _ rfl
    refine bodyPost_ret (v := .tuple #[.agg #[.int .i64 1, .string s, .int .i64 0, .int .i64 ln, .int .i64 cl], .bool true]) (by simp [results, Tryz.results103, go_sem, e0, e1, e2, e3, e4]) rfl ?_
    rw [HV.out]
    exact ⟨rfl, HE.out.trans' hu (fun j hj e => by omega)⟩
  have HNB := Lib.hid (HNB.out w4)
  have HV : Hid (V = ⟨2, nul, (iR s).1, (iR s).2⟩) := Lib.hid (by rw [HV0.out]; rfl)
  obtain ⟨⟨nn, nk⟩, hnn⟩ : ∃ q, iR s = q := ⟨_, rfl⟩
  rw [hnn] at HNB HV
  dsimp only at HNB HV
  clear hnn HV0
  go_wp2_with fail
  refine HNB.out.mono ?_
  rintro e w6 ⟨rfl, h6⟩
  have HA6 := Lib.hid (h6.heap HA4.out (fun h => h))
  have HT6 := Lib.hid (h6.heap HT4.out (fun h => h))
  have HE6 := Lib.hid (HE4.out.trans h6)
  have hs7 := h6.size
  clear h6 HNB HA4 HT4 HE4
  have HA := HA6
  have HT := HT6
  have HE := HE6
  have a0 := cellRow HA.out 0 (.int .i64 ln) rfl
  have a1 := cellRow HA.out 1 (.int .i64 cl) rfl
  have t0 := cellRow HT.out 0 (.int .i64 0) rfl
  have t1 := cellRow HT.out 1 (.string ⟨#[]⟩) rfl
  have t2 := cellRow HT.out 2 (.int .i64 0) rfl
  have t3 := cellRow HT.out 3 (.int .i64 0) rfl
  have t4 := cellRow HT.out 4 (.int .i64 0) rfl
  have ft := fun j => frozenRow HT.out j
  go_wp2_with fail
  have hr := st5_heap HT.out (.int .i64 2) (.string ⟨#[]⟩) (.int .i64 nn) (.int .i64 ln) (.int .i64 cl)
  have hu := st5_upd w6 tb (.int .i64 2) (.string ⟨#[]⟩) (.int .i64 nn) (.int .i64 ln) (.int .i64 cl)
  have e0 := cellRow hr 0 _ rfl
  have e1 := cellRow hr 1 _ rfl
  have e2 := cellRow hr 2 _ rfl
  have e3 := cellRow hr 3 _ rfl
  have e4 := cellRow hr 4 _ rfl
  refine bodyPost_ret (v := .tuple #[.agg #[.int .i64 2, .string ⟨#[]⟩, .int .i64 nn, .int .i64 ln, .int .i64 cl], .bool nk]) (by simp [results, Tryz.results103, go_sem, e0, e1, e2, e3, e4]) rfl ?_
  rw [HV.out]
  exact ⟨rfl, HE.out.trans' hu (fun j hj e => by omega)⟩

def sy21 : List (List UInt8) := symL.map (·.data.toList)
theorem sy_small : ∀ k : Fin 21, 4 ≤ k.val → sy21.getD k.val [] = [(sy21.getD k.val []).headD 0] ∧ 0 ≤ Lib.indexByte symSet ((sy21.getD k.val []).headD 0) := by decide +kernel
theorem sy_have : ∀ c ∈ symSet, [c] ∈ sy21 := by decide +kernel
theorem hp1 (s : By) (c : UInt8) : hpB s [c] = true ↔ 0 < s.size ∧ s.data.toList.getD 0 0 = c := by
  have hz : s.data.toList.length = s.size := rfl
  unfold hpB
  show [c].isPrefixOf s.data.toList = true ↔ _
  rw [List.isPrefixOf_iff_prefix]
  cases h : s.data.toList with
  | nil => rw [h] at hz; simp at hz; simp; omega
  | cons a l =>
    rw [h] at hz
    simp at hz
    constructor
    · rintro ⟨t, ht⟩
      injection ht with e1 e2
      exact ⟨by omega, by rw [e1]; rfl⟩
    · rintro ⟨_, e⟩
      have e : a = c := e
      rw [e]; exact ⟨l, rfl⟩
theorem ix_mem (c : UInt8) : ∀ l : List UInt8, 0 ≤ Lib.indexByte l c → c ∈ l
  | [], h => by
    have : Lib.indexByte [] c = -1 := rfl
    omega
  | b :: l, h => by
    by_cases e : b = c
    · rw [e]; exact List.mem_cons_self ..
    · refine List.mem_cons_of_mem _ (ix_mem c l ?_)
      unfold Lib.indexByte at h
      rw [if_neg (by simpa using e)] at h
      have h2 := Lib.indexByte_ge l c
      by_cases h3 : Lib.indexByte l c = -1
      · rw [h3] at h
        exact absurd h (by decide)
      · omega
theorem symF_first (s : By) (k : Nat) (hk : k < 21) (h : ∀ j, j < k → hpB s (sy21.getD j []) = false) (ht : hpB s (sy21.getD k []) = true) : symF s = sy21.getD k [] := by
  unfold symF
  by_cases h4 : 4 ≤ k
  · obtain ⟨e1, e2⟩ := sy_small ⟨k, hk⟩ h4
    dsimp only at e1 e2
    obtain ⟨c, hc⟩ : ∃ c, (sy21.getD k []).headD 0 = c := ⟨_, rfl⟩
    rw [hc] at e1 e2
    rw [e1] at ht
    obtain ⟨h5, h6⟩ := (hp1 s c).1 ht
    rw [if_neg (by rw [show hpB s [61, 61] = false from h 0 (by omega)]; decide), if_neg (by rw [show hpB s [33, 61] = false from h 1 (by omega)]; decide), if_neg (by rw [show hpB s [60, 61] = false from h 2 (by omega)]; decide), if_neg (by rw [show hpB s [45, 62] = false from h 3 (by omega)]; decide), h6, if_pos ⟨h5, e2⟩, e1]
  · rcases (by omega : k = 0 ∨ k = 1 ∨ k = 2 ∨ k = 3) with rfl | rfl | rfl | rfl
    · rw [if_pos (show hpB s [61, 61] = true from ht)]; rfl
    · rw [if_neg (by rw [show hpB s [61, 61] = false from h 0 (by omega)]; decide), if_pos (show hpB s [33, 61] = true from ht)]; rfl
    · rw [if_neg (by rw [show hpB s [61, 61] = false from h 0 (by omega)]; decide), if_neg (by rw [show hpB s [33, 61] = false from h 1 (by omega)]; decide), if_pos (show hpB s [60, 61] = true from ht)]; rfl
    · rw [if_neg (by rw [show hpB s [61, 61] = false from h 0 (by omega)]; decide), if_neg (by rw [show hpB s [33, 61] = false from h 1 (by omega)]; decide), if_neg (by rw [show hpB s [60, 61] = false from h 2 (by omega)]; decide), if_pos (show hpB s [45, 62] = true from ht)]; rfl
theorem symF_none (s : By) (h : ∀ j, j < 21 → hpB s (sy21.getD j []) = false) : symF s = [] := by
  unfold symF
  rw [if_neg (by rw [show hpB s [61, 61] = false from h 0 (by omega)]; decide), if_neg (by rw [show hpB s [33, 61] = false from h 1 (by omega)]; decide), if_neg (by rw [show hpB s [60, 61] = false from h 2 (by omega)]; decide), if_neg (by rw [show hpB s [45, 62] = false from h 3 (by omega)]; decide)]
  refine if_neg (fun h2 => ?_)
  obtain ⟨j, hj, e⟩ := List.mem_iff_getElem.1 (sy_have _ (ix_mem _ _ h2.2))
  have hj2 : j < 21 := hj
  have h3 := h j hj2
  rw [List.getD_eq_getElem?_getD, List.getElem?_eq_getElem hj, e] at h3
  have h4 := (hp1 s _).2 ⟨h2.1, rfl⟩
  rw [Option.getD_some] at h3
  rw [h3] at h4
  cases h4
theorem ext0 (s : By) (n : Nat) : (s.extract 0 n).data.toList = s.data.toList.take n := by
  rw [ByteArray.data_extract, Array.toList_extract]
  simp [List.extract]
theorem pre_eq (s y : By) (h : y.size ≤ s.size) : (ByteArray.toList (s.extract 0 y.size) == ByteArray.toList y) = hpB s y.data.toList := by
  rw [Lib.toList_data, Lib.toList_data, ext0]
  unfold hpB
  show _ = y.data.toList.isPrefixOf s.data.toList
  rw [Bool.eq_iff_iff, beq_iff_eq, List.isPrefixOf_iff_prefix, List.prefix_iff_eq_take]
  exact ⟨fun e => e.symm, fun e => e.symm⟩
theorem pre_no (s y : By) (h : ¬ y.size ≤ s.size) : hpB s y.data.toList = false := by
  cases h2 : hpB s y.data.toList with
  | false => rfl
  | true =>
    have h3 : y.data.toList <+: s.data.toList := List.isPrefixOf_iff_prefix.1 h2
    exact absurd h3.length_le h
theorem sy_bg (k : Nat) : sy21.getD k [] = (bg symL k).data.toList := by
  unfold sy21 bg
  rw [List.getD_eq_getElem?_getD, List.getElem?_map, List.getD_eq_getElem?_getD]
  cases symL[k]? <;> rfl
set_option maxRecDepth 100000 in
set_option maxHeartbeats 2000000 in
theorem rsymbol_x (s : By) (w : World) (hs : s.size ≤ 1000000) : Calls Tryz.prog 104 #[.string s] w fun e w' => e = .returned (.string (bs (symF s))) ∧ Ext w w' := by
  obtain ⟨V, hV⟩ : ∃ V, symF s = V := ⟨_, rfl⟩
  rw [hV]
  have HV := Lib.hid hV
  clear hV
  have HSY := Lib.hid (symbols_x w)
  go_enter Tryz.func104, Tryz.ntmps104
  go_wp2_with fail
  refine HSY.out.mono ?_
  rintro e w1 ⟨a, rfl, hR, hw1⟩
  have HE1 := Lib.hid hw1
  obtain ⟨g, off, hga, hSg, hat⟩ := SlR.one_at (d := nul) (enc := Value.string) hR (by decide)
  have HAT : Hid (∀ k, k < 21 → w1.cell? ⟨g, off + k, none⟩ = some (.string (bg symL k))) := Lib.hid (fun k hk => hat k hk)
  subst hga
  clear hat hR hw1 HSY hSg
  have hn21 : symL.length = 21 := rfl
  rw [hn21]
  clear hn21
  go_wp2_with fail
  go_loopg [4] 21 (fun gk iv wr => ∃ k : Nat, iv = .int .i64 (k : Int) ∧ gk = 21 - k ∧ k ≤ 21 ∧ Hid (∀ j, j < k → hpB s (sy21.getD j []) = false) ∧ Hid (Ext w1 wr))
  case atStart => exact ⟨0, rfl, rfl, Nat.zero_le _, Lib.hid (fun j h => absurd h (Nat.not_lt_zero _)), Lib.hid (Upd.refl _ _)⟩
  case round =>
    obtain ⟨k, rfl, rfl, hk, HN, HE⟩ := hrel
    by_cases hlt : k < 21
    · have z0 : (0 : Int) ≤ (k : Int) := by omega
      have z1 : (k : Int) < 21 := by omega
      have z2 : decide ((k : Int) < 21) = true := decide_eq_true z1
      have hsy := sy_bg k
      have hcell := HE.out.cell (HAT.out k hlt) (fun h => h)
      obtain ⟨y, hy⟩ : ∃ y, bg symL k = y := ⟨_, rfl⟩
      rw [hy] at hsy hcell
      have HSYK := Lib.hid hsy
      have HYK := Lib.hid hy
      clear hsy hy
      obtain ⟨B, hB⟩ : ∃ B, hpB s y.data.toList = B := ⟨_, rfl⟩
      have HB := Lib.hid hB
      obtain ⟨wc, hwc⟩ : ∃ wc, wc = wr := ⟨_, rfl⟩
      rw [← hwc] at hcell
      rw [← hwc]
      have HWE : Hid (Ext w1 wc) := Lib.hid (by rw [hwc]; exact HE.out)
      clear hwc hB HE
      have HVT : Hid (B = true → V = y.data.toList) := Lib.hid (fun h => by
        rw [← HV.out, symF_first s k hlt HN.out (by rw [HSYK.out, HB.out, h]), HSYK.out])
      have HNX : Hid (B = false → ∀ j, j < k + 1 → hpB s (sy21.getD j []) = false) := Lib.hid (fun h j hj => by
        rcases Nat.lt_succ_iff_lt_or_eq.1 hj with h5 | h5
        · exact HN.out j h5
        · rw [h5, HSYK.out, HB.out, h])
      have HLE : Hid (y.size ≤ s.size → (ByteArray.toList (s.extract 0 y.size) == ByteArray.toList y) = B) := Lib.hid (fun h => by rw [pre_eq s y h, HB.out])
      have HGT : Hid (¬ y.size ≤ s.size → B = false) := Lib.hid (fun h => by rw [← HB.out, pre_no s y h])
      clear HB HN
      by_cases hle : y.size ≤ s.size
      · have heq := HLE.out hle
        have y1 : (y.size : Int) ≤ (s.size : Int) := by omega
        have y2 : decide ((y.size : Int) ≤ (s.size : Int)) = true := decide_eq_true y1
        have y0 : (0 : Int) ≤ (y.size : Int) := by omega
        clear HLE HGT
        go_wp2_with fail
        go_quiet (fail)
        have HZ := Lib.hid (HWE.out.trans ((Upd.refl (fun _ => False) wc).drewN' nq))
        clear hcell
        generalize wc.drewN nq = wz at *
        cases B
        · have HN2 := Lib.hid (HNX.out (by simp))
          go_wp2_with fail
          go_roundg (21 - (k + 1))
          case measure => omega
          case rel => exact ⟨k + 1, by go_num, rfl, by omega, HN2, HZ⟩
        · have HV2 := Lib.hid (HVT.out (by simp))
          have hcell := HZ.out.cell (HAT.out k hlt) (fun h => h)
          rw [HYK.out] at hcell
          go_wp2_with fail
          go_ret
          rw [HV2.out, bs_of]
          exact ⟨rfl, HE1.out.trans HZ.out⟩
      · have hB := HGT.out hle
        subst hB
        have y1 : ¬ (y.size : Int) ≤ (s.size : Int) := by omega
        have y2 : decide ((y.size : Int) ≤ (s.size : Int)) = false := decide_eq_false y1
        clear HLE HGT
        go_wp2_with fail
        go_quiet (fail)
        have HZ := Lib.hid (HWE.out.trans ((Upd.refl (fun _ => False) wc).drewN' nq))
        clear hcell
        generalize wc.drewN nq = wz at *
        have HN2 := Lib.hid (HNX.out (by simp))
        go_wp2_with fail
        go_roundg (21 - (k + 1))
        case measure => omega
        case rel => exact ⟨k + 1, by go_num, rfl, by omega, HN2, HZ⟩
    · obtain rfl : k = 21 := by omega
      have HV2 : Hid (V = []) := Lib.hid (by rw [← HV.out, symF_none s HN.out])
      clear hlt
      go_wp2_with fail
      go_ret
      rw [HV2.out]
      exact ⟨rfl, HE1.out.trans HE.out⟩

end Go.Proofs.YtjjaknmnhhfjeaaGreatDoor
