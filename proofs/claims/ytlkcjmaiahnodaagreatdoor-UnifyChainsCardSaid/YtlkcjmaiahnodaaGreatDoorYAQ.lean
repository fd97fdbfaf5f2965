/- The texts N48 N44 N49 N50, one behind the other. -/
import Derived.Test.YtlkcjmaiahnodaaGreatDoorYAP
import Derived.Test.YtlkcjmaiahnodaaGreatDoorYAN
import Derived.Test.YtlkcjmaiahnodaaGreatDoorYAM
import Derived.Test.YtlkcjmaiahnodaaGreatDoorYAI
import Derived.Test.YtlkcjmaiahnodaaGreatDoorYAL
/- Compose, of the reference. -/
namespace Go.Proofs.YtlkcjmaiahnodaaGreatDoor
open Go.RowKit Go.Hw Go
set_option linter.unusedVariables false
set_option linter.unusedSimpArgs false

open Tm Go.Sort Go.Proofs Go.ChangeMaps
end Go.Proofs.YtlkcjmaiahnodaaGreatDoor

/- The law UnifyApplies. -/
namespace Go.Proofs.YtlkcjmaiahnodaaGreatDoor
open Go.RowKit Go.Hw Go
set_option linter.unusedVariables false
set_option linter.unusedSimpArgs false

open Tm Go.Sort Go.Proofs Go.ChangeMaps
theorem fits_one {a : Tm} (h : (fwL [a] 60).1 = true) : a.size ≤ 60 ∧ ∀ x ∈ sbts a, x.name.size ≤ 60 ∧ x.sort.size ≤ 60 := by
  unfold fwL at h
  cases hp : fwT a 60 with
  | mk b1 j1 =>
    rw [hp] at h
    cases b1 with
    | false => cases h
    | true =>
      have h1 := fw_size a 60 (by decide) (by rw [hp])
      have g1 := fw_lt a 60 (by decide) (by rw [hp])
      rw [hp] at h1 g1
      simp only at h1 g1
      exact ⟨by omega, h1.2⟩
theorem sizB_mem {l : List Bd} {b : Bd} (h : b ∈ l) : b.2.2.size ≤ sizB l := by
  induction l with
  | nil => cases h
  | cons x l ih =>
    unfold sizB
    rcases List.mem_cons.1 h with e | h
    · rw [e]; omega
    · have := ih h; omega
theorem light_of {l : List Bd} (h : (decide (l.length ≤ 12) && (fwB l 60).1) = true) : l.length ≤ 12 ∧ ∀ b ∈ l, b.2.2.size ≤ 60 := by
  rw [Bool.and_eq_true, decide_eq_true_eq] at h
  have h2 := fwB_spec l 60 (by decide) h.2
  exact ⟨h.1, fun b hb => by have := sizB_mem hb; have := h2.1; omega⟩
end Go.Proofs.YtlkcjmaiahnodaaGreatDoor

/- The law UnifyComposes. -/
namespace Go.Proofs.YtlkcjmaiahnodaaGreatDoor
open Go.RowKit Go.Hw Go
set_option linter.unusedVariables false
set_option linter.unusedSimpArgs false

open Tm Go.Sort Go.Proofs Go.ChangeMaps
theorem cmpF_err {a b : List Bd} (h : (cmpF nmB a b).2 ≠ 0) : (cmpF nmB a b).1 = [] := by
  unfold cmpF at h ⊢
  split
  · rfl
  · rename_i h1
    rw [if_neg h1] at h
    split
    · rename_i h2
      rw [if_pos h2] at h
      split
      · rfl
      · rename_i h3
        rw [if_neg h3] at h
        exact absurd rfl h
    · rfl
theorem cmpF_vld {a b : List Bd} : (cmpF nmB a b).1 = [] ∨ vldB nmB (cmpF nmB a b).1 = true := by
  by_cases h : (cmpF nmB a b).2 = 0
  · exact .inr ((Cm.of (show cmpF nmB a b = ((cmpF nmB a b).1, 0) by rw [← h])).vld nmB_nul)
  · exact .inl (cmpF_err h)
theorem cmpF_bound (a b : List Bd) : (cmpF nmB a b).1.length ≤ 1000 ∧ ∀ x ∈ (cmpF nmB a b).1, x.2.2.size ≤ 1000 := by
  rcases cmpF_vld (a := a) (b := b) with h | h
  · rw [h]; exact ⟨by simp, fun x hx => by cases hx⟩
  · exact ⟨(vldB_spec h).1, fun x hx => wf_size ((vldB_spec h).2.2 x hx).2.2.1⟩
end Go.Proofs.YtlkcjmaiahnodaaGreatDoor

/- The law UnifyChains. -/
namespace Go.Proofs.YtlkcjmaiahnodaaGreatDoor
open Go.RowKit Go.Hw Go
set_option linter.unusedVariables false
set_option linter.unusedSimpArgs false

open Tm Go.Sort Go.Proofs Go.ChangeMaps
theorem appF_size (l : List Bd) (t : Tm) : (appF nmB l t).1.size ≤ 1000 := by
  unfold appF
  split
  · unfold app1
    split
    · show 1 ≤ _; decide
    · split
      · show 1 ≤ _; decide
      · split
        · show 1 ≤ _; decide
        · rename_i h _; simp only; omega
  · show 1 ≤ _; decide
set_option maxRecDepth 100000 in
set_option maxHeartbeats 2000000 in
theorem chains_law (a b c : List Bd) (t : Tm) (v0 v1 v2 v3 : Value) (w : World) (hA : BnR (fun k => k < w.heap.size) (fun k => k < w.heap.size) w v0 a) (hma : a.length ≤ maxLen) (hB : BnR (fun k => k < w.heap.size) (fun k => k < w.heap.size) w v1 b) (hmb : b.length ≤ maxLen) (hC : BnR (fun k => k < w.heap.size) (fun k => k < w.heap.size) w v2 c) (hmc : c.length ≤ maxLen) (hR : TmR (fun k => k < w.heap.size) w t v3) (htab : AscT w) :
    Calls Tryz.prog 7 #[v0, v1, v2, v3] w fun e w' => e = .returned (.bool true) ∧ Ext w w' := by
  have HAW := Lib.hid (fun W (hW : Ext w W) => awake_x W (asc_ext htab hW))
  have hbA : ∀ W, Ext w W → BnR (fun k => k < W.heap.size) (fun k => k < W.heap.size) W v0 a := fun W hW => (hA.ext hW).weaken (fun k hk => Nat.lt_of_lt_of_le hk hW.size) (fun k hk => Nat.lt_of_lt_of_le hk hW.size)
  have hbB : ∀ W, Ext w W → BnR (fun k => k < W.heap.size) (fun k => k < W.heap.size) W v1 b := fun W hW => (hB.ext hW).weaken (fun k hk => Nat.lt_of_lt_of_le hk hW.size) (fun k hk => Nat.lt_of_lt_of_le hk hW.size)
  have hbC : ∀ W, Ext w W → BnR (fun k => k < W.heap.size) (fun k => k < W.heap.size) W v2 c := fun W hW => (hC.ext hW).weaken (fun k hk => Nat.lt_of_lt_of_le hk hW.size) (fun k hk => Nat.lt_of_lt_of_le hk hW.size)
  have hbT : ∀ W, Ext w W → TmR (fun k => k < W.heap.size) W t v3 := fun W hW => (hR.ext hW).weaken (fun k hk => Nat.lt_of_lt_of_le hk hW.size)
  unfold maxLen at hma hmb hmc
  have HLA := Lib.hid (fun W (hW : Ext w W) => light_x a v0 W (hbA W hW) (by omega))
  have HLB := Lib.hid (fun W (hW : Ext w W) => light_x b v1 W (hbB W hW) (by omega))
  have HLC := Lib.hid (fun W (hW : Ext w W) => light_x c v2 W (hbC W hW) (by omega))
  have HAB := Lib.hid hbA
  have HBB := Lib.hid hbB
  have HCB := Lib.hid hbC
  have HTB := Lib.hid hbT
  have HTAB := Lib.hid htab
  obtain ⟨va, vc, rfl⟩ := hA.shape
  obtain ⟨ua, uc, rfl⟩ := hB.shape
  obtain ⟨wa0, wc0, rfl⟩ := hC.shape
  obtain ⟨ta, tc, rfl, hT⟩ := hR
  dsimp only [tV] at HTB ⊢
  have HTL := Lib.hid hT
  have HZ := Lib.hid ((Upd.refl (fun _ => False) w).alloc (.cells #[.string t.name, .string t.sort, .slice ta t.kids.length tc] 24))
  have H2 := Lib.hid (alloc0 w (.cells #[.string t.name, .string t.sort, .slice ta t.kids.length tc] 24))
  clear hT htab hA hB hC hbA hbB hbC hbT hma hmb hmc
  go_enter Tryz.func7, Tryz.ntmps7
  go_wp2_with fail
  generalize w.alloc (.cells #[.string t.name, .string t.sort, .slice ta t.kids.length tc] 24) = wz at *
  refine (HAW.out _ HZ.out).mono ?_
  rintro e w1 ⟨rfl, hw1⟩
  have HE1 := Lib.hid (HZ.out.trans hw1)
  have H21 := Lib.hid (hw1.heap H2.out (fun h => h))
  clear hw1 HAW HZ H2
  go_wp2_with fail
  refine (HLA.out _ HE1.out).mono ?_
  rintro e w2 ⟨rfl, hw2⟩
  have HE2 := Lib.hid (HE1.out.trans hw2)
  have H22 := Lib.hid (hw2.heap H21.out (fun h => h))
  clear hw2 HLA HE1 H21
  cases hb1 : (decide (a.length ≤ 12) && (fwB a 60).1)
  · have HEE := HE2
    clear hb1
    go_wp2_with fail
    all_goals go_ret
    all_goals exact ⟨rfl, HEE.out⟩
  have HAL := Lib.hid (light_of hb1)
  clear hb1
  go_wp2_with fail
  refine (HLB.out _ HE2.out).mono ?_
  rintro e w3 ⟨rfl, hw3⟩
  have HE3 := Lib.hid (HE2.out.trans hw3)
  have H23 := Lib.hid (hw3.heap H22.out (fun h => h))
  clear hw3 HLB HE2 H22
  cases hb2 : (decide (b.length ≤ 12) && (fwB b 60).1)
  · have HEE := HE3
    clear hb2
    go_wp2_with fail
    all_goals go_ret
    all_goals exact ⟨rfl, HEE.out⟩
  have HBL := Lib.hid (light_of hb2)
  clear hb2
  go_wp2_with fail
  refine (HLC.out _ HE3.out).mono ?_
  rintro e w4 ⟨rfl, hw4⟩
  have HE4 := Lib.hid (HE3.out.trans hw4)
  have H24 := Lib.hid (hw4.heap H23.out (fun h => h))
  clear hw4 HLC HE3 H23
  cases hb3 : (decide (c.length ≤ 12) && (fwB c 60).1)
  · have HEE := HE4
    clear hb3
    go_wp2_with fail
    all_goals go_ret
    all_goals exact ⟨rfl, HEE.out⟩
  have HCL := Lib.hid (light_of hb3)
  clear hb3
  have x0 := cellRow H24.out 0 (.string t.name) rfl
  have x1 := cellRow H24.out 1 (.string t.sort) rfl
  have x2 := cellRow H24.out 2 (.slice ta t.kids.length tc) rfl
  have hX5 := (Upd.refl (fun _ => False) w4).alloc (.cells #[.string t.name, .string t.sort, .slice ta t.kids.length tc] 24)
  have HFI := Lib.hid (fits_x [t] _ (fun k => k < (w4.alloc (.cells #[.string t.name, .string t.sort, .slice ta t.kids.length tc] 24)).heap.size) _ (one_tl (alloc0 w4 (.cells #[.string t.name, .string t.sort, .slice ta t.kids.length tc] 24)) (by simp) (((HTL.out.ext HE4.out).ext hX5).weaken (fun k hk => Nat.lt_of_lt_of_le hk (Nat.le_trans HE4.out.size hX5.size)))) (fun k hk => hk))
  have H25 := Lib.hid (hX5.heap H24.out (fun h => h))
  have HE5 := Lib.hid (HE4.out.trans hX5)
  clear hX5
  go_wp2_with fail
  generalize w4.alloc (.cells #[.string t.name, .string t.sort, .slice ta t.kids.length tc] 24) = w5 at *
  refine HFI.out.mono ?_
  rintro e w6 ⟨rfl, hw6⟩
  have HE6 := Lib.hid (HE5.out.trans hw6)
  have H26 := Lib.hid (hw6.heap H25.out (fun h => h))
  clear hw6 HFI x0 x1 x2 HE5 H25 HE4 H24
  cases hb4 : (fwL [t] 60).1
  · have HEE := HE6
    clear hb4
    go_wp2_with fail
    all_goals go_ret
    all_goals exact ⟨rfl, HEE.out⟩
  have hft := fits_one hb4
  have HTS := Lib.hid hft.1
  have HA1 := Lib.hid (uApply_x a t _ _ w6 (asc_ext HTAB.out HE6.out) (HAB.out w6 HE6.out) (HTB.out w6 HE6.out) (by have := HAL.out.1; omega) (fun b hb => by have := HAL.out.2 b hb; omega) (by have := HTS.out; omega))
  have hxs := appF_size a t
  obtain ⟨X, hX⟩ : ∃ X, appF nmB a t = X := ⟨_, rfl⟩
  have HXE := Lib.hid hX
  rw [hX] at HA1 hxs
  have HXS := Lib.hid hxs
  obtain ⟨x, xn⟩ := X
  simp only at HA1 HXS
  have x0 := cellRow H26.out 0 (.string t.name) rfl
  have x1 := cellRow H26.out 1 (.string t.sort) rfl
  have x2 := cellRow H26.out 2 (.slice ta t.kids.length tc) rfl
  clear hb4 hft hxs hX
  go_wp2_with fail
  refine HA1.out.mono ?_
  rintro e w7 ⟨r7, B7, rfl, hT7, hb7, hw7⟩
  obtain ⟨xa, xc, hry⟩ := TlO.shape hT7
  subst hry
  have hX8 := hw7.alloc (.cells #[.string x.name, .string x.sort, .slice xa x.kids.length xc] 24)
  have HE8 := Lib.hid (HE6.out.trans hX8)
  have H28 := Lib.hid (hX8.heap H26.out (fun h => h))
  have HQ8 := Lib.hid (alloc0 w7 (.cells #[.string x.name, .string x.sort, .slice xa x.kids.length xc] 24))
  have HTX8 := Lib.hid ((hT7.read.ext ((Upd.refl (fun _ => False) w7).alloc (.cells #[.string x.name, .string x.sort, .slice xa x.kids.length xc] 24))).weaken (fun k hk => Nat.lt_of_lt_of_le (hb7 k hk).2 ((Upd.refl (fun _ => False) w7).alloc (.cells #[.string x.name, .string x.sort, .slice xa x.kids.length xc] 24)).size))
  have HA2 := Lib.hid (uApply_x b x _ (tV x (.slice xa x.kids.length xc)) (w7.alloc (.cells #[.string x.name, .string x.sort, .slice xa x.kids.length xc] 24)) (asc_ext HTAB.out HE8.out) (HBB.out _ HE8.out) ⟨xa, xc, rfl, HTX8.out⟩ (by have := HBL.out.1; omega) (fun b hb => by have := HBL.out.2 b hb; omega) (by have := HXS.out; omega))
  have hys := appF_size b x
  obtain ⟨Y, hY⟩ : ∃ Y, appF nmB b x = Y := ⟨_, rfl⟩
  have HYE := Lib.hid hY
  rw [hY] at HA2 hys
  have HYS := Lib.hid hys
  obtain ⟨y, yn⟩ := Y
  simp only at HA2 HYS
  dsimp only [tV] at HA2 ⊢
  clear hT7 hb7 hw7 hX8 HA1 x0 x1 x2 H26 HE6 hys hY
  have x0 := cellRow HQ8.out 0 (.string x.name) rfl
  have x1 := cellRow HQ8.out 1 (.string x.sort) rfl
  have x2 := cellRow HQ8.out 2 (.slice xa x.kids.length xc) rfl
  go_wp2_with fail
  generalize w7.alloc (.cells #[.string x.name, .string x.sort, .slice xa x.kids.length xc] 24) = w8 at *
  refine HA2.out.mono ?_
  rintro e w9 ⟨r9, B9, rfl, hT9, hb9, hw9⟩
  obtain ⟨ya, yc, hry⟩ := TlO.shape hT9
  subst hry
  have hX10 := hw9.alloc (.cells #[.string y.name, .string y.sort, .slice ya y.kids.length yc] 24)
  have HE10 := Lib.hid (HE8.out.trans hX10)
  have H210 := Lib.hid (hX10.heap H28.out (fun h => h))
  have HQ10 := Lib.hid (alloc0 w9 (.cells #[.string y.name, .string y.sort, .slice ya y.kids.length yc] 24))
  have HTY10 := Lib.hid (hT9.read.ext ((Upd.refl (fun _ => False) w9).alloc (.cells #[.string y.name, .string y.sort, .slice ya y.kids.length yc] 24)))
  have HCM := Lib.hid (compose_x a b _ _ (w9.alloc (.cells #[.string y.name, .string y.sort, .slice ya y.kids.length yc] 24)) (asc_ext HTAB.out HE10.out) (HAB.out _ HE10.out) (HBB.out _ HE10.out) (by have := HAL.out.1; omega) (by have := HBL.out.1; omega) (fun b hb => by have := HAL.out.2 b hb; omega) (fun b hb => by have := HBL.out.2 b hb; omega))
  have HGB := Lib.hid (cmpF_bound a b)
  have HGE := Lib.hid (fun h => cmpF_err (a := a) (b := b) h)
  obtain ⟨G, hG⟩ : ∃ G, cmpF nmB a b = G := ⟨_, rfl⟩
  have HGQ := Lib.hid hG
  rw [hG] at HCM HGB HGE
  obtain ⟨gs, gn⟩ := G
  have HBC := Lib.hid (fun W (hW : Ext w W) => compose_x b c _ _ W (asc_ext HTAB.out hW) (HBB.out _ hW) (HCB.out _ hW) (by have := HBL.out.1; omega) (by have := HCL.out.1; omega) (fun b hb => by have := HBL.out.2 b hb; omega) (fun b hb => by have := HCL.out.2 b hb; omega))
  have HUB := Lib.hid (cmpF_bound b c)
  have HUE := Lib.hid (fun h => cmpF_err (a := b) (b := c) h)
  obtain ⟨U, hU⟩ : ∃ G, cmpF nmB b c = G := ⟨_, rfl⟩
  have HUQ := Lib.hid hU
  rw [hU] at HBC HUB HUE
  obtain ⟨us, un⟩ := U
  simp only at HCM HGB HGE HBC HUB HUE
  dsimp only [tV]
  clear hT9 hb9 hw9 hX10 HA2 x0 x1 x2 H28 HE8 HQ8 HTX8 hG hU
  go_wp2_with fail
  generalize w9.alloc (.cells #[.string y.name, .string y.sort, .slice ya y.kids.length yc] 24) = w10 at *
  refine HCM.out.mono ?_
  rintro e w11 ⟨r11, rfl, hb11, hw11⟩
  have HE11 := Lib.hid (HE10.out.trans hw11)
  have H211 := Lib.hid (hw11.heap H210.out (fun h => h))
  have HQ11 := Lib.hid (hw11.heap HQ10.out (fun h => h))
  have HTY11 := Lib.hid (HTY10.out.ext hw11)
  have HS11 := Lib.hid (hb11.weaken (fun k hk => (hk.2 : k < w11.heap.size)) (fun k hk => (hk.2 : k < w11.heap.size)))
  obtain ⟨sa, sc, hrs⟩ := hb11.shape
  subst hrs
  clear hw11 hb11 HCM H210 HE10 HQ10 HTY10
  by_cases hx : xn = 0
  rotate_left
  · have tx1 : (xn == 0) = false := beq_eq_false_iff_ne.2 hx
    have tx2 : decide (xn = 0) = false := decide_eq_false hx
    clear hx
    go_wp2_with fail
    refine (HBC.out _ HE11.out).mono ?_
    rintro e wa ⟨ra, rfl, hba, hwa⟩
    have HEa := Lib.hid (HE11.out.trans hwa)
    have HSa := Lib.hid ((HS11.out.ext hwa).weaken (fun k hk => Nat.lt_of_lt_of_le hk hwa.size) (fun k hk => Nat.lt_of_lt_of_le hk hwa.size))
    have HUa := Lib.hid hba
    obtain ⟨u1, u2, hra⟩ := hba.shape
    subst hra
    clear hwa hba
    by_cases hg : gn = 0
    rotate_left
    · obtain rfl : gs = [] := HGE.out hg
      have tg1 : (gn == 0) = false := beq_eq_false_iff_ne.2 hg
      have tg2 : decide (gn = 0) = false := decide_eq_false hg
      have HEE := HEa
      clear hg
      go_wp2_with fail
      all_goals go_ret
      all_goals exact ⟨rfl, HEE.out⟩
    subst hg
    by_cases hu : un = 0
    rotate_left
    · obtain rfl : us = [] := HUE.out hu
      have tu1 : (un == 0) = false := beq_eq_false_iff_ne.2 hu
      have tu2 : decide (un = 0) = false := decide_eq_false hu
      have HEE := HEa
      clear hu
      go_wp2_with fail
      all_goals go_ret
      all_goals exact ⟨rfl, HEE.out⟩
    subst hu
    have HSC := Lib.hid (compose_x gs c _ _ wa (asc_ext HTAB.out HEa.out) HSa.out (HCB.out wa HEa.out) (by have := HGB.out.1; omega) (by have := HCL.out.1; omega) (fun b hb => by have := HGB.out.2 b hb; omega) (fun b hb => by have := HCL.out.2 b hb; omega))
    have HPB := Lib.hid (cmpF_bound gs c)
    obtain ⟨P, hP⟩ : ∃ P, cmpF nmB gs c = P := ⟨_, rfl⟩
    have HPE := Lib.hid hP
    rw [hP] at HSC HPB
    obtain ⟨ps, pn⟩ := P
    simp only at HSC HPB
    clear hP
    go_wp2_with fail
    refine HSC.out.mono ?_
    rintro e wb ⟨rb, rfl, hbb, hwb⟩
    have HEb := Lib.hid (HEa.out.trans hwb)
    have HPb := Lib.hid hbb
    have HUb := Lib.hid ((HUa.out.ext hwb).weaken (fun k hk => Nat.lt_of_lt_of_le hk.2 hwb.size) (fun k hk => Nat.lt_of_lt_of_le hk.2 hwb.size))
    have HAU := Lib.hid (compose_x a us _ _ wb (asc_ext HTAB.out HEb.out) (HAB.out wb HEb.out) HUb.out (by have := HAL.out.1; omega) (by have := HUB.out.1; omega) (fun b hb => by have := HAL.out.2 b hb; omega) (fun b hb => by have := HUB.out.2 b hb; omega))
    obtain ⟨Q, hQ⟩ : ∃ Q, cmpF nmB a us = Q := ⟨_, rfl⟩
    have HQE := Lib.hid hQ
    rw [hQ] at HAU
    obtain ⟨qs, qn⟩ := Q
    simp only at HAU
    obtain ⟨p1, p2, hrb⟩ := hbb.shape
    subst hrb
    clear hQ hwb hbb HSC
    go_wp2_with fail
    refine HAU.out.mono ?_
    rintro e wd ⟨rd, rfl, hbd, hwd⟩
    have HEd := Lib.hid (HEb.out.trans hwd)
    have HQd := Lib.hid hbd
    have HPd := Lib.hid (HPb.out.ext hwd)
    obtain ⟨q1, q2, hrd⟩ := hbd.shape
    subst hrd
    clear hwd hbd HAU
    by_cases hp : pn = 0
    rotate_left
    · have tp1 : (pn == 0) = false := beq_eq_false_iff_ne.2 hp
      have tp2 : decide (pn = 0) = false := decide_eq_false hp
      have HEE := HEd
      go_wp2_with fail
      all_goals go_ret
      all_goals exact ⟨rfl, HEE.out⟩
    subst hp
    by_cases hq : qn = 0
    rotate_left
    · have tq1 : (qn == 0) = false := beq_eq_false_iff_ne.2 hq
      have tq2 : decide (qn = 0) = false := decide_eq_false hq
      have HEE := HEd
      go_wp2_with fail
      all_goals go_ret
      all_goals exact ⟨rfl, HEE.out⟩
    subst hq
    have hpq : ps = qs := assoc_law nmB_nul HGQ.out HUQ.out HPE.out HQE.out
    have HSM := Lib.hid (rsameB_x ps qs _ _ _ _ _ _ wd HPd.out HQd.out (fun x hx => by have := HPB.out.2 x hx; omega) (by have := HPB.out.1; omega))
    rw [decide_eq_true hpq] at HSM
    clear hpq
    go_wp2_with fail
    refine HSM.out.mono ?_
    rintro e wf ⟨rfl, hwf⟩
    have HEE := Lib.hid (HEd.out.trans hwf)
    clear hwf HSM
    go_wp2_with fail
    all_goals go_ret
    all_goals exact ⟨rfl, HEE.out⟩
  subst hx
  by_cases hy : yn = 0
  rotate_left
  · have ty1 : (yn == 0) = false := beq_eq_false_iff_ne.2 hy
    have ty2 : decide (yn = 0) = false := decide_eq_false hy
    clear hy
    go_wp2_with fail
    refine (HBC.out _ HE11.out).mono ?_
    rintro e wa ⟨ra, rfl, hba, hwa⟩
    have HEa := Lib.hid (HE11.out.trans hwa)
    have HSa := Lib.hid ((HS11.out.ext hwa).weaken (fun k hk => Nat.lt_of_lt_of_le hk hwa.size) (fun k hk => Nat.lt_of_lt_of_le hk hwa.size))
    have HUa := Lib.hid hba
    obtain ⟨u1, u2, hra⟩ := hba.shape
    subst hra
    clear hwa hba
    by_cases hg : gn = 0
    rotate_left
    · obtain rfl : gs = [] := HGE.out hg
      have tg1 : (gn == 0) = false := beq_eq_false_iff_ne.2 hg
      have tg2 : decide (gn = 0) = false := decide_eq_false hg
      have HEE := HEa
      clear hg
      go_wp2_with fail
      all_goals go_ret
      all_goals exact ⟨rfl, HEE.out⟩
    subst hg
    by_cases hu : un = 0
    rotate_left
    · obtain rfl : us = [] := HUE.out hu
      have tu1 : (un == 0) = false := beq_eq_false_iff_ne.2 hu
      have tu2 : decide (un = 0) = false := decide_eq_false hu
      have HEE := HEa
      clear hu
      go_wp2_with fail
      all_goals go_ret
      all_goals exact ⟨rfl, HEE.out⟩
    subst hu
    have HSC := Lib.hid (compose_x gs c _ _ wa (asc_ext HTAB.out HEa.out) HSa.out (HCB.out wa HEa.out) (by have := HGB.out.1; omega) (by have := HCL.out.1; omega) (fun b hb => by have := HGB.out.2 b hb; omega) (fun b hb => by have := HCL.out.2 b hb; omega))
    have HPB := Lib.hid (cmpF_bound gs c)
    obtain ⟨P, hP⟩ : ∃ P, cmpF nmB gs c = P := ⟨_, rfl⟩
    have HPE := Lib.hid hP
    rw [hP] at HSC HPB
    obtain ⟨ps, pn⟩ := P
    simp only at HSC HPB
    clear hP
    go_wp2_with fail
    refine HSC.out.mono ?_
    rintro e wb ⟨rb, rfl, hbb, hwb⟩
    have HEb := Lib.hid (HEa.out.trans hwb)
    have HPb := Lib.hid hbb
    have HUb := Lib.hid ((HUa.out.ext hwb).weaken (fun k hk => Nat.lt_of_lt_of_le hk.2 hwb.size) (fun k hk => Nat.lt_of_lt_of_le hk.2 hwb.size))
    have HAU := Lib.hid (compose_x a us _ _ wb (asc_ext HTAB.out HEb.out) (HAB.out wb HEb.out) HUb.out (by have := HAL.out.1; omega) (by have := HUB.out.1; omega) (fun b hb => by have := HAL.out.2 b hb; omega) (fun b hb => by have := HUB.out.2 b hb; omega))
    obtain ⟨Q, hQ⟩ : ∃ Q, cmpF nmB a us = Q := ⟨_, rfl⟩
    have HQE := Lib.hid hQ
    rw [hQ] at HAU
    obtain ⟨qs, qn⟩ := Q
    simp only at HAU
    obtain ⟨p1, p2, hrb⟩ := hbb.shape
    subst hrb
    clear hQ hwb hbb HSC
    go_wp2_with fail
    refine HAU.out.mono ?_
    rintro e wd ⟨rd, rfl, hbd, hwd⟩
    have HEd := Lib.hid (HEb.out.trans hwd)
    have HQd := Lib.hid hbd
    have HPd := Lib.hid (HPb.out.ext hwd)
    obtain ⟨q1, q2, hrd⟩ := hbd.shape
    subst hrd
    clear hwd hbd HAU
    by_cases hp : pn = 0
    rotate_left
    · have tp1 : (pn == 0) = false := beq_eq_false_iff_ne.2 hp
      have tp2 : decide (pn = 0) = false := decide_eq_false hp
      have HEE := HEd
      go_wp2_with fail
      all_goals go_ret
      all_goals exact ⟨rfl, HEE.out⟩
    subst hp
    by_cases hq : qn = 0
    rotate_left
    · have tq1 : (qn == 0) = false := beq_eq_false_iff_ne.2 hq
      have tq2 : decide (qn = 0) = false := decide_eq_false hq
      have HEE := HEd
      go_wp2_with fail
      all_goals go_ret
      all_goals exact ⟨rfl, HEE.out⟩
    subst hq
    have hpq : ps = qs := assoc_law nmB_nul HGQ.out HUQ.out HPE.out HQE.out
    have HSM := Lib.hid (rsameB_x ps qs _ _ _ _ _ _ wd HPd.out HQd.out (fun x hx => by have := HPB.out.2 x hx; omega) (by have := HPB.out.1; omega))
    rw [decide_eq_true hpq] at HSM
    clear hpq
    go_wp2_with fail
    refine HSM.out.mono ?_
    rintro e wf ⟨rfl, hwf⟩
    have HEE := Lib.hid (HEd.out.trans hwf)
    clear hwf HSM
    go_wp2_with fail
    all_goals go_ret
    all_goals exact ⟨rfl, HEE.out⟩
  subst hy
  by_cases hg : gn = 0
  rotate_left
  · have hg' := hg
    have tk1 : (gn == 0) = false := beq_eq_false_iff_ne.2 hg
    have tk2 : decide (gn = 0) = false := decide_eq_false hg
    have hg := hg'
    clear hg'
    go_wp2_with fail
    refine (HBC.out _ HE11.out).mono ?_
    rintro e wa ⟨ra, rfl, hba, hwa⟩
    have HEa := Lib.hid (HE11.out.trans hwa)
    have HSa := Lib.hid ((HS11.out.ext hwa).weaken (fun k hk => Nat.lt_of_lt_of_le hk hwa.size) (fun k hk => Nat.lt_of_lt_of_le hk hwa.size))
    have HUa := Lib.hid hba
    obtain ⟨u1, u2, hra⟩ := hba.shape
    subst hra
    clear hwa hba
    obtain rfl : gs = [] := HGE.out hg
    have HEE := HEa
    clear hg
    go_wp2_with fail
    all_goals go_ret
    all_goals exact ⟨rfl, HEE.out⟩
  subst hg
  have hch := chain_law nmB_nul HXE.out HYE.out HGQ.out
  have HA3 := Lib.hid (uApply_x gs t _ _ w11 (asc_ext HTAB.out HE11.out) HS11.out (HTB.out w11 HE11.out) (by have := HGB.out.1; omega) (fun b hb => by have := HGB.out.2 b hb; omega) (by have := HTS.out; omega))
  rw [hch] at HA3
  simp only at HA3
  have x0 := cellRow H211.out 0 (.string t.name) rfl
  have x1 := cellRow H211.out 1 (.string t.sort) rfl
  have x2 := cellRow H211.out 2 (.slice ta t.kids.length tc) rfl
  clear hch
  go_wp2_with fail
  refine HA3.out.mono ?_
  rintro e w12 ⟨r12, B12, rfl, hT12, hb12, hw12⟩
  obtain ⟨za, zc, hry⟩ := TlO.shape hT12
  subst hry
  have hX13 := hw12.alloc (.cells #[.string y.name, .string y.sort, .slice za y.kids.length zc] 24)
  have HE13 := Lib.hid (HE11.out.trans hX13)
  have HQ13 := Lib.hid (hX13.heap HQ11.out (fun h => h))
  have HZ13 := Lib.hid (alloc0 w12 (.cells #[.string y.name, .string y.sort, .slice za y.kids.length zc] 24))
  have HS13 := Lib.hid ((HS11.out.ext hX13).weaken (fun k hk => Nat.lt_of_lt_of_le hk hX13.size) (fun k hk => Nat.lt_of_lt_of_le hk hX13.size))
  have HSM := Lib.hid (same_x y y _ _ _ _ (w12.alloc (.cells #[.string y.name, .string y.sort, .slice za y.kids.length zc] 24)) ⟨za, zc, rfl, (hT12.read.ext ((Upd.refl (fun _ => False) w12).alloc (.cells #[.string y.name, .string y.sort, .slice za y.kids.length zc] 24)))⟩ ⟨ya, yc, rfl, HTY11.out.ext hX13⟩ (by have := HYS.out; omega))
  rw [decide_eq_true (rfl : y = y)] at HSM
  dsimp only [tV] at HSM ⊢
  clear hT12 hb12 hw12 hX13 HA3 x0 x1 x2
  have y0 := cellRow HQ13.out 0 (.string y.name) rfl
  have y1 := cellRow HQ13.out 1 (.string y.sort) rfl
  have y2 := cellRow HQ13.out 2 (.slice ya y.kids.length yc) rfl
  have z0 := cellRow HZ13.out 0 (.string y.name) rfl
  have z1 := cellRow HZ13.out 1 (.string y.sort) rfl
  have z2 := cellRow HZ13.out 2 (.slice za y.kids.length zc) rfl
  go_wp2_with fail
  generalize w12.alloc (.cells #[.string y.name, .string y.sort, .slice za y.kids.length zc] 24) = w13 at *
  refine HSM.out.mono ?_
  rintro e w14 ⟨rfl, hw14⟩
  have HE14 := Lib.hid (HE13.out.trans hw14)
  have HS14 := Lib.hid ((HS13.out.ext hw14).weaken (fun k hk => Nat.lt_of_lt_of_le hk hw14.size) (fun k hk => Nat.lt_of_lt_of_le hk hw14.size))
  clear hw14 HSM y0 y1 y2 z0 z1 z2
  go_wp2_with fail
  refine (HBC.out _ HE14.out).mono ?_
  rintro e wa ⟨ra, rfl, hba, hwa⟩
  have HEa := Lib.hid (HE14.out.trans hwa)
  have HSa := Lib.hid ((HS14.out.ext hwa).weaken (fun k hk => Nat.lt_of_lt_of_le hk hwa.size) (fun k hk => Nat.lt_of_lt_of_le hk hwa.size))
  have HUa := Lib.hid hba
  obtain ⟨u1, u2, hra⟩ := hba.shape
  subst hra
  clear hwa hba
  by_cases hu : un = 0
  rotate_left
  · obtain rfl : us = [] := HUE.out hu
    have tu1 : (un == 0) = false := beq_eq_false_iff_ne.2 hu
    have tu2 : decide (un = 0) = false := decide_eq_false hu
    have HEE := HEa
    clear hu
    go_wp2_with fail
    all_goals go_ret
    all_goals exact ⟨rfl, HEE.out⟩
  subst hu
  have HSC := Lib.hid (compose_x gs c _ _ wa (asc_ext HTAB.out HEa.out) HSa.out (HCB.out wa HEa.out) (by have := HGB.out.1; omega) (by have := HCL.out.1; omega) (fun b hb => by have := HGB.out.2 b hb; omega) (fun b hb => by have := HCL.out.2 b hb; omega))
  have HPB := Lib.hid (cmpF_bound gs c)
  obtain ⟨P, hP⟩ : ∃ P, cmpF nmB gs c = P := ⟨_, rfl⟩
  have HPE := Lib.hid hP
  rw [hP] at HSC HPB
  obtain ⟨ps, pn⟩ := P
  simp only at HSC HPB
  clear hP
  go_wp2_with fail
  refine HSC.out.mono ?_
  rintro e wb ⟨rb, rfl, hbb, hwb⟩
  have HEb := Lib.hid (HEa.out.trans hwb)
  have HPb := Lib.hid hbb
  have HUb := Lib.hid ((HUa.out.ext hwb).weaken (fun k hk => Nat.lt_of_lt_of_le hk.2 hwb.size) (fun k hk => Nat.lt_of_lt_of_le hk.2 hwb.size))
  have HAU := Lib.hid (compose_x a us _ _ wb (asc_ext HTAB.out HEb.out) (HAB.out wb HEb.out) HUb.out (by have := HAL.out.1; omega) (by have := HUB.out.1; omega) (fun b hb => by have := HAL.out.2 b hb; omega) (fun b hb => by have := HUB.out.2 b hb; omega))
  obtain ⟨Q, hQ⟩ : ∃ Q, cmpF nmB a us = Q := ⟨_, rfl⟩
  have HQE := Lib.hid hQ
  rw [hQ] at HAU
  obtain ⟨qs, qn⟩ := Q
  simp only at HAU
  obtain ⟨p1, p2, hrb⟩ := hbb.shape
  subst hrb
  clear hQ hwb hbb HSC
  go_wp2_with fail
  refine HAU.out.mono ?_
  rintro e wd ⟨rd, rfl, hbd, hwd⟩
  have HEd := Lib.hid (HEb.out.trans hwd)
  have HQd := Lib.hid hbd
  have HPd := Lib.hid (HPb.out.ext hwd)
  obtain ⟨q1, q2, hrd⟩ := hbd.shape
  subst hrd
  clear hwd hbd HAU
  by_cases hp : pn = 0
  rotate_left
  · have tp1 : (pn == 0) = false := beq_eq_false_iff_ne.2 hp
    have tp2 : decide (pn = 0) = false := decide_eq_false hp
    have HEE := HEd
    go_wp2_with fail
    all_goals go_ret
    all_goals exact ⟨rfl, HEE.out⟩
  subst hp
  by_cases hq : qn = 0
  rotate_left
  · have tq1 : (qn == 0) = false := beq_eq_false_iff_ne.2 hq
    have tq2 : decide (qn = 0) = false := decide_eq_false hq
    have HEE := HEd
    go_wp2_with fail
    all_goals go_ret
    all_goals exact ⟨rfl, HEE.out⟩
  subst hq
  have hpq : ps = qs := assoc_law nmB_nul HGQ.out HUQ.out HPE.out HQE.out
  have HSM := Lib.hid (rsameB_x ps qs _ _ _ _ _ _ wd HPd.out HQd.out (fun x hx => by have := HPB.out.2 x hx; omega) (by have := HPB.out.1; omega))
  rw [decide_eq_true hpq] at HSM
  clear hpq
  go_wp2_with fail
  refine HSM.out.mono ?_
  rintro e wf ⟨rfl, hwf⟩
  have HEE := Lib.hid (HEd.out.trans hwf)
  clear hwf HSM
  go_wp2_with fail
  all_goals go_ret
  all_goals exact ⟨rfl, HEE.out⟩

end Go.Proofs.YtlkcjmaiahnodaaGreatDoor
