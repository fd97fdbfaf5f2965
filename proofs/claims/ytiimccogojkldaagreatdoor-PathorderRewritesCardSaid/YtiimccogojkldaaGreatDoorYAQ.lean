/- The texts I52 I56 I102, one behind the other. -/
import Derived.Test.YtiimccogojkldaaGreatDoorYAP
import Derived.Test.YtiimccogojkldaaGreatDoorYAO
import Derived.Test.YtiimccogojkldaaGreatDoorYAK
import Derived.Test.YtiimccogojkldaaGreatDoorYAM
import Derived.Test.YtiimccogojkldaaGreatDoorYAL
/- Decreasing of the reference. -/
namespace Go.Proofs.YtiimccogojkldaaGreatDoor
open Go.RowKit Go.Hw Go
set_option linter.unusedVariables false
set_option linter.unusedSimpArgs false

open Tm
set_option maxRecDepth 100000 in
set_option maxHeartbeats 2000000 in
theorem rforms_x (L : List Rl) (v : Value) (S : Nat → Prop) (w : World) (hR : RuR S w L v) (hl : L.length ≤ 1000000) : Calls Tryz.prog 48 #[v] w fun e w' => e = .returned (.bool ((flR L).all (wf nmB))) ∧ Ext w w' := by
  obtain ⟨a, cap, rfl⟩ := hR.shape
  have HR := Lib.hid hR
  obtain ⟨V, hV⟩ : ∃ b, (flR L).all (wf nmB) = b := ⟨_, rfl⟩
  have HVV := Lib.hid hV
  rw [hV]
  clear hR hV
  go_enter Tryz.func48, Tryz.ntmps48
  go_wp2_with fail
  go_loopg [3] L.length (fun gk iv wr => ∃ k : Nat, iv = .int .i64 (k : Int) ∧ gk = L.length - k ∧ k ≤ L.length ∧ Hid ((flR (L.take k)).all (wf nmB) = true) ∧ Hid (Ext w wr))
  case atStart => exact ⟨0, rfl, rfl, Nat.zero_le _, Lib.hid rfl, Lib.hid (Upd.refl _ _)⟩
  case round =>
    obtain ⟨k, rfl, rfl, hk, HM, HE⟩ := hrel
    by_cases hlt : k < L.length
    · obtain ⟨g, off, hga, _, hat⟩ := (HR.out.ext HE.out).at_ (by omega)
      subst hga
      obtain ⟨xa, xc, ya, yc, q0, q1, q2, q3, q4, q5, hx, hy⟩ := hat k hlt
      have z0 : (0 : Int) ≤ (k : Int) := by omega
      have z1 : (k : Int) < (L.length : Int) := by omega
      have z2 : decide ((k : Int) < (L.length : Int)) = true := decide_eq_true z1
      have z2' : decide (k < L.length) = true := decide_eq_true hlt
      have hmem := rg_mem hlt
      have HFX := Lib.hid (fun W (hW : Ext wr W) => rformed_x (rg L k).1 _ S W ⟨xa, xc, rfl, hx.ext hW⟩)
      have HFY := Lib.hid (fun W (hW : Ext wr W) => rformed_x (rg L k).2 _ S W ⟨ya, yc, rfl, hy.ext hW⟩)
      have HN : Hid (wf nmB (rg L k).1 = true → wf nmB (rg L k).2 = true → (flR (L.take (k + 1))).all (wf nmB) = true) := Lib.hid (fun h1 h2 => by
        rw [rg_snoc L k hlt, flR_append, List.all_append, HM.out]
        show (true && (wf nmB (rg L k).1 && (wf nmB (rg L k).2 && true))) = true
        rw [h1, h2]; rfl)
      have HY : Hid (wf nmB (rg L k).1 = false ∨ wf nmB (rg L k).2 = false → V = false) := Lib.hid (fun h => by
        rw [← HVV.out, Bool.eq_false_iff]
        intro h2
        have h3 := List.all_eq_true.1 h2
        rcases h with h | h
        · rw [h3 _ (mem_flR.2 ⟨_, hmem, .inl rfl⟩)] at h; cases h
        · rw [h3 _ (mem_flR.2 ⟨_, hmem, .inr rfl⟩)] at h; cases h)
      obtain ⟨⟨x, y⟩, hxy⟩ : ∃ r, rg L k = r := ⟨_, rfl⟩
      rw [hxy] at q0 q1 q2 q3 q4 q5 HFX HFY HN HY
      dsimp only [tV] at q0 q1 q2 q3 q4 q5 HFX HFY HN HY
      obtain ⟨b1, hb1⟩ : ∃ b, wf nmB x = b := ⟨_, rfl⟩
      rw [hb1] at HFX HN HY
      obtain ⟨b2, hb2⟩ : ∃ b, wf nmB y = b := ⟨_, rfl⟩
      rw [hb2] at HFY HN HY
      clear hat hx hy hxy hb1 hb2 HM hmem
      cases b1
      · have HV := Lib.hid (HY.out (.inl rfl))
        clear HN HY HFY
        go_wp2_with fail
        refine (HFX.out _ (Upd.refl _ _)).mono ?_
        rintro e w4 ⟨rfl, hw4⟩
        have H4 := Lib.hid (HE.out.trans hw4)
        clear hw4 q0 q1 q2 q3 q4 q5 HFX
        go_wp2_with fail
        all_goals go_ret
        all_goals (rw [HV.out]; exact ⟨rfl, H4.out⟩)
      · go_wp2_with fail
        refine (HFX.out _ (Upd.refl _ _)).mono ?_
        rintro e w4 ⟨rfl, hw4⟩
        have H4 := Lib.hid (HE.out.trans hw4)
        have HFY4 := Lib.hid (HFY.out _ hw4)
        have r3 := hw4.cell q3 (fun h => h)
        have r4 := hw4.cell q4 (fun h => h)
        have r5 := hw4.cell q5 (fun h => h)
        clear q0 q1 q2 q3 q4 q5
        clear hw4 HFX HFY
        cases b2
        · have HV := Lib.hid (HY.out (.inr rfl))
          clear HN HY
          go_wp2_with fail
          refine HFY4.out.mono ?_
          rintro e w5 ⟨rfl, hw5⟩
          have H5 := Lib.hid (H4.out.trans hw5)
          clear hw5 r3 r4 r5 HFY4
          go_wp2_with fail
          all_goals go_ret
          all_goals (rw [HV.out]; exact ⟨rfl, H5.out⟩)
        · have HN2 := Lib.hid (HN.out (by simp) (by simp))
          clear HN HY
          go_wp2_with fail
          refine HFY4.out.mono ?_
          rintro e w5 ⟨rfl, hw5⟩
          have H5 := Lib.hid (H4.out.trans hw5)
          clear hw5 r3 r4 r5 HFY4
          go_wp2_with fail
          go_roundg (L.length - (k + 1))
          case measure => omega
          case rel => exact ⟨k + 1, by go_num, rfl, by omega, HN2, H5⟩
    · obtain rfl : k = L.length := by omega
      have z2 : decide ((L.length : Int) < (L.length : Int)) = false := decide_eq_false (by omega)
      have HM2 := HM.out
      rw [List.take_length, HVV.out] at HM2
      have HM3 := Lib.hid HM2
      clear HM2
      go_wp2_with fail
      go_ret
      rw [HM3.out]
      exact ⟨rfl, HE.out⟩
set_option maxRecDepth 100000 in
set_option maxHeartbeats 2000000 in
theorem rfirst_x (ops : List By) (L : List Rl) (ov v : Value) (S : Nat → Prop) (w : World) (hO : StR S w ov ops) (hR : RuR S w L v) (hS : ∀ k, S k → k < w.heap.size) (hl : L.length ≤ 1000000) (hwf : (flR L).all (wf nmB) = true) (hkn : (flR L).all (knowsP ops) = true) (hol : ops.length ≤ 1000000) :
    Calls Tryz.prog 49 #[ov, v] w fun e w' => e = .returned (.int .i64 (firstI ops L)) ∧ Ext w w' := by
  obtain ⟨a, cap, rfl⟩ := hR.shape
  obtain ⟨oa, oc, rfl⟩ := SlR.shape hO
  have HR := Lib.hid hR
  have HO := Lib.hid hO
  have HS := Lib.hid hS
  have HWF := Lib.hid (List.all_eq_true.1 hwf)
  have HKN := Lib.hid (List.all_eq_true.1 hkn)
  obtain ⟨V, hV⟩ : ∃ b, firstI ops L = b := ⟨_, rfl⟩
  have HVV := Lib.hid hV
  rw [hV]
  clear hR hO hS hwf hkn hV
  go_enter Tryz.func49, Tryz.ntmps49
  go_wp2_with fail
  go_loopg [5] L.length (fun gk iv wr => ∃ k : Nat, iv = .int .i64 (k : Int) ∧ gk = L.length - k ∧ k ≤ L.length ∧ Hid (∀ j, j < k → decP ops (rg L j) = true) ∧ Hid (Ext w wr))
  case atStart => exact ⟨0, rfl, rfl, Nat.zero_le _, Lib.hid (fun j h => absurd h (Nat.not_lt_zero _)), Lib.hid (Upd.refl _ _)⟩
  case round =>
    obtain ⟨k, rfl, rfl, hk, HM, HE⟩ := hrel
    have hgt : ∀ j, (h : j < L.length) → rg L j = L[j] := fun j h => by unfold rg; rw [List.getD_eq_getElem?_getD, List.getElem?_eq_getElem h]; rfl
    by_cases hlt : k < L.length
    · obtain ⟨g, off, hga, _, hat⟩ := (HR.out.ext HE.out).at_ (by omega)
      subst hga
      obtain ⟨xa, xc, ya, yc, q0, q1, q2, q3, q4, q5, hx, hy⟩ := hat k hlt
      have z0 : (0 : Int) ≤ (k : Int) := by omega
      have z1 : (k : Int) < (L.length : Int) := by omega
      have z2 : decide ((k : Int) < (L.length : Int)) = true := decide_eq_true z1
      have z2' : decide (k < L.length) = true := decide_eq_true hlt
      have hmem := rg_mem hlt
      have hm1 : (rg L k).1 ∈ flR L := mem_flR.2 ⟨_, hmem, .inl rfl⟩
      have hm2 : (rg L k).2 ∈ flR L := mem_flR.2 ⟨_, hmem, .inr rfl⟩
      have HAB := Lib.hid (fun W (hW : Ext wr W) => rabove_x ops (rg L k).1 (rg L k).2 _ _ _ S W (SlR.kept HO.out (HE.out.trans hW) (fun _ _ h => h)) ⟨xa, xc, rfl, hx.ext hW⟩ ⟨ya, yc, rfl, hy.ext hW⟩ (fun j hj => Nat.lt_of_lt_of_le (HS.out j hj) (HE.out.trans hW).size) (wf_size (HWF.out _ hm1)) (wf_size (HWF.out _ hm2)) (wf_nop (HWF.out _ hm1)) (wf_nop (HWF.out _ hm2)) (knowsP_iff.1 (HKN.out _ hm1)) (knowsP_iff.1 (HKN.out _ hm2)) hol)
      have HN : Hid (decP ops (rg L k) = true → ∀ j, j < k + 1 → decP ops (rg L j) = true) := Lib.hid (fun h j hj => by
        rcases Nat.lt_succ_iff_lt_or_eq.1 hj with h5 | h5
        · exact HM.out j h5
        · rw [h5]; exact h)
      have HY : Hid (decP ops (rg L k) = false → V = (k : Int)) := Lib.hid (fun h => by
        have hf : firstP ops L = k := by
          unfold firstP
          rcases Nat.lt_trichotomy (L.findIdx fun r => !decP ops r) k with e | e | e
          · have h1 : (L.findIdx fun r => !decP ops r) < L.length := by omega
            have h2 := List.findIdx_getElem (w := h1)
            rw [← hgt _ h1, HM.out _ e] at h2; cases h2
          · exact e
          · have h2 := List.not_of_lt_findIdx e
            rw [← hgt _ hlt] at h2
            rw [h] at h2; cases h2
        rw [← HVV.out]
        unfold firstI
        rw [hf, if_pos hlt])
      obtain ⟨⟨x, y⟩, hxy⟩ : ∃ r, rg L k = r := ⟨_, rfl⟩
      rw [hxy] at q0 q1 q2 q3 q4 q5 HAB HN HY
      unfold decP at HN HY
      dsimp only [tV] at q0 q1 q2 q3 q4 q5 HAB HN HY
      obtain ⟨b, hb⟩ : ∃ b, gt (ixF ops) x y = b := ⟨_, rfl⟩
      rw [hb] at HAB HN HY
      have hrfs := Upd.refl (fun _ => False) wr
      have xq0 := fun x : XW wr => x.ext.cell q0 (fun h => h)
      have xq1 := fun x : XW wr => x.ext.cell q1 (fun h => h)
      have xq2 := fun x : XW wr => x.ext.cell q2 (fun h => h)
      have xq3 := fun x : XW wr => x.ext.cell q3 (fun h => h)
      have xq4 := fun x : XW wr => x.ext.cell q4 (fun h => h)
      have xq5 := fun x : XW wr => x.ext.cell q5 (fun h => h)
      clear q0 q1 q2 q3 q4 q5 hat hmem hm1 hm2 hx hy hxy hb HM hgt
      go_wp2_with fail
      refine wp_region_ext wr (by assumption) (by kernel_rfl) (by kernel_rfl) ?_
      repeat (first | go_big_quiet_skip | (go_big_quiet_want; go_big_quiet_op; first | go_big_quiet_on | (apply Exists.intro; refine ⟨fun x => ?_, ?_⟩; (go_at_call 44; exact XW.call (HAB.out x.val x.ext)); go_big_quiet_on)))
      refine wpQuiet_nil ?_
      rintro w8 ⟨⟨_, hyw8⟩, rfl⟩
      try dsimp only
      have H8 := Lib.hid (HE.out.trans hyw8)
      clear HAB xq0 xq1 xq2 xq3 xq4 xq5
      cases b
      · have HV := Lib.hid (HY.out rfl)
        clear HN HY
        go_wp2_with fail
        go_ret
        rw [HV.out]
        exact ⟨rfl, H8.out⟩
      · have HN2 := Lib.hid (HN.out rfl)
        clear HN HY
        go_wp2_with fail
        go_roundg (L.length - (k + 1))
        case measure => omega
        case rel => exact ⟨k + 1, by go_num, rfl, by omega, HN2, H8⟩
    · obtain rfl : k = L.length := by omega
      have z2 : decide ((L.length : Int) < (L.length : Int)) = false := decide_eq_false (by omega)
      have HV : Hid (V = -1) := Lib.hid (by
        rw [← HVV.out]
        unfold firstI
        rw [if_neg]
        intro h0
        have h : (L.findIdx fun r => !decP ops r) < L.length := h0
        have h2 := List.findIdx_getElem (w := h)
        rw [← hgt _ h, HM.out _ h] at h2; cases h2)
      clear hgt
      go_wp2_with fail
      go_ret
      rw [HV.out]
      exact ⟨rfl, HE.out⟩
set_option maxRecDepth 100000 in
set_option maxHeartbeats 2000000 in
theorem rdecr_x (ops : List By) (L : List Rl) (ov lv : Value) (w : World) (hO : StR (fun k => k < w.heap.size) w ov ops) (hR : RuR (fun k => k < w.heap.size) w L lv) (hol : ops.length ≤ 1000000) (hl : L.length ≤ 100000) (hsz : sizes (flR L) ≤ 100000) :
    Calls Tryz.prog 17 #[ov, lv] w fun e w' => e = .returned (.tuple #[.bool (decF ops L).1, .int .i64 (decF ops L).2.1, .int .i64 (decF ops L).2.2]) ∧ Ext w w' := by
  have HPR := Lib.hid (rprec_x ops ov _ w hO)
  have HFO := Lib.hid (fun W (hW : Ext w W) => rforms_x L lv _ W (hR.ext hW) (by omega))
  have HFI := Lib.hid (fun (h1 : (flR L).all (wf nmB) = true) (h2 : (flR L).all (knowsP ops) = true) W (hW : Ext w W) => rfirst_x ops L ov lv _ W (SlR.kept hO hW (fun _ _ h => h)) (hR.ext hW) (fun k hk => Nat.lt_of_lt_of_le hk hW.size) (by omega) h1 h2 hol)
  have HTS : Hid (∀ t ∈ flR L, t.size ≤ 100000) := Lib.hid (fun t ht => by
    have := mem_sizes ht
    omega)
  obtain ⟨oa, oc, rfl⟩ := SlR.shape hO
  obtain ⟨a, cap, rfl⟩ := hR.shape
  have HR := Lib.hid hR
  have HO := Lib.hid hO
  clear hR hO hsz
  obtain ⟨P, hP⟩ : ∃ x, precP nmB ops = x := ⟨_, rfl⟩
  have HP := Lib.hid hP
  rw [hP] at HPR
  obtain ⟨Fm, hF⟩ : ∃ x, (flR L).all (wf nmB) = x := ⟨_, rfl⟩
  have HF := Lib.hid hF
  rw [hF] at HFO
  clear hP hF
  go_enter Tryz.func17, Tryz.ntmps17
  go_wp2_with fail
  cases P
  · have HV : Hid (decF ops L = (false, 0, 1)) := Lib.hid (by unfold decF; rw [if_pos (.inl HP.out)])
    refine HPR.out.mono ?_
    rintro e w4 ⟨rfl, hw4⟩
    have H4 := Lib.hid hw4
    clear hw4 HPR
    go_wp2_with fail
    go_ret3
    rw [HV.out]
    exact ⟨rfl, H4.out⟩
  refine HPR.out.mono ?_
  rintro e w4 ⟨rfl, hw4⟩
  have H4 := Lib.hid hw4
  clear hw4 HPR
  go_wp2_with fail
  cases Fm
  · have HV : Hid (decF ops L = (false, 0, 1)) := Lib.hid (by unfold decF; rw [if_pos (.inr HF.out)])
    refine (HFO.out _ H4.out).mono ?_
    rintro e w5 ⟨rfl, hw5⟩
    have H5 := Lib.hid (H4.out.trans hw5)
    clear hw5 HFO
    go_wp2_with fail
    go_ret3
    rw [HV.out]
    exact ⟨rfl, H5.out⟩
  refine (HFO.out _ H4.out).mono ?_
  rintro e w5 ⟨rfl, hw5⟩
  have H5 := Lib.hid (H4.out.trans hw5)
  clear hw5 HFO
  have HN1 : Hid (¬ (precP nmB ops = false ∨ (flR L).all (wf nmB) = false)) := Lib.hid (by rw [HP.out, HF.out]; simp)
  by_cases hc : 100 < L.length
  · have HV : Hid (decF ops L = (false, 0, 4)) := Lib.hid (by unfold decF; rw [if_neg HN1.out, if_pos hc])
    have z1 : (100 : Int) < (L.length : Int) := by omega
    go_wp2_with fail
    go_ret3
    rw [HV.out]
    exact ⟨rfl, H5.out⟩
  have HC := Lib.hid hc
  have z1 : ¬ (100 : Int) < (L.length : Int) := by omega
  have HFI1 := Lib.hid (HFI.out HF.out)
  clear hc HFI
  go_wp2_with fail
  clear z1
  obtain ⟨wa, hwa⟩ : ∃ wa, wa = w5 := ⟨_, rfl⟩
  have HR0 : Hid (Ext wa w5) := Lib.hid (by rw [hwa]; exact Upd.refl _ _)
  rw [← hwa] at H5
  clear hwa
  go_loopg [7] L.length (fun gk iv wr => ∃ k : Nat, iv = .int .i64 (k : Int) ∧ gk = L.length - k ∧ k ≤ L.length ∧ Hid ((flR (L.take k)).all (knowsP ops) = true) ∧ Hid (Ext wa wr))
  case atStart => exact ⟨0, rfl, rfl, Nat.zero_le _, Lib.hid rfl, HR0⟩
  case round =>
    clear HR0
    obtain ⟨k, rfl, rfl, hk, HM, HE⟩ := hrel
    by_cases hlt : k < L.length
    · obtain ⟨g, off, hga, _, hat⟩ := (HR.out.ext (H5.out.trans HE.out)).at_ (by omega)
      subst hga
      obtain ⟨xa, xc, ya, yc, q0, q1, q2, q3, q4, q5, hx, hy⟩ := hat k hlt
      have z0 : (0 : Int) ≤ (k : Int) := by omega
      have z1 : (k : Int) < (L.length : Int) := by omega
      have z2 : decide ((k : Int) < (L.length : Int)) = true := decide_eq_true z1
      have z2' : decide (k < L.length) = true := decide_eq_true hlt
      have hmem := rg_mem hlt
      have hm1 : (rg L k).1 ∈ flR L := mem_flR.2 ⟨_, hmem, .inl rfl⟩
      have hm2 : (rg L k).2 ∈ flR L := mem_flR.2 ⟨_, hmem, .inr rfl⟩
      have HFX := Lib.hid (fun W (hW : Ext wr W) => rknows_x ops (rg L k).1 _ _ _ _ W (SlR.kept HO.out ((H5.out.trans HE.out).trans hW) (fun _ _ h => h)) ⟨xa, xc, rfl, hx.ext hW⟩ hol (HTS.out _ hm1))
      have HFY := Lib.hid (fun W (hW : Ext wr W) => rknows_x ops (rg L k).2 _ _ _ _ W (SlR.kept HO.out ((H5.out.trans HE.out).trans hW) (fun _ _ h => h)) ⟨ya, yc, rfl, hy.ext hW⟩ hol (HTS.out _ hm2))
      have HN : Hid (knowsP ops (rg L k).1 = true → knowsP ops (rg L k).2 = true → (flR (L.take (k + 1))).all (knowsP ops) = true) := Lib.hid (fun h1 h2 => by
        rw [rg_snoc L k hlt, flR_append, List.all_append, HM.out]
        show (true && (knowsP ops (rg L k).1 && (knowsP ops (rg L k).2 && true))) = true
        rw [h1, h2]; rfl)
      have HY : Hid (knowsP ops (rg L k).1 = false ∨ knowsP ops (rg L k).2 = false → decF ops L = (false, 0, 9)) := Lib.hid (fun h => by
        have hq : (flR L).all (knowsP ops) = false := by
          rw [Bool.eq_false_iff]
          intro h2
          have h3 := List.all_eq_true.1 h2
          rcases h with h | h
          · rw [h3 _ hm1] at h; cases h
          · rw [h3 _ hm2] at h; cases h
        unfold decF
        rw [if_neg HN1.out, if_neg HC.out, if_pos hq])
      obtain ⟨⟨x, y⟩, hxy⟩ : ∃ r, rg L k = r := ⟨_, rfl⟩
      rw [hxy] at q0 q1 q2 q3 q4 q5 HFX HFY HN HY
      dsimp only [tV] at q0 q1 q2 q3 q4 q5 HFX HFY HN HY
      obtain ⟨b1, hb1⟩ : ∃ b, knowsP ops x = b := ⟨_, rfl⟩
      rw [hb1] at HFX HN HY
      obtain ⟨b2, hb2⟩ : ∃ b, knowsP ops y = b := ⟨_, rfl⟩
      rw [hb2] at HFY HN HY
      clear hat hx hy hxy hb1 hb2 HM hmem hm1 hm2
      cases b1
      · have HV := Lib.hid (HY.out (.inl rfl))
        clear HN HY HFY
        go_wp2_with fail
        refine (HFX.out _ (Upd.refl _ _)).mono ?_
        rintro e w6 ⟨rfl, hw6⟩
        have H6 := Lib.hid ((H5.out.trans HE.out).trans hw6)
        clear hw6 q0 q1 q2 q3 q4 q5 HFX
        go_wp2_with fail
        all_goals go_ret3
        all_goals (rw [HV.out]; exact ⟨rfl, H6.out⟩)
      · go_wp2_with fail
        refine (HFX.out _ (Upd.refl _ _)).mono ?_
        rintro e w6 ⟨rfl, hw6⟩
        have H6 := Lib.hid (HE.out.trans hw6)
        have HFY4 := Lib.hid (HFY.out _ hw6)
        have r3 := hw6.cell q3 (fun h => h)
        have r4 := hw6.cell q4 (fun h => h)
        have r5 := hw6.cell q5 (fun h => h)
        clear q0 q1 q2 q3 q4 q5
        clear hw6 HFX HFY
        cases b2
        · have HV := Lib.hid (HY.out (.inr rfl))
          clear HN HY
          go_wp2_with fail
          refine HFY4.out.mono ?_
          rintro e w7 ⟨rfl, hw7⟩
          have H7 := Lib.hid ((H5.out.trans H6.out).trans hw7)
          clear hw7 r3 r4 r5 HFY4
          go_wp2_with fail
          all_goals go_ret3
          all_goals (rw [HV.out]; exact ⟨rfl, H7.out⟩)
        · have HN2 := Lib.hid (HN.out (by simp) (by simp))
          clear HN HY
          go_wp2_with fail
          refine HFY4.out.mono ?_
          rintro e w7 ⟨rfl, hw7⟩
          have H7 := Lib.hid (H6.out.trans hw7)
          clear hw7 r3 r4 r5 HFY4
          go_wp2_with fail
          go_roundg (L.length - (k + 1))
          case measure => omega
          case rel => exact ⟨k + 1, by go_num, rfl, by omega, HN2, H7⟩
    · obtain rfl : k = L.length := by omega
      have z2 : decide ((L.length : Int) < (L.length : Int)) = false := decide_eq_false (by omega)
      have HM2 := HM.out
      rw [List.take_length] at HM2
      have H6 := Lib.hid (H5.out.trans HE.out)
      have HFI2 := Lib.hid (HFI1.out HM2 _ H6.out)
      have HV : Hid (decF ops L = (decide (firstI ops L < 0), firstI ops L, 0)) := Lib.hid (by unfold decF; rw [if_neg HN1.out, if_neg HC.out, if_neg (by rw [HM2]; simp)])
      clear HM2 HFI1
      generalize firstI ops L = X at *
      go_wp2_with fail
      refine HFI2.out.mono ?_
      rintro e w7 ⟨rfl, hw7⟩
      have H7 := Lib.hid (H6.out.trans hw7)
      clear hw7 HFI2
      go_wp2_with fail
      go_ret3
      rw [HV.out]
      exact ⟨rfl, H7.out⟩

end Go.Proofs.YtiimccogojkldaaGreatDoor

/- The law Rules. -/
namespace Go.Proofs.YtiimccogojkldaaGreatDoor
open Go.RowKit Go.Hw Go
set_option linter.unusedVariables false
set_option linter.unusedSimpArgs false

open Tm
def rulLB (r : Rl) : Bool := largeB r.1 || largeB r.2
theorem rules_small {L : List Rl} (h : L.any rulLB = false) : sizes (flR L) ≤ 60 * L.length := by
  induction L with
  | nil => exact Nat.le_refl _
  | cons r L ih =>
    rw [List.any_cons, Bool.or_eq_false_iff] at h
    unfold rulLB at h
    rw [Bool.or_eq_false_iff] at h
    have h1 := small_of h.1.1
    have h2 := small_of h.1.2
    have h3 := ih h.2
    show sizes (r.1 :: r.2 :: flR L) ≤ _
    simp only [sizes, List.length_cons]
    omega
set_option maxRecDepth 100000 in
set_option maxHeartbeats 2000000 in
theorem lrule_x (x y : Tm) (xa ya : Option Addr) (xc yc : Nat) (S : Nat → Prop) (w : World) (hx : TlR S w x.kids (.slice xa x.kids.length xc)) (hy : TlR S w y.kids (.slice ya y.kids.length yc)) :
    Calls Tryz.prog 15 #[.agg #[.string x.name, .string x.sort, .slice xa x.kids.length xc, .string y.name, .string y.sort, .slice ya y.kids.length yc]] w fun e w' => e = .returned (.bool (rulLB (x, y))) ∧ Ext w w' := by
  have HX := Lib.hid (fun W (hW : Ext w W) => large_x x _ S W ⟨xa, xc, rfl, hx.ext hW⟩)
  have HY := Lib.hid (fun W (hW : Ext w W) => large_x y _ S W ⟨ya, yc, rfl, hy.ext hW⟩)
  have HZ : Hid (Ext w (w.alloc (.cells #[.string x.name, .string x.sort, .slice xa x.kids.length xc, .string y.name, .string y.sort, .slice ya y.kids.length yc] 38))) := Lib.hid ((Upd.refl (fun _ => False) w).alloc _)
  have HB := Lib.hid (alloc0 w (.cells #[.string x.name, .string x.sort, .slice xa x.kids.length xc, .string y.name, .string y.sort, .slice ya y.kids.length yc] 38))
  unfold rulLB
  dsimp only [tV] at HX HY ⊢
  obtain ⟨A, hA⟩ : ∃ b, largeB x = b := ⟨_, rfl⟩
  obtain ⟨B, hB⟩ : ∃ b, largeB y = b := ⟨_, rfl⟩
  rw [hA] at HX ⊢
  rw [hB] at HY ⊢
  have q0 := cellRow HB.out 0 (.string x.name) rfl
  have q1 := cellRow HB.out 1 (.string x.sort) rfl
  have q2 := cellRow HB.out 2 (.slice xa x.kids.length xc) rfl
  have q3 := cellRow HB.out 3 (.string y.name) rfl
  have q4 := cellRow HB.out 4 (.string y.sort) rfl
  have q5 := cellRow HB.out 5 (.slice ya y.kids.length yc) rfl
  clear hA hB hx hy
  go_enter Tryz.func15, Tryz.ntmps15
  go_wp2_with fail
  refine (HX.out _ HZ.out).mono ?_
  rintro e w4 ⟨rfl, hw4⟩
  have H4 := Lib.hid (HZ.out.trans hw4)
  have HB4 := Lib.hid (hw4.heap HB.out (fun h => h))
  clear hw4 q0 q1 q2 q3 q4 q5 HX HB
  have q0 := cellRow HB4.out 0 (.string x.name) rfl
  have q1 := cellRow HB4.out 1 (.string x.sort) rfl
  have q2 := cellRow HB4.out 2 (.slice xa x.kids.length xc) rfl
  have q3 := cellRow HB4.out 3 (.string y.name) rfl
  have q4 := cellRow HB4.out 4 (.string y.sort) rfl
  have q5 := cellRow HB4.out 5 (.slice ya y.kids.length yc) rfl
  cases A
  · go_wp2_with fail
    refine (HY.out _ H4.out).mono ?_
    rintro e w5 ⟨rfl, hw5⟩
    have H5 := Lib.hid (H4.out.trans hw5)
    clear hw5 q0 q1 q2 q3 q4 q5 HY
    go_wp2_with fail
    all_goals go_ret
    all_goals (first | exact ⟨rfl, H5.out⟩ | exact ⟨by simp, H5.out⟩)
  · clear HY
    go_wp2_with fail
    all_goals go_ret
    all_goals (first | exact ⟨rfl, H4.out⟩ | exact ⟨by simp, H4.out⟩)
theorem conl_x (L : List Rl) (v : Value) (S : Nat → Prop) (w : World) (hR : RuR S w L v) (hl : L.length ≤ 1000000) : Calls Tryz.prog 14 #[v, .func (.func 15) #[] #[]] w fun e w' => e = .returned (.bool (L.any rulLB)) ∧ Ext w w' :=
  (conR15_x rulLB (fun _ W => Ext w W) (fun _ _ _ h h2 => h.trans h2) L v S w (Upd.refl _ _) hl (fun k W h => hR.ext h) (fun k hk xa xc ya yc W h hx hy => (lrule_x (rg L k).1 (rg L k).2 xa ya xc yc S W hx hy).mono fun e W' ⟨h1, h2⟩ => ⟨h1, h.trans h2⟩)).mono fun e w' ⟨h1, k, _, h2⟩ => ⟨h1, h2⟩
set_option maxRecDepth 100000 in
set_option maxHeartbeats 2000000 in
theorem rules_law (ops : List By) (L : List Rl) (ov lv : Value) (w : World) (hO : StR (fun k => k < w.heap.size) w ov ops) (hR : RuR (fun k => k < w.heap.size) w L lv) (htab : AscT w) (hpow : Lib.TabIs Tryz.prog w "internal/strconv.uint64pow10" .u64 Lib.pow10Tab) :
    Calls Tryz.prog 4 #[ov, lv] w fun e w' => e = .returned (.bool true) ∧ Ext w w' := by
  have HAW := Lib.hid (awake_x w htab hpow)
  have HLO := Lib.hid (fun W (hW : Ext w W) => long_x ops ov _ W (SlR.kept hO hW (fun _ _ h => h)))
  have HCL := Lib.hid (fun (h1 : L.length ≤ 120) W (hW : Ext w W) => conl_x L lv _ W (hR.ext hW) (by omega))
  have HPD := Lib.hid (fun (h1 : ops.length ≤ 120) (h2 : L.length ≤ 120) (h3 : L.any rulLB = false) W (hW : Ext w W) => decr_x ops L ov lv W (SlR.weaken (SlR.kept hO hW (fun _ _ h => h)) (fun k hk => Nat.lt_of_lt_of_le hk hW.size)) ((hR.ext hW).weaken (fun k hk => Nat.lt_of_lt_of_le hk hW.size)) (asc_ext htab hW) (pow_upd hpow hW (fun _ _ h => h)) (by omega) (by omega) (by have := rules_small h3; omega))
  have HRD := Lib.hid (fun (h1 : ops.length ≤ 120) (h2 : L.length ≤ 120) (h3 : L.any rulLB = false) W (hW : Ext w W) => rdecr_x ops L ov lv W (SlR.weaken (SlR.kept hO hW (fun _ _ h => h)) (fun k hk => Nat.lt_of_lt_of_le hk hW.size)) ((hR.ext hW).weaken (fun k hk => Nat.lt_of_lt_of_le hk hW.size)) (by omega) (by omega) (by have := rules_small h3; omega))
  obtain ⟨oa, oc, rfl⟩ := SlR.shape hO
  obtain ⟨la, lc, rfl⟩ := hR.shape
  clear hO hR htab hpow
  go_enter Tryz.func4, Tryz.ntmps4
  go_wp2_with fail
  refine HAW.out.mono ?_
  rintro e w4 ⟨rfl, hw4⟩
  have H4 := Lib.hid hw4
  clear hw4 HAW
  go_wp2_with fail
  refine (HLO.out _ H4.out).mono ?_
  rintro e w5 ⟨⟨lb, rfl, hlb⟩, hw5⟩
  have H5 := Lib.hid (H4.out.trans hw5)
  have HL := Lib.hid hlb
  clear hw5 HLO hlb
  cases lb
  case true =>
    go_wp2_with fail
    all_goals go_ret
    all_goals exact ⟨rfl, H5.out⟩
  have HL1 := HL.out rfl
  have HPD1 := Lib.hid (HPD.out HL1)
  have HRD1 := Lib.hid (HRD.out HL1)
  clear HPD HRD HL HL1
  by_cases hA : 12 < L.length ∧ L.length ≤ 100
  · have y1 : (12 : Int) < (L.length : Int) := by omega
    have y2 : (L.length : Int) ≤ 100 := by omega
    have y1' : decide ((12 : Int) < (L.length : Int)) = true := decide_eq_true y1
    have y2' : decide ((L.length : Int) ≤ 100) = true := decide_eq_true y2
    clear hA
    go_wp2_with fail
    all_goals go_ret
    all_goals exact ⟨rfl, H5.out⟩
  by_cases hB : 120 < L.length
  · have y1 : (12 : Int) < (L.length : Int) := by omega
    have y2 : ¬ (L.length : Int) ≤ 100 := by omega
    have y3 : (120 : Int) < (L.length : Int) := by omega
    have y1' : decide ((12 : Int) < (L.length : Int)) = true := decide_eq_true y1
    have y2' : decide ((L.length : Int) ≤ 100) = false := decide_eq_false y2
    have y3' : decide ((120 : Int) < (L.length : Int)) = true := decide_eq_true y3
    clear hA hB
    go_wp2_with fail
    all_goals go_ret
    all_goals exact ⟨rfl, H5.out⟩
  have y3 : ¬ (120 : Int) < (L.length : Int) := by omega
  have y3' : decide ((120 : Int) < (L.length : Int)) = false := decide_eq_false y3
  have hlen : L.length ≤ 120 := by omega
  have HLEN := Lib.hid hlen
  obtain ⟨D, hD⟩ : ∃ D, decide ((12 : Int) < (L.length : Int)) = D := ⟨_, rfl⟩
  have hDD : D = true → decide ((L.length : Int) ≤ 100) = false := fun h => decide_eq_false (by
    have := of_decide_eq_true (hD.trans h)
    omega)
  have HPD2 := Lib.hid (HPD1.out hlen)
  have HRD2 := Lib.hid (HRD1.out hlen)
  have HCL1 := Lib.hid (HCL.out hlen _ H5.out)
  clear HPD1 HRD1 HCL hA hB hlen
  obtain ⟨X, hX⟩ : ∃ x, L.any rulLB = x := ⟨_, rfl⟩
  rw [hX] at HCL1 HPD2 HRD2
  cases D
  · clear hDD
    go_wp2_with fail
    refine HCL1.out.mono ?_
    rintro e w6 ⟨rfl, hw6⟩
    have H6 := Lib.hid (H5.out.trans hw6)
    clear hw6 HCL1 hX
    cases X
    case true =>
      go_wp2_with fail
      all_goals go_ret
      all_goals exact ⟨rfl, H6.out⟩
    have HPD3 := Lib.hid (HPD2.out rfl)
    have HRD3 := Lib.hid (HRD2.out rfl)
    clear HPD2 HRD2
    generalize decF ops L = G at *
    go_wp2_with fail
    refine (HPD3.out _ H6.out).mono ?_
    rintro e w8 ⟨rfl, hw8⟩
    have H8 := Lib.hid (H6.out.trans hw8)
    clear hw8 HPD3
    go_wp2_with fail
    refine (HRD3.out _ H8.out).mono ?_
    rintro e w9 ⟨rfl, hw9⟩
    have H9 := Lib.hid (H8.out.trans hw9)
    clear hw9 HRD3
    go_wp2_with fail
    all_goals go_ret
    all_goals (first | exact ⟨rfl, H9.out⟩ | exact ⟨by simp, H9.out⟩)
  · have y2' := hDD rfl
    have y2 := of_decide_eq_false y2'
    clear hDD
    go_wp2_with fail
    refine HCL1.out.mono ?_
    rintro e w6 ⟨rfl, hw6⟩
    have H6 := Lib.hid (H5.out.trans hw6)
    clear hw6 HCL1 hX
    cases X
    case true =>
      go_wp2_with fail
      all_goals go_ret
      all_goals exact ⟨rfl, H6.out⟩
    have HPD3 := Lib.hid (HPD2.out rfl)
    have HRD3 := Lib.hid (HRD2.out rfl)
    clear HPD2 HRD2
    generalize decF ops L = G at *
    go_wp2_with fail
    refine (HPD3.out _ H6.out).mono ?_
    rintro e w8 ⟨rfl, hw8⟩
    have H8 := Lib.hid (H6.out.trans hw8)
    clear hw8 HPD3
    go_wp2_with fail
    refine (HRD3.out _ H8.out).mono ?_
    rintro e w9 ⟨rfl, hw9⟩
    have H9 := Lib.hid (H8.out.trans hw9)
    clear hw9 HRD3
    go_wp2_with fail
    all_goals go_ret
    all_goals (first | exact ⟨rfl, H9.out⟩ | exact ⟨by simp, H9.out⟩)

end Go.Proofs.YtiimccogojkldaaGreatDoor

/- The law Rewrites. -/
namespace Go.Proofs.YtiimccogojkldaaGreatDoor
open Go.RowKit Go.Hw Go
set_option linter.unusedVariables false
set_option linter.unusedSimpArgs false

open Tm
set_option maxRecDepth 100000 in
set_option maxHeartbeats 2000000 in
theorem rewr_law (ops : List By) (L : List Rl) (t : Tm) (ov lv v : Value) (w : World) (hO : StR (fun k => k < w.heap.size) w ov ops) (hR : RuR (fun k => k < w.heap.size) w L lv) (ht : TmR (fun k => k < w.heap.size) w t v) (htab : AscT w) (hpow : Lib.TabIs Tryz.prog w "internal/strconv.uint64pow10" .u64 Lib.pow10Tab) :
    Calls Tryz.prog 8 #[ov, lv, v] w fun e w' => e = .returned (.bool true) ∧ Ext w w' := by
  have HASC := Lib.hid htab
  have HRL := Lib.hid hR
  have HAW := Lib.hid (fun W (hW : Ext w W) => awake_x W (asc_ext htab hW) (pow_upd hpow hW (fun _ _ h => h)))
  have HLO := Lib.hid (fun W (hW : Ext w W) => long_x ops ov _ W (SlR.kept hO hW (fun _ _ h => h)))
  have HLA := Lib.hid (fun W (hW : Ext w W) => large_x t v _ W (ht.ext hW))
  have HPR := Lib.hid (fun W (hW : Ext w W) => rprec_x ops ov _ W (SlR.kept hO hW (fun _ _ h => h)))
  have HFA := Lib.hid (fun W (hW : Ext w W) => rformed_x t v _ W (ht.ext hW))
  have HKA := Lib.hid (fun (hl : ops.length ≤ 120) (hz : t.size ≤ 30) W (hW : Ext w W) => rknows_x ops t ov v _ _ W (SlR.kept hO hW (fun _ _ h => h)) (ht.ext hW) (by omega) (by omega))
  have HDE := Lib.hid (fun (h1 : ops.length ≤ 120) (h2 : L.length ≤ 12) (h3 : sizes (flR L) ≤ 100000) W (hW : Ext w W) => decr_x ops L ov lv W (SlR.weaken (SlR.kept hO hW (fun _ _ h => h)) (fun k hk => Nat.lt_of_lt_of_le hk hW.size)) ((hR.ext hW).weaken (fun k hk => Nat.lt_of_lt_of_le hk hW.size)) (asc_ext htab hW) (pow_upd hpow hW (fun _ _ h => h)) (by omega) (by omega) h3)
  have HPG : Hid (∀ (x y : Tm) (vx vy : Value) W, Ext w W → ops.length ≤ 120 → TmR (fun k => k < W.heap.size) W x vx → TmR (fun k => k < W.heap.size) W y vy → x.size ≤ 1000 → y.size ≤ 1000 → Calls Tryz.prog 12 #[ov, vx, vy] W fun e w' => e = .returned (.tuple #[.bool (grF ops x y).1, .int .i64 (grF ops x y).2]) ∧ Ext W w') := Lib.hid (fun x y vx vy W hW hl hx hy h1 h2 =>
    pgreater_x ops x y ov vx vy _ W (asc_ext htab hW) (pow_upd hpow hW (fun _ _ h => h)) (SlR.weaken (SlR.kept hO hW (fun _ _ h => h)) (fun k hk => Nat.lt_of_lt_of_le hk hW.size)) hx hy (fun k hk => hk) (by omega) (by omega) (by omega))
  have HCL0 := Lib.hid (fun (hl : L.length ≤ 12) W (hW : Ext w W) => conl_x L lv _ W (hR.ext hW) (by omega))
  obtain ⟨oa, oc, rfl⟩ := SlR.shape hO
  obtain ⟨la, lc, rfl⟩ := hR.shape
  obtain ⟨ta, tc, rfl, hT⟩ := ht
  have HT0 := Lib.hid hT
  dsimp only [tV] at HLA HFA HKA ⊢
  obtain ⟨CL1, hCL⟩ : ∃ x, L.any rulLB = x := ⟨_, rfl⟩
  obtain ⟨LA1, hLA⟩ : ∃ x, largeB t = x := ⟨_, rfl⟩
  obtain ⟨PR1, hPR⟩ : ∃ x, precP nmB ops = x := ⟨_, rfl⟩
  obtain ⟨FA1, hFA⟩ : ∃ x, wf nmB t = x := ⟨_, rfl⟩
  obtain ⟨KA, hKA⟩ : ∃ x, knowsP ops t = x := ⟨_, rfl⟩
  rw [hCL] at HCL0
  rw [hLA] at HLA
  rw [hPR] at HPR
  rw [hFA] at HFA
  rw [hKA] at HKA
  have HPRE := Lib.hid hPR
  have HFAA := Lib.hid hFA
  have HKAA := Lib.hid hKA
  have HCLL := Lib.hid hCL
  have HSA : Hid (LA1 = false → t.size ≤ 30) := Lib.hid (fun h => small_of (hLA.trans h))
  have H0 := Lib.hid ((Upd.refl (fun _ => False) w).alloc (.cells #[.string t.name, .string t.sort, .slice ta t.kids.length tc] 25))
  have HA := Lib.hid (alloc0 w (.cells #[.string t.name, .string t.sort, .slice ta t.kids.length tc] 25))
  clear hO hR hT htab hpow hCL hLA hPR hFA hKA
  have p0 := cellRow HA.out 0 (.string t.name) rfl
  have p1 := cellRow HA.out 1 (.string t.sort) rfl
  have p2 := cellRow HA.out 2 (.slice ta t.kids.length tc) rfl
  go_enter Tryz.func8, Tryz.ntmps8
  go_wp2_with fail
  refine (HAW.out _ H0.out).mono ?_
  rintro e w4 ⟨rfl, hw4⟩
  have H4 := Lib.hid (H0.out.trans hw4)
  have HA_4 := Lib.hid (hw4.heap HA.out (fun h => h))
  clear hw4 p0 p1 p2
  have p0 := cellRow HA_4.out 0 (.string t.name) rfl
  have p1 := cellRow HA_4.out 1 (.string t.sort) rfl
  have p2 := cellRow HA_4.out 2 (.slice ta t.kids.length tc) rfl
  clear HAW
  go_wp2_with fail
  refine (HLO.out _ H4.out).mono ?_
  rintro e w5 ⟨⟨lb, rfl, hlb⟩, hw5⟩
  have H5 := Lib.hid (H4.out.trans hw5)
  have HA_5 := Lib.hid (hw5.heap HA_4.out (fun h => h))
  clear hw5 p0 p1 p2
  have p0 := cellRow HA_5.out 0 (.string t.name) rfl
  have p1 := cellRow HA_5.out 1 (.string t.sort) rfl
  have p2 := cellRow HA_5.out 2 (.slice ta t.kids.length tc) rfl
  have HL := Lib.hid hlb
  clear HLO hlb
  cases lb
  case true =>
    go_wp2_with fail
    all_goals go_ret
    all_goals exact ⟨rfl, H5.out⟩
  have HLL := Lib.hid (HL.out rfl)
  clear HL
  by_cases hbz1 : 12 < L.length
  · have z1 : (12 : Int) < (L.length : Int) := by omega
    have z1' : decide ((12 : Int) < (L.length : Int)) = true := decide_eq_true z1
    go_wp2_with fail
    all_goals go_ret
    all_goals exact ⟨rfl, H5.out⟩
  have z1 : ¬ (12 : Int) < (L.length : Int) := by omega
  have z1' : decide ((12 : Int) < (L.length : Int)) = false := decide_eq_false z1
  have HLN : Hid (L.length ≤ 12) := Lib.hid (by omega)
  clear hbz1
  go_wp2_with fail
  refine (HCL0.out HLN.out _ H5.out).mono ?_
  rintro e w6 ⟨rfl, hw6⟩
  have H6 := Lib.hid (H5.out.trans hw6)
  have HA_6 := Lib.hid (hw6.heap HA_5.out (fun h => h))
  clear hw6 p0 p1 p2
  have p0 := cellRow HA_6.out 0 (.string t.name) rfl
  have p1 := cellRow HA_6.out 1 (.string t.sort) rfl
  have p2 := cellRow HA_6.out 2 (.slice ta t.kids.length tc) rfl
  cases CL1
  case true =>
    go_wp2_with fail
    all_goals go_ret
    all_goals exact ⟨rfl, H6.out⟩
  clear HCL0
  go_wp2_with fail
  refine (HLA.out _ H6.out).mono ?_
  rintro e w7 ⟨rfl, hw7⟩
  have H7 := Lib.hid (H6.out.trans hw7)
  have HA_7 := Lib.hid (hw7.heap HA_6.out (fun h => h))
  clear hw7 p0 p1 p2
  have p0 := cellRow HA_7.out 0 (.string t.name) rfl
  have p1 := cellRow HA_7.out 1 (.string t.sort) rfl
  have p2 := cellRow HA_7.out 2 (.slice ta t.kids.length tc) rfl
  cases LA1
  case true =>
    go_wp2_with fail
    all_goals go_ret
    all_goals exact ⟨rfl, H7.out⟩
  clear HLA
  go_wp2_with fail
  refine (HPR.out _ H7.out).mono ?_
  rintro e w8 ⟨rfl, hw8⟩
  have H8 := Lib.hid (H7.out.trans hw8)
  have HA_8 := Lib.hid (hw8.heap HA_7.out (fun h => h))
  clear hw8 p0 p1 p2
  have p0 := cellRow HA_8.out 0 (.string t.name) rfl
  have p1 := cellRow HA_8.out 1 (.string t.sort) rfl
  have p2 := cellRow HA_8.out 2 (.slice ta t.kids.length tc) rfl
  cases PR1
  case false =>
    go_wp2_with fail
    all_goals go_ret
    all_goals exact ⟨rfl, H8.out⟩
  clear HPR
  go_wp2_with fail
  refine (HFA.out _ H8.out).mono ?_
  rintro e w9 ⟨rfl, hw9⟩
  have H9 := Lib.hid (H8.out.trans hw9)
  have HA_9 := Lib.hid (hw9.heap HA_8.out (fun h => h))
  clear hw9 p0 p1 p2
  have p0 := cellRow HA_9.out 0 (.string t.name) rfl
  have p1 := cellRow HA_9.out 1 (.string t.sort) rfl
  have p2 := cellRow HA_9.out 2 (.slice ta t.kids.length tc) rfl
  cases FA1
  case false =>
    go_wp2_with fail
    all_goals go_ret
    all_goals exact ⟨rfl, H9.out⟩
  clear HFA
  have hsz := HSA.out (by simp)
  have HKA1 := Lib.hid (HKA.out HLL.out hsz)
  have HSZ := Lib.hid hsz
  have hfl := rules_small HCLL.out
  have HDE1 := Lib.hid (HDE.out HLL.out (by have := HLN.out; omega) (by have := HLN.out; omega))
  clear HKA hsz hfl HDE
  go_wp2_with fail
  refine (HKA1.out _ H9.out).mono ?_
  rintro e w10 ⟨rfl, hw10⟩
  have H10 := Lib.hid (H9.out.trans hw10)
  have HA_10 := Lib.hid (hw10.heap HA_9.out (fun h => h))
  clear hw10 p0 p1 p2
  have p0 := cellRow HA_10.out 0 (.string t.name) rfl
  have p1 := cellRow HA_10.out 1 (.string t.sort) rfl
  have p2 := cellRow HA_10.out 2 (.slice ta t.kids.length tc) rfl
  cases KA
  case false =>
    go_wp2_with fail
    all_goals go_ret
    all_goals exact ⟨rfl, H10.out⟩
  clear HKA1
  go_wp2_with fail
  obtain ⟨D1, D2, D3, hD⟩ : ∃ a b d, decF ops L = (a, b, d) := ⟨_, _, _, rfl⟩
  rw [hD] at HDE1
  have HDD := Lib.hid hD
  clear hD
  dsimp only at HDE1
  refine (HDE1.out _ H10.out).mono ?_
  rintro e w11 ⟨rfl, hw11⟩
  have H11 := Lib.hid (H10.out.trans hw11)
  have HA_11 := Lib.hid (hw11.heap HA_10.out (fun h => h))
  clear hw11 p0 p1 p2
  have p0 := cellRow HA_11.out 0 (.string t.name) rfl
  have p1 := cellRow HA_11.out 1 (.string t.sort) rfl
  have p2 := cellRow HA_11.out 2 (.slice ta t.kids.length tc) rfl
  clear HDE1
  by_cases hd3 : D3 = 0
  case neg =>
    have e0 : (D3 == 0) = false := beq_eq_false_iff_ne.2 hd3
    have e1 : decide (D3 = 0) = false := decide_eq_false hd3
    go_wp2_with fail
    all_goals go_ret
    all_goals exact ⟨rfl, H11.out⟩
  subst hd3
  cases D1
  case false =>
    go_wp2_with fail
    all_goals go_ret
    all_goals exact ⟨rfl, H11.out⟩
  have hdec : (flR L).all (wf nmB) = true ∧ (flR L).all (knowsP ops) = true ∧ allDec ops L = true := by
    have h := HDD.out
    unfold decF at h
    by_cases h1 : precP nmB ops = false ∨ (flR L).all (wf nmB) = false
    · rw [if_pos h1] at h; simp at h
    rw [if_neg h1] at h
    by_cases h2 : 100 < L.length
    · rw [if_pos h2] at h; simp at h
    rw [if_neg h2] at h
    by_cases h3 : (flR L).all (knowsP ops) = false
    · rw [if_pos h3] at h; simp at h
    rw [if_neg h3, firstI_neg] at h
    simp only [Prod.mk.injEq] at h
    exact ⟨by simpa using (not_or.1 h1).2, by simpa using h3, h.1⟩
  have HRWF : Hid (∀ r ∈ L, wf nmB r.1 = true ∧ wf nmB r.2 = true) := Lib.hid (fun r hr => ⟨List.all_eq_true.1 hdec.1 _ (mem_flR.2 ⟨r, hr, .inl rfl⟩), List.all_eq_true.1 hdec.1 _ (mem_flR.2 ⟨r, hr, .inr rfl⟩)⟩)
  have HRK : Hid (∀ r ∈ L, knowsP ops r.2 = true) := Lib.hid (fun r hr => List.all_eq_true.1 hdec.2.1 _ (mem_flR.2 ⟨r, hr, .inr rfl⟩))
  have HRG : Hid (∀ r ∈ L, gt (ixF ops) r.1 r.2 = true) := Lib.hid (fun r hr => by
    have h := hdec.2.2
    unfold allDec at h
    exact List.all_eq_true.1 h r hr)
  have HGR : Hid (∀ x y, wf nmB x = true → wf nmB y = true → knowsP ops x = true → knowsP ops y = true → grF ops x y = (gt (ixF ops) x y, 0)) := Lib.hid (fun x y h1 h2 h3 h4 => by
    unfold grF
    rw [if_neg (by rw [HPRE.out, h1, h2]; simp), if_neg (by rw [h3, h4]; simp)])
  clear hdec HDD z1 z1' p0 p1 p2
  go_wp2_with fail
  go_loopg [61] 6 (fun gk iv wr => ∃ (k : Nat) (t : Tm) (ta : Option Addr) (tc : Nat), iv = .int .i64 (k : Int) ∧ gk = 6 - k ∧ k ≤ 6 ∧ Hid (Ext w wr) ∧ Hid (wr.heap[w.heap.size]? = some (.cells #[.string t.name, .string t.sort, .slice ta t.kids.length tc] 25 (0, 0))) ∧ Hid (TlR (fun j => j < wr.heap.size ∧ j ≠ w.heap.size) wr t.kids (.slice ta t.kids.length tc)) ∧ Hid (wf nmB t = true ∧ knowsP ops t = true ∧ t.size ≤ 30))
  case atStart => exact ⟨0, t, ta, tc, rfl, rfl, Nat.zero_le _, H11, HA_11, Lib.hid ((HT0.out.ext H11.out).weaken (fun j hj => ⟨Nat.lt_of_lt_of_le hj H11.out.size, by omega⟩)), Lib.hid ⟨HFAA.out, HKAA.out, HSZ.out⟩⟩
  case round =>
    clear HA_11 HT0 HFAA HKAA HSZ H11
    obtain ⟨k, t, ta, tc, rfl, rfl, hk, HE, HA, HTL, HTT⟩ := hrel
    by_cases hlt : k < 6
    · have z2 : (k : Int) < 6 := by omega
      have z2' : decide ((k : Int) < 6) = true := decide_eq_true z2
      have HST := Lib.hid (Step_x L t (.slice la L.length lc) (.agg #[.string t.name, .string t.sort, .slice ta t.kids.length tc]) wr ((HRL.out.ext HE.out).weaken (fun j hj => Nat.lt_of_lt_of_le hj HE.out.size)) ⟨ta, tc, rfl, HTL.out.weaken (fun j hj => hj.1)⟩ (asc_ext HASC.out HE.out) (by have := HLN.out; omega) (fun r hr => by
        have h := List.any_eq_false.1 HCLL.out r hr
        unfold rulLB at h
        rw [Bool.or_eq_true, not_or, Bool.not_eq_true, Bool.not_eq_true] at h
        have h1 := small_of h.1
        have h2 := small_of h.2
        omega) (by have := HTT.out.2.2; omega))
      obtain ⟨G, hG⟩ : ∃ G, stepG L t = G := ⟨_, rfl⟩
      have HGG := Lib.hid hG
      rw [hG] at HST
      obtain ⟨u, ⟨ri, rp⟩, er⟩ := G
      clear hG
      have p0 := cellRow HA.out 0 (.string t.name) rfl
      have p1 := cellRow HA.out 1 (.string t.sort) rfl
      have p2 := cellRow HA.out 2 (.slice ta t.kids.length tc) rfl
      go_wp2_with fail
      refine HST.out.mono ?_
      rintro e w6 ⟨⟨r, pv, rfl, hTl, hPl⟩, hw6⟩
      dsimp only at hTl hPl ⊢
      obtain ⟨ua, uc, hr⟩ := hTl.shape
      subst hr
      obtain ⟨pa, pc, hp⟩ := SlR.shape hPl
      subst hp
      have hQ := ((Upd.refl (fun _ => False) w6).alloc (.cells #[.string u.name, .string u.sort, .slice ua u.kids.length uc] 25)).alloc (.cells #[.int .i64 (ri : Int), .slice pa rp.length pc] 71)
      have H8 := Lib.hid ((HE.out.trans hw6).trans hQ)
      have HA_8 := Lib.hid ((hw6.trans hQ).heap HA.out (fun h => h))
      have HU_8 := Lib.hid (allocOld (alloc0 w6 (.cells #[.string u.name, .string u.sort, .slice ua u.kids.length uc] 25)) (.cells #[.int .i64 (ri : Int), .slice pa rp.length pc] 71))
      have HTU := Lib.hid (hTl.ext hQ)
      have HTT8 := Lib.hid (HTL.out.ext (hw6.trans hQ))
      have HX8 := Lib.hid (hw6.trans hQ)
      have HSW : Hid (w.heap.size < wr.heap.size) := Lib.hid (Array.getElem?_eq_some_iff.1 HA.out).1
      have HS6 : Hid (wr.heap.size ≤ w6.heap.size) := Lib.hid hw6.size
      have HQZ := Lib.hid hQ.size
      clear hTl hPl hw6 hQ HST HA p0 p1 p2
      obtain ⟨n6, hn6⟩ : ∃ n, w6.heap.size = n := ⟨_, rfl⟩
      rw [hn6] at HU_8 HS6
      have p0 := cellRow HA_8.out 0 (.string t.name) rfl
      have p1 := cellRow HA_8.out 1 (.string t.sort) rfl
      have p2 := cellRow HA_8.out 2 (.slice ta t.kids.length tc) rfl
      have q0 := cellRow HU_8.out 0 (.string u.name) rfl
      have q1 := cellRow HU_8.out 1 (.string u.sort) rfl
      have q2 := cellRow HU_8.out 2 (.slice ua u.kids.length uc) rfl
      dsimp only [tV]
      by_cases her : er = 0
      case neg =>
        have e0 : (er == 0) = false := beq_eq_false_iff_ne.2 her
        have e1 : decide (er = 0) = false := decide_eq_false her
        go_wp2_with fail
        all_goals go_ret
        all_goals exact ⟨rfl, H8.out⟩
      subst her
      have hstep : ∃ i p x, fndT L t = some (i, p, x) ∧ u = putAt t p x := by
        have h := HGG.out
        unfold stepG at h
        split at h
        · unfold stepF at h
          cases hf : fndT L t with
          | none => rw [hf] at h; simp at h
          | some y =>
            rw [hf] at h
            simp only at h
            split at h
            · rename_i h2
              simp only [Prod.mk.injEq] at h
              refine ⟨y.1, y.2.1, y.2.2, rfl, ?_⟩
              rw [← h.1]
              unfold putF at h2 ⊢
              split at h2
              · rename_i h3
                rw [if_pos h3]
              · simp at h2
            · rename_i h2
              simp only [Prod.mk.injEq] at h
              exact absurd h.2.2 h2
        · simp at h
      obtain ⟨si, sp, sx, hfn, hup⟩ := hstep
      have HKU : Hid (knowsP ops u = true) := Lib.hid (by
        rw [hup]
        exact step_knows HRG.out (fun r hr => ⟨wf_nop (HRWF.out r hr).1, wf_nop (HRWF.out r hr).2⟩) HRK.out HTT.out.2.1 hfn)
      have HGU : Hid (gt (ixF ops) t u = true) := Lib.hid (by
        rw [hup]
        exact step_gt HRG.out (wf_nop HTT.out.1) hfn)
      have HLU := Lib.hid (fun W (hW : Ext ((w6.alloc (.cells #[.string u.name, .string u.sort, .slice ua u.kids.length uc] 25)).alloc (.cells #[.int .i64 (ri : Int), .slice pa rp.length pc] 71)) W) => large_x u (.agg #[.string u.name, .string u.sort, .slice ua u.kids.length uc]) _ W ⟨ua, uc, rfl, HTU.out.ext hW⟩)
      have HFU := Lib.hid (fun W (hW : Ext ((w6.alloc (.cells #[.string u.name, .string u.sort, .slice ua u.kids.length uc] 25)).alloc (.cells #[.int .i64 (ri : Int), .slice pa rp.length pc] 71)) W) => rformed_x u (.agg #[.string u.name, .string u.sort, .slice ua u.kids.length uc]) _ W ⟨ua, uc, rfl, HTU.out.ext hW⟩)
      obtain ⟨LU, hLU⟩ : ∃ x, largeB u = x := ⟨_, rfl⟩
      obtain ⟨FU, hFU⟩ : ∃ x, wf nmB u = x := ⟨_, rfl⟩
      rw [hLU] at HLU
      rw [hFU] at HFU
      have HLUU := Lib.hid hLU
      have HFUU := Lib.hid hFU
      clear hfn hup hLU hFU HGG
      go_wp2_with fail
      clear hn6
      generalize (w6.alloc (.cells #[.string u.name, .string u.sort, .slice ua u.kids.length uc] 25)).alloc (.cells #[.int .i64 (ri : Int), .slice pa rp.length pc] 71) = w8 at *
      refine (HLU.out _ (Upd.refl _ _)).mono ?_
      rintro e w9 ⟨rfl, hw9⟩
      have H9 := Lib.hid (H8.out.trans hw9)
      have HX9 := Lib.hid hw9
      have HA_9 := Lib.hid (hw9.heap HA_8.out (fun h => h))
      have HU_9 := Lib.hid (hw9.heap HU_8.out (fun h => h))
      clear hw9 HLU p0 p1 p2 q0 q1 q2
      have p0 := cellRow HA_9.out 0 (.string t.name) rfl
      have p1 := cellRow HA_9.out 1 (.string t.sort) rfl
      have p2 := cellRow HA_9.out 2 (.slice ta t.kids.length tc) rfl
      have q0 := cellRow HU_9.out 0 (.string u.name) rfl
      have q1 := cellRow HU_9.out 1 (.string u.sort) rfl
      have q2 := cellRow HU_9.out 2 (.slice ua u.kids.length uc) rfl
      cases LU
      case true =>
        go_wp2_with fail
        all_goals go_ret
        all_goals exact ⟨rfl, H9.out⟩
      have HSU := Lib.hid (small_of HLUU.out)
      go_wp2_with fail
      refine (HFU.out _ HX9.out).mono ?_
      rintro e w10 ⟨rfl, hw10⟩
      have H10 := Lib.hid (H9.out.trans hw10)
      have HX10 := Lib.hid (HX9.out.trans hw10)
      have HA_10 := Lib.hid (hw10.heap HA_9.out (fun h => h))
      have HU_10 := Lib.hid (hw10.heap HU_9.out (fun h => h))
      clear hw10 HFU p0 p1 p2 q0 q1 q2
      have p0 := cellRow HA_10.out 0 (.string t.name) rfl
      have p1 := cellRow HA_10.out 1 (.string t.sort) rfl
      have p2 := cellRow HA_10.out 2 (.slice ta t.kids.length tc) rfl
      have q0 := cellRow HU_10.out 0 (.string u.name) rfl
      have q1 := cellRow HU_10.out 1 (.string u.sort) rfl
      have q2 := cellRow HU_10.out 2 (.slice ua u.kids.length uc) rfl
      cases FU
      case false =>
        go_wp2_with fail
        all_goals go_ret
        all_goals exact ⟨rfl, H10.out⟩
      have HPG1 := Lib.hid (HPG.out t u (.agg #[.string t.name, .string t.sort, .slice ta t.kids.length tc]) (.agg #[.string u.name, .string u.sort, .slice ua u.kids.length uc]) w10 H10.out HLL.out ⟨ta, tc, rfl, (HTT8.out.ext HX10.out).weaken (fun j hj => Nat.lt_of_lt_of_le hj.1 (Nat.le_trans HX8.out.size HX10.out.size))⟩ ⟨ua, uc, rfl, (HTU.out.ext HX10.out).weaken (fun j hj => Nat.lt_of_lt_of_le hj.2 (Nat.le_trans HQZ.out HX10.out.size))⟩ (by have := HTT.out.2.2; omega) (by have := HSU.out; omega))
      rw [HGR.out t u HTT.out.1 HFUU.out HTT.out.2.1 HKU.out, HGU.out] at HPG1
      go_wp2_with fail
      refine HPG1.out.mono ?_
      rintro e w11 ⟨rfl, hw11⟩
      have H11 := Lib.hid (H10.out.trans hw11)
      have HX11 := Lib.hid (HX10.out.trans hw11)
      have HA_11 := Lib.hid (hw11.heap HA_10.out (fun h => h))
      have HU_11 := Lib.hid (hw11.heap HU_10.out (fun h => h))
      clear hw11 HPG1 p0 p1 p2 q0 q1 q2
      have p0 := cellRow HA_11.out 0 (.string t.name) rfl
      have p1 := cellRow HA_11.out 1 (.string t.sort) rfl
      have p2 := cellRow HA_11.out 2 (.slice ta t.kids.length tc) rfl
      have q0 := cellRow HU_11.out 0 (.string u.name) rfl
      have q1 := cellRow HU_11.out 1 (.string u.sort) rfl
      have q2 := cellRow HU_11.out 2 (.slice ua u.kids.length uc) rfl
      have fd := fun i => frozenRow HA_11.out i
      go_wp2_with fail
      have hr := st3_heap HA_11.out (.string u.name) (.string u.sort) (.slice ua u.kids.length uc)
      have hu := st3_upd' w11 w.heap.size (.string u.name) (.string u.sort) (.slice ua u.kids.length uc)
      have HRN := Lib.hid hr
      have HEN := Lib.hid (H11.out.trans' hu (fun j hj e => by omega))
      have HTN := Lib.hid (((HTU.out.ext HX11.out).kept hu (fun j hj e => by have h1 := hj.1; have h2 := HSW.out; omega)).weaken (T := fun j => j < ((((w11.setCell ⟨w.heap.size, 0, none⟩ (.string u.name)).setCell ⟨w.heap.size, 1, none⟩ (.string u.sort)).setCell ⟨w.heap.size, 2, none⟩ (.slice ua u.kids.length uc))).heap.size ∧ j ≠ w.heap.size) (fun j hj => ⟨Nat.lt_of_lt_of_le hj.2 (Nat.le_trans HQZ.out (Nat.le_trans HX11.out.size hu.size)), by have h1 := hj.1; have h2 := HSW.out; omega⟩))
      clear hr hu fd p0 p1 p2 q0 q1 q2
      go_roundg (6 - (k + 1))
      case measure => omega
      case rel => exact ⟨k + 1, u, ua, uc, by go_num, rfl, by omega, HEN, HRN, HTN, Lib.hid ⟨HFUU.out, HKU.out, HSU.out⟩⟩
    · obtain rfl : k = 6 := by omega
      have z2' : decide (((6 : Nat) : Int) < 6) = false := by decide
      go_wp2_with fail
      all_goals go_ret
      all_goals exact ⟨rfl, HE.out⟩

end Go.Proofs.YtiimccogojkldaaGreatDoor
