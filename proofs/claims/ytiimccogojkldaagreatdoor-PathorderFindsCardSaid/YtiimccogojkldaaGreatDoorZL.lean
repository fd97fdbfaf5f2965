/- The texts I51 I52 I53, one behind the other. -/
import Derived.Test.YtiimccogojkldaaGreatDoorZI
/- Decreasing of the program. -/
namespace Go.Proofs.YtiimccogojkldaaGreatDoor
open Go.RowKit Go.Hw Go
set_option linter.unusedVariables false
set_option linter.unusedSimpArgs false

open Tm
def decF (ops : List By) (L : List Rl) : Bool × Int × Int :=
  if precP nmB ops = false ∨ (flR L).all (wf nmB) = false then (false, 0, 1) else if 100 < L.length then (false, 0, 4) else
    if (flR L).all (knowsP ops) = false then (false, 0, 9) else (decide (firstI ops L < 0), firstI ops L, 0)
set_option maxRecDepth 100000 in
set_option maxHeartbeats 2000000 in
theorem decr_x (ops : List By) (L : List Rl) (ov lv : Value) (w : World) (hO : StR (fun k => k < w.heap.size) w ov ops) (hR : RuR (fun k => k < w.heap.size) w L lv) (htab : AscT w) (hpow : Lib.TabIs Tryz.prog w "internal/strconv.uint64pow10" .u64 Lib.pow10Tab) (hol : ops.length ≤ 1000000) (hl : L.length ≤ 100000) (hsz : sizes (flR L) ≤ 100000) :
    Calls Tryz.prog 16 #[ov, lv] w fun e w' => e = .returned (.tuple #[.bool (decF ops L).1, .int .i64 (decF ops L).2.1, .int .i64 (decF ops L).2.2]) ∧ Ext w w' := by
  have HSD := Lib.hid (sides_x L lv _ w hR (fun k h => h) hl)
  have HPR := Lib.hid (fun W (hW : Ext w W) => prec_x ops ov _ W (SlR.kept hO hW (fun _ _ h => h)) (asc_ext htab hW) hol)
  have HNO := Lib.hid (fun (hp : precP nmB ops = true) W (hW : Ext w W) => newO_x ops ov (fun k => k < w.heap.size) w.heap.size W (SlR.kept hO hW (fun _ _ h => h)) (fun k hk => Nat.lt_of_lt_of_le hk hW.size) ((precP_iff _ _).1 hp).2.2 hW.size hol)
  have HFI := Lib.hid (fun (hok : ∀ t ∈ flR L, ∀ x ∈ sbts t, OkN ops x) W bb B (hW : Ext w W) (ho : OrdR 144 114 ops (fun _ => False) B w.heap.size W bb []) => first_x ops w.heap.size bb L lv B (fun k => k < w.heap.size) W ho (hR.ext hW) (fun k hk => hk) hW.size (by omega) hsz hok
    (fun W2 h2 => pow_upd hpow ((hW.mono (G := fun j => w.heap.size ≤ j) (fun _ _ x => x.elim)).trans h2) (fun k hk h => by omega)))
  have HTS : Hid (∀ t ∈ flR L, t.size ≤ 100000) := Lib.hid (fun t ht => by
    have := mem_sizes ht
    omega)
  have HKN := Lib.hid (fun W (hW : Ext w W) tv (ht : TlR (fun k => k < W.heap.size) W (flR L) tv) => know_x ops (flR L) ov tv _ W (SlR.weaken (SlR.kept hO hW (fun _ _ h => h)) (fun k hk => Nat.lt_of_lt_of_le hk hW.size)) ht (fun k hk => hk) hol (by rw [flR_len]; omega) HTS.out)
  have HFO := Lib.hid (fun W (hW : Ext w W) tv (ht : TlR (fun k => k < W.heap.size) W (flR L) tv) => forms_x (flR L) tv W (asc_ext htab hW) ht (by rw [flR_len]; omega) (fun t ht => by have := HTS.out t ht; omega))
  obtain ⟨oa, oc, rfl⟩ := SlR.shape hO
  obtain ⟨la, lc, rfl⟩ := hR.shape
  clear hR hO hsz htab hpow
  go_enter Tryz.func16, Tryz.ntmps16
  go_wp2_with fail
  refine HSD.out.mono ?_
  rintro e w4 ⟨r4, rfl, hr4, hw4⟩
  have H4 := Lib.hid hw4
  have HT4 := Lib.hid hr4
  obtain ⟨ta, tc, htv⟩ := hr4.shape
  subst htv
  clear hr4 hw4 HSD
  obtain ⟨P, hP⟩ : ∃ x, precP nmB ops = x := ⟨_, rfl⟩
  have HP := Lib.hid hP
  rw [hP] at HPR
  have HFO4 := Lib.hid (fun W (hW : Ext w W) (hX : Ext w4 W) => HFO.out W hW _ ((HT4.out.ext hX).weaken (fun k hk => Nat.lt_of_lt_of_le hk hX.size)))
  have HKN4 := Lib.hid (fun W (hW : Ext w W) (hX : Ext w4 W) => HKN.out W hW _ ((HT4.out.ext hX).weaken (fun k hk => Nat.lt_of_lt_of_le hk hX.size)))
  clear HFO HKN HT4 hP
  have HV0 : Hid (P = false → decF ops L = (false, 0, 1)) := Lib.hid (fun h => by unfold decF; rw [if_pos (.inl (by rw [HP.out, h]))])
  cases P
  · have HV := Lib.hid (HV0.out rfl)
    clear HV0
    go_wp2_with fail
    refine (HPR.out _ H4.out).mono ?_
    rintro e w5 ⟨rfl, hw5⟩
    have H5 := Lib.hid (H4.out.trans hw5)
    clear hw5 HPR
    go_wp2_with fail
    go_ret3
    rw [HV.out]
    exact ⟨rfl, H5.out⟩
  clear HV0
  have HNO1 := Lib.hid (HNO.out HP.out)
  clear HNO
  go_wp2_with fail
  refine (HPR.out _ H4.out).mono ?_
  rintro e w5 ⟨rfl, hw5⟩
  have H5 := Lib.hid (H4.out.trans hw5)
  have HX5 := Lib.hid hw5
  have HFO5 := Lib.hid (HFO4.out _ H5.out HX5.out)
  clear hw5 HPR HFO4
  obtain ⟨Fm, hF⟩ : ∃ x, (flR L).all (wf nmB) = x := ⟨_, rfl⟩
  have HF := Lib.hid hF
  rw [hF] at HFO5
  clear hF
  have HV0 : Hid (Fm = false → decF ops L = (false, 0, 1)) := Lib.hid (fun h => by unfold decF; rw [if_pos (.inr (by rw [HF.out, h]))])
  cases Fm
  · have HV := Lib.hid (HV0.out rfl)
    clear HV0
    go_wp2_with fail
    refine HFO5.out.mono ?_
    rintro e w6 ⟨rfl, hw6⟩
    have H6 := Lib.hid (H5.out.trans hw6)
    clear hw6 HFO5
    go_wp2_with fail
    go_ret3
    rw [HV.out]
    exact ⟨rfl, H6.out⟩
  clear HV0
  go_wp2_with fail
  refine HFO5.out.mono ?_
  rintro e w6 ⟨rfl, hw6⟩
  have H6 := Lib.hid (H5.out.trans hw6)
  have HX6 := Lib.hid (HX5.out.trans hw6)
  clear hw6 HFO5 HX5
  have HN1 : Hid (¬ (precP nmB ops = false ∨ (flR L).all (wf nmB) = false)) := Lib.hid (by rw [HP.out, HF.out]; simp)
  by_cases hc : 100 < L.length
  · have HV : Hid (decF ops L = (false, 0, 4)) := Lib.hid (by unfold decF; rw [if_neg HN1.out, if_pos hc])
    have z1 : (100 : Int) < (L.length : Int) := by omega
    go_wp2_with fail
    go_ret3
    rw [HV.out]
    exact ⟨rfl, H6.out⟩
  have HC := Lib.hid hc
  have z1 : ¬ (100 : Int) < (L.length : Int) := by omega
  clear hc
  obtain ⟨K, hK⟩ : ∃ x, (flR L).all (knowsP ops) = x := ⟨_, rfl⟩
  have HK := Lib.hid hK
  have HKN6 := Lib.hid (HKN4.out _ H6.out HX6.out)
  rw [hK] at HKN6
  clear hK HKN4
  have HV0 : Hid (K = false → decF ops L = (false, 0, 9)) := Lib.hid (fun h => by unfold decF; rw [if_neg HN1.out, if_neg HC.out, if_pos (by rw [HK.out, h])])
  cases K
  · have HV := Lib.hid (HV0.out rfl)
    clear HV0
    go_wp2_with fail
    refine HKN6.out.mono ?_
    rintro e w7 ⟨rfl, hw7⟩
    have H7 := Lib.hid (H6.out.trans hw7)
    clear hw7 HKN6
    go_wp2_with fail
    go_ret3
    rw [HV.out]
    exact ⟨rfl, H7.out⟩
  clear HV0
  have HFI1 := Lib.hid (HFI.out (fun t ht x hx => wf_ok (List.all_eq_true.1 HF.out t ht) (List.all_eq_true.1 HK.out t ht) x hx))
  have HV : Hid (decF ops L = (decide (firstI ops L < 0), firstI ops L, 0)) := Lib.hid (by unfold decF; rw [if_neg HN1.out, if_neg HC.out, if_neg (by rw [HK.out]; simp)])
  clear HFI
  generalize firstI ops L = X at *
  go_wp2_with fail
  refine HKN6.out.mono ?_
  rintro e w7 ⟨rfl, hw7⟩
  have H7 := Lib.hid (H6.out.trans hw7)
  clear hw7 HKN6 z1
  go_wp2_with fail
  refine (HNO1.out _ H7.out).mono ?_
  rintro e w8 ⟨bb, B, rfl, ho8, hw8, hb8⟩
  have HF8 := Lib.hid (HFI1.out w8 bb B (H7.out.trans hw8) ho8)
  have HE8 := Lib.hid (And.intro (H7.out.trans hw8) (fun j hj => Nat.le_trans H7.out.size (hb8 j hj)))
  clear ho8 hw8 hb8 HNO1 HFI1
  go_wp2_with fail
  refine HF8.out.mono ?_
  rintro e w9 ⟨rfl, hu9⟩
  have H9 : Hid (Ext w w9) := Lib.hid (HE8.out.1.trans' hu9 (fun j hj h => by have := HE8.out.2 j h; omega))
  clear hu9
  go_wp2_with fail
  go_ret3
  rw [HV.out]
  exact ⟨rfl, H9.out⟩

end Go.Proofs.YtiimccogojkldaaGreatDoor

/- Decreasing of the reference. -/
namespace Go.Proofs.YtiimccogojkldaaGreatDoor
open Go.RowKit Go.Hw Go
set_option linter.unusedVariables false
set_option linter.unusedSimpArgs false

open Tm
set_option maxRecDepth 100000 in
set_option maxHeartbeats 2000000 in
theorem rforms_x (L : List Rl) (v : Value) (S : Nat → Prop) (w : World) (hR : RuR S w L v) (hl : L.length ≤ 1000000) : Calls Tryz.prog 48 #[v] w fun e w' => e = .returned (.bool ((flR L).all (wf nmB))) ∧ Ext w w' := by
  obtain ⟨a, cap, rfl⟩ := hR.shape
  have HR := Lib.hid hR
  obtain ⟨V, hV⟩ : ∃ b, (flR L).all (wf nmB) = b := ⟨_, rfl⟩
  have HVV := Lib.hid hV
  rw [hV]
  clear hR hV
  go_enter Tryz.func48, Tryz.ntmps48
  go_wp2_with fail
  go_loopg [3] L.length (fun gk iv wr => ∃ k : Nat, iv = .int .i64 (k : Int) ∧ gk = L.length - k ∧ k ≤ L.length ∧ Hid ((flR (L.take k)).all (wf nmB) = true) ∧ Hid (Ext w wr))
  case atStart => exact ⟨0, rfl, rfl, Nat.zero_le _, Lib.hid rfl, Lib.hid (Upd.refl _ _)⟩
  case round =>
    obtain ⟨k, rfl, rfl, hk, HM, HE⟩ := hrel
    by_cases hlt : k < L.length
    · obtain ⟨g, off, hga, _, hat⟩ := (HR.out.ext HE.out).at_ (by omega)
      subst hga
      obtain ⟨xa, xc, ya, yc, q0, q1, q2, q3, q4, q5, hx, hy⟩ := hat k hlt
      have z0 : (0 : Int) ≤ (k : Int) := by omega
      have z1 : (k : Int) < (L.length : Int) := by omega
      have z2 : decide ((k : Int) < (L.length : Int)) = true := decide_eq_true z1
      have z2' : decide (k < L.length) = true := decide_eq_true hlt
      have hmem := rg_mem hlt
      have HFX := Lib.hid (fun W (hW : Ext wr W) => rformed_x (rg L k).1 _ S W ⟨xa, xc, rfl, hx.ext hW⟩)
      have HFY := Lib.hid (fun W (hW : Ext wr W) => rformed_x (rg L k).2 _ S W ⟨ya, yc, rfl, hy.ext hW⟩)
      have HN : Hid (wf nmB (rg L k).1 = true → wf nmB (rg L k).2 = true → (flR (L.take (k + 1))).all (wf nmB) = true) := Lib.hid (fun h1 h2 => by
        rw [rg_snoc L k hlt, flR_append, List.all_append, HM.out]
        show (true && (wf nmB (rg L k).1 && (wf nmB (rg L k).2 && true))) = true
        rw [h1, h2]; rfl)
      have HY : Hid (wf nmB (rg L k).1 = false ∨ wf nmB (rg L k).2 = false → V = false) := Lib.hid (fun h => by
        rw [← HVV.out, Bool.eq_false_iff]
        intro h2
        have h3 := List.all_eq_true.1 h2
        rcases h with h | h
        · rw [h3 _ (mem_flR.2 ⟨_, hmem, .inl rfl⟩)] at h; cases h
        · rw [h3 _ (mem_flR.2 ⟨_, hmem, .inr rfl⟩)] at h; cases h)
      obtain ⟨⟨x, y⟩, hxy⟩ : ∃ r, rg L k = r := ⟨_, rfl⟩
      rw [hxy] at q0 q1 q2 q3 q4 q5 HFX HFY HN HY
      dsimp only [tV] at q0 q1 q2 q3 q4 q5 HFX HFY HN HY
      obtain ⟨b1, hb1⟩ : ∃ b, wf nmB x = b := ⟨_, rfl⟩
      rw [hb1] at HFX HN HY
      obtain ⟨b2, hb2⟩ : ∃ b, wf nmB y = b := ⟨_, rfl⟩
      rw [hb2] at HFY HN HY
      clear hat hx hy hxy hb1 hb2 HM hmem
      cases b1
      · have HV := Lib.hid (HY.out (.inl rfl))
        clear HN HY HFY
        go_wp2_with fail
        refine (HFX.out _ (Upd.refl _ _)).mono ?_
        rintro e w4 ⟨rfl, hw4⟩
        have H4 := Lib.hid (HE.out.trans hw4)
        clear hw4 q0 q1 q2 q3 q4 q5 HFX
        go_wp2_with fail
        all_goals go_ret
        all_goals (rw [HV.out]; exact ⟨rfl, H4.out⟩)
      · go_wp2_with fail
        refine (HFX.out _ (Upd.refl _ _)).mono ?_
        rintro e w4 ⟨rfl, hw4⟩
        have H4 := Lib.hid (HE.out.trans hw4)
        have HFY4 := Lib.hid (HFY.out _ hw4)
        have r3 := hw4.cell q3 (fun h => h)
        have r4 := hw4.cell q4 (fun h => h)
        have r5 := hw4.cell q5 (fun h => h)
        clear q0 q1 q2 q3 q4 q5
        clear hw4 HFX HFY
        cases b2
        · have HV := Lib.hid (HY.out (.inr rfl))
          clear HN HY
          go_wp2_with fail
          refine HFY4.out.mono ?_
          rintro e w5 ⟨rfl, hw5⟩
          have H5 := Lib.hid (H4.out.trans hw5)
          clear hw5 r3 r4 r5 HFY4
          go_wp2_with fail
          all_goals go_ret
          all_goals (rw [HV.out]; exact ⟨rfl, H5.out⟩)
        · have HN2 := Lib.hid (HN.out (by simp) (by simp))
          clear HN HY
          go_wp2_with fail
          refine HFY4.out.mono ?_
          rintro e w5 ⟨rfl, hw5⟩
          have H5 := Lib.hid (H4.out.trans hw5)
          clear hw5 r3 r4 r5 HFY4
          go_wp2_with fail
          go_roundg (L.length - (k + 1))
          case measure => omega
          case rel => exact ⟨k + 1, by go_num, rfl, by omega, HN2, H5⟩
    · obtain rfl : k = L.length := by omega
      have z2 : decide ((L.length : Int) < (L.length : Int)) = false := decide_eq_false (by omega)
      have HM2 := HM.out
      rw [List.take_length, HVV.out] at HM2
      have HM3 := Lib.hid HM2
      clear HM2
      go_wp2_with fail
      go_ret
      rw [HM3.out]
      exact ⟨rfl, HE.out⟩
set_option maxRecDepth 100000 in
set_option maxHeartbeats 2000000 in
theorem rfirst_x (ops : List By) (L : List Rl) (ov v : Value) (S : Nat → Prop) (w : World) (hO : StR S w ov ops) (hR : RuR S w L v) (hS : ∀ k, S k → k < w.heap.size) (hl : L.length ≤ 1000000) (hwf : (flR L).all (wf nmB) = true) (hkn : (flR L).all (knowsP ops) = true) (hol : ops.length ≤ 1000000) :
    Calls Tryz.prog 49 #[ov, v] w fun e w' => e = .returned (.int .i64 (firstI ops L)) ∧ Ext w w' := by
  obtain ⟨a, cap, rfl⟩ := hR.shape
  obtain ⟨oa, oc, rfl⟩ := SlR.shape hO
  have HR := Lib.hid hR
  have HO := Lib.hid hO
  have HS := Lib.hid hS
  have HWF := Lib.hid (List.all_eq_true.1 hwf)
  have HKN := Lib.hid (List.all_eq_true.1 hkn)
  obtain ⟨V, hV⟩ : ∃ b, firstI ops L = b := ⟨_, rfl⟩
  have HVV := Lib.hid hV
  rw [hV]
  clear hR hO hS hwf hkn hV
  go_enter Tryz.func49, Tryz.ntmps49
  go_wp2_with fail
  go_loopg [5] L.length (fun gk iv wr => ∃ k : Nat, iv = .int .i64 (k : Int) ∧ gk = L.length - k ∧ k ≤ L.length ∧ Hid (∀ j, j < k → decP ops (rg L j) = true) ∧ Hid (Ext w wr))
  case atStart => exact ⟨0, rfl, rfl, Nat.zero_le _, Lib.hid (fun j h => absurd h (Nat.not_lt_zero _)), Lib.hid (Upd.refl _ _)⟩
  case round =>
    obtain ⟨k, rfl, rfl, hk, HM, HE⟩ := hrel
    have hgt : ∀ j, (h : j < L.length) → rg L j = L[j] := fun j h => by unfold rg; rw [List.getD_eq_getElem?_getD, List.getElem?_eq_getElem h]; rfl
    by_cases hlt : k < L.length
    · obtain ⟨g, off, hga, _, hat⟩ := (HR.out.ext HE.out).at_ (by omega)
      subst hga
      obtain ⟨xa, xc, ya, yc, q0, q1, q2, q3, q4, q5, hx, hy⟩ := hat k hlt
      have z0 : (0 : Int) ≤ (k : Int) := by omega
      have z1 : (k : Int) < (L.length : Int) := by omega
      have z2 : decide ((k : Int) < (L.length : Int)) = true := decide_eq_true z1
      have z2' : decide (k < L.length) = true := decide_eq_true hlt
      have hmem := rg_mem hlt
      have hm1 : (rg L k).1 ∈ flR L := mem_flR.2 ⟨_, hmem, .inl rfl⟩
      have hm2 : (rg L k).2 ∈ flR L := mem_flR.2 ⟨_, hmem, .inr rfl⟩
      have HAB := Lib.hid (fun W (hW : Ext wr W) => rabove_x ops (rg L k).1 (rg L k).2 _ _ _ S W (SlR.kept HO.out (HE.out.trans hW) (fun _ _ h => h)) ⟨xa, xc, rfl, hx.ext hW⟩ ⟨ya, yc, rfl, hy.ext hW⟩ (fun j hj => Nat.lt_of_lt_of_le (HS.out j hj) (HE.out.trans hW).size) (wf_size (HWF.out _ hm1)) (wf_size (HWF.out _ hm2)) (wf_nop (HWF.out _ hm1)) (wf_nop (HWF.out _ hm2)) (knowsP_iff.1 (HKN.out _ hm1)) (knowsP_iff.1 (HKN.out _ hm2)) hol)
      have HN : Hid (decP ops (rg L k) = true → ∀ j, j < k + 1 → decP ops (rg L j) = true) := Lib.hid (fun h j hj => by
        rcases Nat.lt_succ_iff_lt_or_eq.1 hj with h5 | h5
        · exact HM.out j h5
        · rw [h5]; exact h)
      have HY : Hid (decP ops (rg L k) = false → V = (k : Int)) := Lib.hid (fun h => by
        have hf : firstP ops L = k := by
          unfold firstP
          rcases Nat.lt_trichotomy (L.findIdx fun r => !decP ops r) k with e | e | e
          · have h1 : (L.findIdx fun r => !decP ops r) < L.length := by omega
            have h2 := List.findIdx_getElem (w := h1)
            rw [← hgt _ h1, HM.out _ e] at h2; cases h2
          · exact e
          · have h2 := List.not_of_lt_findIdx e
            rw [← hgt _ hlt] at h2
            rw [h] at h2; cases h2
        rw [← HVV.out]
        unfold firstI
        rw [hf, if_pos hlt])
      obtain ⟨⟨x, y⟩, hxy⟩ : ∃ r, rg L k = r := ⟨_, rfl⟩
      rw [hxy] at q0 q1 q2 q3 q4 q5 HAB HN HY
      unfold decP at HN HY
      dsimp only [tV] at q0 q1 q2 q3 q4 q5 HAB HN HY
      obtain ⟨b, hb⟩ : ∃ b, gt (ixF ops) x y = b := ⟨_, rfl⟩
      rw [hb] at HAB HN HY
      have hrfs := Upd.refl (fun _ => False) wr
      have xq0 := fun x : XW wr => x.ext.cell q0 (fun h => h)
      have xq1 := fun x : XW wr => x.ext.cell q1 (fun h => h)
      have xq2 := fun x : XW wr => x.ext.cell q2 (fun h => h)
      have xq3 := fun x : XW wr => x.ext.cell q3 (fun h => h)
      have xq4 := fun x : XW wr => x.ext.cell q4 (fun h => h)
      have xq5 := fun x : XW wr => x.ext.cell q5 (fun h => h)
      clear q0 q1 q2 q3 q4 q5 hat hmem hm1 hm2 hx hy hxy hb HM hgt
      go_wp2_with fail
      refine wp_region_ext wr (by assumption) (by kernel_rfl) (by kernel_rfl) ?_
      repeat (first | go_big_quiet_skip | (go_big_quiet_want; go_big_quiet_op; first | go_big_quiet_on | (apply Exists.intro; refine ⟨fun x => ?_, ?_⟩; (go_at_call 44; exact XW.call (HAB.out x.val x.ext)); go_big_quiet_on)))
      refine wpQuiet_nil ?_
      rintro w8 ⟨⟨_, hyw8⟩, rfl⟩
      try dsimp only
      have H8 := Lib.hid (HE.out.trans hyw8)
      clear HAB xq0 xq1 xq2 xq3 xq4 xq5
      cases b
      · have HV := Lib.hid (HY.out rfl)
        clear HN HY
        go_wp2_with fail
        go_ret
        rw [HV.out]
        exact ⟨rfl, H8.out⟩
      · have HN2 := Lib.hid (HN.out rfl)
        clear HN HY
        go_wp2_with fail
        go_roundg (L.length - (k + 1))
        case measure => omega
        case rel => exact ⟨k + 1, by go_num, rfl, by omega, HN2, H8⟩
    · obtain rfl : k = L.length := by omega
      have z2 : decide ((L.length : Int) < (L.length : Int)) = false := decide_eq_false (by omega)
      have HV : Hid (V = -1) := Lib.hid (by
        rw [← HVV.out]
        unfold firstI
        rw [if_neg]
        intro h0
        have h : (L.findIdx fun r => !decP ops r) < L.length := h0
        have h2 := List.findIdx_getElem (w := h)
        rw [← hgt _ h, HM.out _ h] at h2; cases h2)
      clear hgt
      go_wp2_with fail
      go_ret
      rw [HV.out]
      exact ⟨rfl, HE.out⟩
set_option maxRecDepth 100000 in
set_option maxHeartbeats 2000000 in
theorem rdecr_x (ops : List By) (L : List Rl) (ov lv : Value) (w : World) (hO : StR (fun k => k < w.heap.size) w ov ops) (hR : RuR (fun k => k < w.heap.size) w L lv) (hol : ops.length ≤ 1000000) (hl : L.length ≤ 100000) (hsz : sizes (flR L) ≤ 100000) :
    Calls Tryz.prog 17 #[ov, lv] w fun e w' => e = .returned (.tuple #[.bool (decF ops L).1, .int .i64 (decF ops L).2.1, .int .i64 (decF ops L).2.2]) ∧ Ext w w' := by
  have HPR := Lib.hid (rprec_x ops ov _ w hO)
  have HFO := Lib.hid (fun W (hW : Ext w W) => rforms_x L lv _ W (hR.ext hW) (by omega))
  have HFI := Lib.hid (fun (h1 : (flR L).all (wf nmB) = true) (h2 : (flR L).all (knowsP ops) = true) W (hW : Ext w W) => rfirst_x ops L ov lv _ W (SlR.kept hO hW (fun _ _ h => h)) (hR.ext hW) (fun k hk => Nat.lt_of_lt_of_le hk hW.size) (by omega) h1 h2 hol)
  have HTS : Hid (∀ t ∈ flR L, t.size ≤ 100000) := Lib.hid (fun t ht => by
    have := mem_sizes ht
    omega)
  obtain ⟨oa, oc, rfl⟩ := SlR.shape hO
  obtain ⟨a, cap, rfl⟩ := hR.shape
  have HR := Lib.hid hR
  have HO := Lib.hid hO
  clear hR hO hsz
  obtain ⟨P, hP⟩ : ∃ x, precP nmB ops = x := ⟨_, rfl⟩
  have HP := Lib.hid hP
  rw [hP] at HPR
  obtain ⟨Fm, hF⟩ : ∃ x, (flR L).all (wf nmB) = x := ⟨_, rfl⟩
  have HF := Lib.hid hF
  rw [hF] at HFO
  clear hP hF
  go_enter Tryz.func17, Tryz.ntmps17
  go_wp2_with fail
  cases P
  · have HV : Hid (decF ops L = (false, 0, 1)) := Lib.hid (by unfold decF; rw [if_pos (.inl HP.out)])
    refine HPR.out.mono ?_
    rintro e w4 ⟨rfl, hw4⟩
    have H4 := Lib.hid hw4
    clear hw4 HPR
    go_wp2_with fail
    go_ret3
    rw [HV.out]
    exact ⟨rfl, H4.out⟩
  refine HPR.out.mono ?_
  rintro e w4 ⟨rfl, hw4⟩
  have H4 := Lib.hid hw4
  clear hw4 HPR
  go_wp2_with fail
  cases Fm
  · have HV : Hid (decF ops L = (false, 0, 1)) := Lib.hid (by unfold decF; rw [if_pos (.inr HF.out)])
    refine (HFO.out _ H4.out).mono ?_
    rintro e w5 ⟨rfl, hw5⟩
    have H5 := Lib.hid (H4.out.trans hw5)
    clear hw5 HFO
    go_wp2_with fail
    go_ret3
    rw [HV.out]
    exact ⟨rfl, H5.out⟩
  refine (HFO.out _ H4.out).mono ?_
  rintro e w5 ⟨rfl, hw5⟩
  have H5 := Lib.hid (H4.out.trans hw5)
  clear hw5 HFO
  have HN1 : Hid (¬ (precP nmB ops = false ∨ (flR L).all (wf nmB) = false)) := Lib.hid (by rw [HP.out, HF.out]; simp)
  by_cases hc : 100 < L.length
  · have HV : Hid (decF ops L = (false, 0, 4)) := Lib.hid (by unfold decF; rw [if_neg HN1.out, if_pos hc])
    have z1 : (100 : Int) < (L.length : Int) := by omega
    go_wp2_with fail
    go_ret3
    rw [HV.out]
    exact ⟨rfl, H5.out⟩
  have HC := Lib.hid hc
  have z1 : ¬ (100 : Int) < (L.length : Int) := by omega
  have HFI1 := Lib.hid (HFI.out HF.out)
  clear hc HFI
  go_wp2_with fail
  clear z1
  obtain ⟨wa, hwa⟩ : ∃ wa, wa = w5 := ⟨_, rfl⟩
  have HR0 : Hid (Ext wa w5) := Lib.hid (by rw [hwa]; exact Upd.refl _ _)
  rw [← hwa] at H5
  clear hwa
  go_loopg [7] L.length (fun gk iv wr => ∃ k : Nat, iv = .int .i64 (k : Int) ∧ gk = L.length - k ∧ k ≤ L.length ∧ Hid ((flR (L.take k)).all (knowsP ops) = true) ∧ Hid (Ext wa wr))
  case atStart => exact ⟨0, rfl, rfl, Nat.zero_le _, Lib.hid rfl, HR0⟩
  case round =>
    clear HR0
    obtain ⟨k, rfl, rfl, hk, HM, HE⟩ := hrel
    by_cases hlt : k < L.length
    · obtain ⟨g, off, hga, _, hat⟩ := (HR.out.ext (H5.out.trans HE.out)).at_ (by omega)
      subst hga
      obtain ⟨xa, xc, ya, yc, q0, q1, q2, q3, q4, q5, hx, hy⟩ := hat k hlt
      have z0 : (0 : Int) ≤ (k : Int) := by omega
      have z1 : (k : Int) < (L.length : Int) := by omega
      have z2 : decide ((k : Int) < (L.length : Int)) = true := decide_eq_true z1
      have z2' : decide (k < L.length) = true := decide_eq_true hlt
      have hmem := rg_mem hlt
      have hm1 : (rg L k).1 ∈ flR L := mem_flR.2 ⟨_, hmem, .inl rfl⟩
      have hm2 : (rg L k).2 ∈ flR L := mem_flR.2 ⟨_, hmem, .inr rfl⟩
      have HFX := Lib.hid (fun W (hW : Ext wr W) => rknows_x ops (rg L k).1 _ _ _ _ W (SlR.kept HO.out ((H5.out.trans HE.out).trans hW) (fun _ _ h => h)) ⟨xa, xc, rfl, hx.ext hW⟩ hol (HTS.out _ hm1))
      have HFY := Lib.hid (fun W (hW : Ext wr W) => rknows_x ops (rg L k).2 _ _ _ _ W (SlR.kept HO.out ((H5.out.trans HE.out).trans hW) (fun _ _ h => h)) ⟨ya, yc, rfl, hy.ext hW⟩ hol (HTS.out _ hm2))
      have HN : Hid (knowsP ops (rg L k).1 = true → knowsP ops (rg L k).2 = true → (flR (L.take (k + 1))).all (knowsP ops) = true) := Lib.hid (fun h1 h2 => by
        rw [rg_snoc L k hlt, flR_append, List.all_append, HM.out]
        show (true && (knowsP ops (rg L k).1 && (knowsP ops (rg L k).2 && true))) = true
        rw [h1, h2]; rfl)
      have HY : Hid (knowsP ops (rg L k).1 = false ∨ knowsP ops (rg L k).2 = false → decF ops L = (false, 0, 9)) := Lib.hid (fun h => by
        have hq : (flR L).all (knowsP ops) = false := by
          rw [Bool.eq_false_iff]
          intro h2
          have h3 := List.all_eq_true.1 h2
          rcases h with h | h
          · rw [h3 _ hm1] at h; cases h
          · rw [h3 _ hm2] at h; cases h
        unfold decF
        rw [if_neg HN1.out, if_neg HC.out, if_pos hq])
      obtain ⟨⟨x, y⟩, hxy⟩ : ∃ r, rg L k = r := ⟨_, rfl⟩
      rw [hxy] at q0 q1 q2 q3 q4 q5 HFX HFY HN HY
      dsimp only [tV] at q0 q1 q2 q3 q4 q5 HFX HFY HN HY
      obtain ⟨b1, hb1⟩ : ∃ b, knowsP ops x = b := ⟨_, rfl⟩
      rw [hb1] at HFX HN HY
      obtain ⟨b2, hb2⟩ : ∃ b, knowsP ops y = b := ⟨_, rfl⟩
      rw [hb2] at HFY HN HY
      clear hat hx hy hxy hb1 hb2 HM hmem hm1 hm2
      cases b1
      · have HV := Lib.hid (HY.out (.inl rfl))
        clear HN HY HFY
        go_wp2_with fail
        refine (HFX.out _ (Upd.refl _ _)).mono ?_
        rintro e w6 ⟨rfl, hw6⟩
        have H6 := Lib.hid ((H5.out.trans HE.out).trans hw6)
        clear hw6 q0 q1 q2 q3 q4 q5 HFX
        go_wp2_with fail
        all_goals go_ret3
        all_goals (rw [HV.out]; exact ⟨rfl, H6.out⟩)
      · go_wp2_with fail
        refine (HFX.out _ (Upd.refl _ _)).mono ?_
        rintro e w6 ⟨rfl, hw6⟩
        have H6 := Lib.hid (HE.out.trans hw6)
        have HFY4 := Lib.hid (HFY.out _ hw6)
        have r3 := hw6.cell q3 (fun h => h)
        have r4 := hw6.cell q4 (fun h => h)
        have r5 := hw6.cell q5 (fun h => h)
        clear q0 q1 q2 q3 q4 q5
        clear hw6 HFX HFY
        cases b2
        · have HV := Lib.hid (HY.out (.inr rfl))
          clear HN HY
          go_wp2_with fail
          refine HFY4.out.mono ?_
          rintro e w7 ⟨rfl, hw7⟩
          have H7 := Lib.hid ((H5.out.trans H6.out).trans hw7)
          clear hw7 r3 r4 r5 HFY4
          go_wp2_with fail
          all_goals go_ret3
          all_goals (rw [HV.out]; exact ⟨rfl, H7.out⟩)
        · have HN2 := Lib.hid (HN.out (by simp) (by simp))
          clear HN HY
          go_wp2_with fail
          refine HFY4.out.mono ?_
          rintro e w7 ⟨rfl, hw7⟩
          have H7 := Lib.hid (H6.out.trans hw7)
          clear hw7 r3 r4 r5 HFY4
          go_wp2_with fail
          go_roundg (L.length - (k + 1))
          case measure => omega
          case rel => exact ⟨k + 1, by go_num, rfl, by omega, HN2, H7⟩
    · obtain rfl : k = L.length := by omega
      have z2 : decide ((L.length : Int) < (L.length : Int)) = false := decide_eq_false (by omega)
      have HM2 := HM.out
      rw [List.take_length] at HM2
      have H6 := Lib.hid (H5.out.trans HE.out)
      have HFI2 := Lib.hid (HFI1.out HM2 _ H6.out)
      have HV : Hid (decF ops L = (decide (firstI ops L < 0), firstI ops L, 0)) := Lib.hid (by unfold decF; rw [if_neg HN1.out, if_neg HC.out, if_neg (by rw [HM2]; simp)])
      clear HM2 HFI1
      generalize firstI ops L = X at *
      go_wp2_with fail
      refine HFI2.out.mono ?_
      rintro e w7 ⟨rfl, hw7⟩
      have H7 := Lib.hid (H6.out.trans hw7)
      clear hw7 HFI2
      go_wp2_with fail
      go_ret3
      rw [HV.out]
      exact ⟨rfl, H7.out⟩

end Go.Proofs.YtiimccogojkldaaGreatDoor

/- What Find finds, Decreasing accepts. -/
namespace Go.Proofs.YtiimccogojkldaaGreatDoor
open Go.RowKit Go.Hw Go
set_option linter.unusedVariables false
set_option linter.unusedSimpArgs false

open Tm
theorem find_dec {L : List Rl} {out : List By} (h : findF L = (out, 0)) : decF out L = (true, -1, 0) := by
  unfold findF at h
  by_cases h1 : (flR L).all (wf nmB) = false
  · rw [if_pos h1] at h; simp at h
  rw [if_neg h1] at h
  by_cases h2 : 100 < L.length
  · rw [if_pos h2] at h; simp at h
  rw [if_neg h2] at h
  by_cases h3 : 7 < (sFoldO [] ((flR L).flatMap opN)).length
  · rw [if_pos h3] at h; simp at h
  rw [if_neg h3] at h
  have hwf : (flR L).all (wf nmB) = true := by simpa using h1
  cases hs : searchP L (sFoldO [] ((flR L).flatMap opN)).length [] (sFoldO [] ((flR L).flatMap opN)) with
  | none => rw [hs] at h; simp [findE] at h
  | some o =>
    rw [hs] at h
    have ho : o = out := by simpa [findE] using h
    subst ho
    obtain ⟨ha, hp⟩ := searchP_some rfl hs
    rw [List.nil_append] at hp
    have hmem : ∀ s, s ∈ o ↔ ∃ t ∈ flR L, s ∈ opN t := fun s => by
      rw [hp.mem_iff, mem_sFoldO]
      simp [List.mem_flatMap]
    have hprec : precP nmB o = true := (precP_iff _ _).2 ⟨by rw [hp.length_eq]; omega, fun s hs => by
      obtain ⟨t, ht, hs⟩ := (hmem s).1 hs
      obtain ⟨x, hx, hx2, rfl⟩ := mem_opN.1 hs
      exact ((formed_nd (wf_formed (List.all_eq_true.1 hwf t ht))).2 x hx).1, dif_perm hp (ris_dif (sFoldO_ris List.Pairwise.nil))⟩
    have hkn : (flR L).all (knowsP o) = true := List.all_eq_true.2 fun t ht => knowsP_iff.2 fun s hs => (hmem s).2 ⟨t, ht, hs⟩
    have hfi : firstI o L = -1 := by
      have h4 := firstP_all o L
      rw [ha] at h4
      have h5 := of_decide_eq_false (show decide (firstP o L < L.length) = false from h4)
      unfold firstI
      rw [if_neg h5]
    unfold decF
    rw [if_neg (by rw [hprec, hwf]; simp), if_neg h2, if_neg (by rw [hkn]; simp), hfi]
    rfl

end Go.Proofs.YtiimccogojkldaaGreatDoor
