/- The texts N48 N44 N49, one behind the other. -/
import Derived.Test.YtlkcjmaiahnodaaGreatDoorYAP
import Derived.Test.YtlkcjmaiahnodaaGreatDoorYAN
import Derived.Test.YtlkcjmaiahnodaaGreatDoorYAM
import Derived.Test.YtlkcjmaiahnodaaGreatDoorYAI
import Derived.Test.YtlkcjmaiahnodaaGreatDoorYAL
/- Compose, of the reference. -/
namespace Go.Proofs.YtlkcjmaiahnodaaGreatDoor
open Go.RowKit Go.Hw Go
set_option linter.unusedVariables false
set_option linter.unusedSimpArgs false

open Tm Go.Sort Go.Proofs Go.ChangeMaps
theorem appF_app1 {b : List Bd} {T : Tm} (hb : vldB nmB b = true) (hT : wf nmB T = true) : appF nmB b T = app1 nmB b T := by
  unfold appF
  rw [if_pos (by rw [hb, hT]; rfl)]
theorem its_of_vld {b : List Bd} (hb : vldB nmB b = true) {x : Bd} (hx : x ∈ b) : itsB x = false := by
  obtain ⟨_, _, _, d⟩ := (vldB_spec hb).2.2 x hx
  unfold itsB
  by_cases h : x.2.2.sort = nul
  · simp [h]
  · simp [(d h).2]
set_option maxRecDepth 100000 in
set_option maxHeartbeats 2000000 in
theorem rcompose_x (a b : List Bd) (va vb : Value) (w : World) (hA : BnR (fun k => k < w.heap.size) (fun k => k < w.heap.size) w va a) (hB : BnR (fun k => k < w.heap.size) (fun k => k < w.heap.size) w vb b) (hla : a.length ≤ 1000000) (hlb : b.length ≤ 1000000) :
    Calls Tryz.prog 34 #[va, vb] w fun e w' => ∃ r, e = .returned (.tuple #[r, .int .i64 (cmpF nmB a b).2]) ∧ BnR (fun k => w.heap.size ≤ k ∧ k < w'.heap.size) (fun k => w.heap.size ≤ k ∧ k < w'.heap.size) w' r (cmpF nmB a b).1 ∧ Ext w w' := by
  obtain ⟨Z, hZZ⟩ : ∃ Z, cmpF nmB a b = Z := ⟨_, rfl⟩
  rw [hZZ]
  have HZZ := Lib.hid hZZ
  have HAA := Lib.hid hA
  have HBB := Lib.hid hB
  have hbA : ∀ W, Ext w W → BnR (fun k => k < W.heap.size) (fun k => k < W.heap.size) W va a := fun W hW => (hA.ext hW).weaken (fun k hk => Nat.lt_of_lt_of_le hk hW.size) (fun k hk => Nat.lt_of_lt_of_le hk hW.size)
  have hbB : ∀ W, Ext w W → BnR (fun k => k < W.heap.size) (fun k => k < W.heap.size) W vb b := fun W hW => (hB.ext hW).weaken (fun k hk => Nat.lt_of_lt_of_le hk hW.size) (fun k hk => Nat.lt_of_lt_of_le hk hW.size)
  have HVA := Lib.hid (fun W (hW : Ext w W) => rvalB_x a va W _ (hbA W hW) hla)
  have HVB := Lib.hid (fun W (hW : Ext w W) => rvalB_x b vb W _ (hbB W hW) hlb)
  have HBBX := Lib.hid hbB
  obtain ⟨aa, ac, rfl⟩ := hA.shape
  obtain ⟨ba, bc, rfl⟩ := hB.shape
  obtain ⟨b1, hb1⟩ : ∃ b1, vldB nmB a = b1 := ⟨_, rfl⟩
  obtain ⟨b2, hb2⟩ : ∃ b2, vldB nmB b = b2 := ⟨_, rfl⟩
  rw [hb1] at HVA
  rw [hb2] at HVB
  have HB1 := Lib.hid hb1
  have HB2 := Lib.hid hb2
  clear hZZ hA hB hbA hbB hb1 hb2
  go_enter Tryz.func34, Tryz.ntmps34
  go_wp2_with fail
  refine (HVA.out _ (Upd.refl _ _)).mono ?_
  rintro e w3 ⟨rfl, hw3⟩
  have HE3 := Lib.hid hw3
  clear hw3 HVA
  cases b1
  · obtain rfl : Z = ([], 1) := by rw [← HZZ.out]; exact cmpF_bad (by rw [HB1.out]; rfl)
    go_wp2_with fail
    all_goals go_ret2
    all_goals exact ⟨_, rfl, BnR.nil _ _ _, HE3.out⟩
  go_wp2_with fail
  refine (HVB.out _ HE3.out).mono ?_
  rintro e w4 ⟨rfl, hw4⟩
  have HE4 := Lib.hid (HE3.out.trans hw4)
  clear hw4 HVB HE3
  cases b2
  · obtain rfl : Z = ([], 1) := by rw [← HZZ.out]; exact cmpF_bad (by rw [HB2.out]; simp)
    go_wp2_with fail
    all_goals go_ret2
    all_goals exact ⟨_, rfl, BnR.nil _ _ _, HE4.out⟩
  have HVV : Hid ((vldB nmB a && vldB nmB b) = true) := Lib.hid (by rw [HB1.out, HB2.out]; rfl)
  have hla2 := (vldB_spec HB1.out).1
  have hlb2 := (vldB_spec HB2.out).1
  clear hla hlb
  go_wp2_with fail
  go_loopg [6, 7] a.length (fun gk ov iv wr => ∃ (k : Nat) (O : List Bd), iv = .int .i64 (k : Int) ∧ gk = a.length - k ∧ k ≤ a.length ∧ O.length ≤ k ∧ Hid (BnR (fun k => w.heap.size ≤ k ∧ k < wr.heap.size) (fun k => w.heap.size ≤ k ∧ k < wr.heap.size) wr ov O) ∧ Hid (Ext w wr) ∧ Hid (∀ j, j < k → (app1 nmB b (Go.Hw.bg a j).2.2).2 = 0) ∧ Hid (O = srtB ((a.take k).map (cm1 b))))
  case atStart => exact ⟨0, [], rfl, rfl, Nat.zero_le _, Nat.le_refl _, Lib.hid (BnR.nil _ _ _), HE4, Lib.hid (fun j hj => absurd hj (Nat.not_lt_zero _)), Lib.hid (by simp [srtB])⟩
  case round =>
    obtain ⟨k, O, rfl, rfl, hk, hOk, HG, HE, HOK, HO⟩ := hrel
    obtain ⟨oa, oc, hov⟩ := HG.out.shape
    subst hov
    by_cases hlt : k < a.length
    · obtain ⟨g, off, hga, _, hat⟩ := HAA.out.at_ (by omega)
      subst hga
      obtain ⟨xa, xc, r0, r1, r2, r3, r4, hkid⟩ := hat k hlt
      have z0 : (0 : Int) ≤ (k : Int) := by omega
      have z1 : (k : Int) < (a.length : Int) := by omega
      have z2 : decide ((k : Int) < (a.length : Int)) = true := decide_eq_true z1
      have z2' : decide (k < a.length) = true := decide_eq_true hlt
      have hxm := bg_mem hlt
      have hwx := ((vldB_spec HB1.out).2.2 _ hxm).2.2.1
      have htk := bg_take a k hlt
      have hbad : (app1 nmB b (Go.Hw.bg a k).2.2).2 ≠ 0 → Z = ([], (app1 nmB b (Go.Hw.bg a k).2.2).2) := fun h => by rw [← HZZ.out]; exact cmpF_fail HVV.out hlt HOK.out h
      have hgood : (app1 nmB b (Go.Hw.bg a k).2.2).2 = 0 → ∀ j, j < k + 1 → (app1 nmB b (Go.Hw.bg a j).2.2).2 = 0 := fun h j hj => by
        rcases Nat.lt_succ_iff_lt_or_eq.1 hj with h5 | h5
        · exact HOK.out j h5
        · rw [h5]; exact h
      obtain ⟨x, hx⟩ : ∃ x, Go.Hw.bg a k = x := ⟨_, rfl⟩
      rw [hx] at r0 r1 r2 r3 r4 hkid hxm hwx htk hbad hgood
      have HRC := Lib.hid (And.intro r0 r1)
      have p2 := HE.out.cell r2 (fun h => h)
      have p3 := HE.out.cell r3 (fun h => h)
      have p4 := HE.out.cell r4 (fun h => h)
      have HBAD := Lib.hid hbad
      have HGOOD := Lib.hid hgood
      have HTK := Lib.hid htk
      have HXM := Lib.hid hxm
      have HAP := Lib.hid (rApply_x b x.2.2 _ (tV x.2.2 (.slice xa x.2.2.kids.length xc)) wr (HBBX.out wr HE.out) ⟨xa, xc, rfl, (hkid.ext HE.out).weaken (fun j hj => Nat.lt_of_lt_of_le hj HE.out.size)⟩ (by omega))
      rw [appF_app1 HB2.out hwx] at HAP
      dsimp only [tV] at HAP
      obtain ⟨AP, hAP⟩ : ∃ P, app1 nmB b x.2.2 = P := ⟨_, rfl⟩
      rw [hAP] at HAP HBAD HGOOD
      have HAPE := Lib.hid hAP
      obtain ⟨z, en⟩ := AP
      simp only at HAP HBAD HGOOD
      clear hat hkid hxm hwx htk hbad hgood hx hAP r0 r1 r2 r3 r4
      go_wp2_with fail
      refine HAP.out.mono ?_
      rintro e w6 ⟨r6, B6, rfl, hT6, hb6, hw6⟩
      obtain ⟨ya, yc, hry⟩ := TlO.shape hT6
      subst hry
      have hX7 := hw6.alloc (.cells #[.string z.name, .string z.sort, .slice ya z.kids.length yc] 24)
      have HE7 := Lib.hid (HE.out.trans hX7)
      have HX7 := Lib.hid hX7
      have HC7 := Lib.hid (alloc0 w6 (.cells #[.string z.name, .string z.sort, .slice ya z.kids.length yc] 24))
      have HT7 := Lib.hid (hT6.read.ext ((Upd.refl (fun _ => False) w6).alloc (.cells #[.string z.name, .string z.sort, .slice ya z.kids.length yc] 24)))
      have HBX7 : Hid (∀ j, B6 j → wr.heap.size ≤ j ∧ j < (w6.alloc (.cells #[.string z.name, .string z.sort, .slice ya z.kids.length yc] 24)).heap.size) := Lib.hid (fun j hj => ⟨(hb6 j hj).1, Nat.lt_of_lt_of_le (hb6 j hj).2 ((Upd.refl (fun _ => False) w6).alloc (.cells #[.string z.name, .string z.sort, .slice ya z.kids.length yc] 24)).size⟩)
      dsimp only [tV]
      clear hT6 hb6 hw6 hX7 HAP p2 p3 p4
      by_cases hen : en = 0
      rotate_left
      · have t1 : (en == 0) = false := beq_eq_false_iff_ne.2 hen
        have t2 : decide (en = 0) = false := decide_eq_false hen
        obtain rfl : Z = ([], en) := HBAD.out hen
        clear hen
        go_wp2_with fail
        all_goals go_ret2
        all_goals exact ⟨_, rfl, BnR.nil _ _ _, HE7.out⟩
      subst hen
      have HOK2 := Lib.hid (HGOOD.out rfl)
      have hcm := cm_self HB1.out HB2.out HXM.out HAPE.out
      have hcz : cm1 b x = (x.1, x.2.1, z) := by unfold cm1; rw [(app1_ok HAPE.out).2.1]
      have HO2 : Hid ((if itsB (x.1, x.2.1, z) = true then O else addB O (x.1, x.2.1, z)) = srtB ((a.take (k + 1)).map (cm1 b))) := Lib.hid (by
        rw [HTK.out, List.map_append, List.map_singleton, hcz, srtB_snoc, hcm.2, ← HO.out])
      have hol : (if itsB (x.1, x.2.1, z) = true then O else addB O (x.1, x.2.1, z)).length ≤ k + 1 := by
        split
        · omega
        · rw [addB_len]; omega
      have HAD := Lib.hid (fun W (hW : Ext (w6.alloc (.cells #[.string z.name, .string z.sort, .slice ya z.kids.length yc] 24)) W) => add05_x O (x.1, x.2.1, z) (.slice oa O.length oc) ya yc _ _ _ W ((HG.out.ext HX7.out).ext hW) (HT7.out.ext hW) (by omega))
      obtain ⟨O2, hO2⟩ : ∃ O2, (if itsB (x.1, x.2.1, z) = true then O else addB O (x.1, x.2.1, z)) = O2 := ⟨_, rfl⟩
      rw [hO2] at HAD HO2 hol
      simp only at HAD
      have p0 := HE7.out.cell HRC.out.1 (fun h => h)
      have p1 := HE7.out.cell HRC.out.2 (fun h => h)
      clear hcm hcz HBAD HGOOD hO2
      have u0 := cellRow HC7.out 0 (.string z.name) rfl
      have u1 := cellRow HC7.out 1 (.string z.sort) rfl
      have u2 := cellRow HC7.out 2 (.slice ya z.kids.length yc) rfl
      go_wp2_with fail
      generalize hw7 : w6.alloc (.cells #[.string z.name, .string z.sort, .slice ya z.kids.length yc] 24) = w7 at *
      obtain ⟨nz, hnz⟩ : ∃ n, w6.heap.size = n := ⟨_, rfl⟩
      rw [hnz] at u0 u1 u2 HC7
      try rw [hnz]
      clear hnz
      have HW7 : Hid (Ext w7 w7) := Lib.hid (Upd.refl _ _)
      go_region_law (first
        | (go_simp; refine (HAD.out w7.drew HW7.out.drew).mono ?_; rintro e w8 ⟨r8, rfl, hbn8, hw8⟩; have HW8 : Hid (Ext w7 w8) := Lib.hid (((Upd.refl (fun _ => False) w7).drewN' 1).trans hw8); have HBN8 := Lib.hid hbn8; clear hw8 hbn8 HAD))
      all_goals
        go_wp2_with fail
        have HE8 := Lib.hid (HE7.out.trans HW8.out)
        have HS78 := HW8.out.size
        have HSR7 := HX7.out.size
        have HSW := HE.out.size
        have HBN9 : Hid (BnR (fun k => w.heap.size ≤ k ∧ k < w8.heap.size) (fun k => w.heap.size ≤ k ∧ k < w8.heap.size) w8 r8 O2) := Lib.hid (HBN8.out.weaken (fun j hj => by
          rcases hj with hj | hj
          · exact ⟨hj.1, by have := hj.2; omega⟩
          · exact ⟨by have h1 : w7.heap.size ≤ j := hj.1; omega, hj.2⟩) (fun j hj => by
          rcases hj with hj | hj
          · exact ⟨hj.1, by have := hj.2; omega⟩
          · have h1 := HBX7.out j hj; exact ⟨by omega, by omega⟩))
        go_roundg (a.length - (k + 1))
        case measure => omega
        case rel => exact ⟨k + 1, O2, by go_num, rfl, by omega, hol, HBN9, HE8, HOK2, HO2⟩
    · obtain rfl : k = a.length := by omega
      have z2 : decide ((a.length : Int) < (a.length : Int)) = false := decide_eq_false (by omega)
      have hfull := cmpF_full HVV.out HOK.out
      rw [HZZ.out] at hfull
      have HFULL := Lib.hid hfull
      have HOA : Hid (O = srtB (a.map (cm1 b))) := Lib.hid (by rw [HO.out, List.take_length])
      clear hfull HE4 HO
      go_wp2_with fail
      obtain ⟨wz, hwz⟩ : ∃ wz, wz = wr := ⟨_, rfl⟩
      subst hwz
      have HG0 := HG
      have HE0 := HE
      clear HG HE
      go_loopg [6, 10] b.length (fun gk ov iv wr => ∃ (k : Nat) (O2 : List Bd), iv = .int .i64 (k : Int) ∧ gk = b.length - k ∧ k ≤ b.length ∧ O2.length ≤ a.length + k ∧ Hid (BnR (fun k => w.heap.size ≤ k ∧ k < wr.heap.size) (fun k => w.heap.size ≤ k ∧ k < wr.heap.size) wr ov O2) ∧ Hid (Ext w wr) ∧ Hid (O2 = srtB (a.map (cm1 b) ++ (b.take k).filter fun x => (bget a x.1).isNone)))
      case atStart => exact ⟨0, O, rfl, rfl, Nat.zero_le _, by omega, HG0, HE0, Lib.hid (by simp [HOA.out])⟩
      case round =>
        clear HG0
        obtain ⟨k, O2, rfl, rfl, hk, hOk2, HG, HE, HO⟩ := hrel
        obtain ⟨oa2, oc2, hov⟩ := HG.out.shape
        subst hov
        by_cases hlt : k < b.length
        · obtain ⟨g, off, hga, _, hat⟩ := HBB.out.at_ (by omega)
          subst hga
          obtain ⟨xa, xc, r0, r1, r2, r3, r4, hkid⟩ := hat k hlt
          have z0 : (0 : Int) ≤ (k : Int) := by omega
          have z1 : (k : Int) < (b.length : Int) := by omega
          have z2 : decide ((k : Int) < (b.length : Int)) = true := decide_eq_true z1
          have z2' : decide (k < b.length) = true := decide_eq_true hlt
          have htk := bg_take b k hlt
          have hwx := wf_size ((vldB_spec HB2.out).2.2 _ (bg_mem hlt)).2.2.1
          have hits := its_of_vld HB2.out (bg_mem hlt)
          have hslf := slf_of_vld nmB_nul HB2.out (bg_mem hlt)
          obtain ⟨x, hx⟩ : ∃ x, Go.Hw.bg b k = x := ⟨_, rfl⟩
          rw [hx] at r0 r1 r2 r3 r4 hkid htk hwx hits hslf
          have HFI := Lib.hid (find05_x a _ x.1 _ _ wr (HAA.out.ext HE.out) (by omega))
          have p0 := HE.out.cell r0 (fun h => h)
          have p1 := HE.out.cell r1 (fun h => h)
          have p2 := HE.out.cell r2 (fun h => h)
          have p3 := HE.out.cell r3 (fun h => h)
          have p4 := HE.out.cell r4 (fun h => h)
          have HKD := Lib.hid hkid
          have HWX := Lib.hid hwx
          have htk2 : (b.take (k + 1)).filter (fun x => (bget a x.1).isNone) = (b.take k).filter (fun x => (bget a x.1).isNone) ++ (if (bget a x.1).isSome = true then [] else [x]) := by
            rw [htk, List.filter_append]
            congr 1
            cases hb : bget a x.1 <;> simp [List.filter, hb]
          have HTK2 := Lib.hid htk2
          have HSLF := Lib.hid hslf
          cases hF : (bget a x.1).isSome with
          | true =>
            obtain ⟨m, hlm, hfx, _, _⟩ := fixS41 (n := x.1) hF
            rw [hfx] at HFI
            have t1 : decide ((m : Int) < 0) = false := decide_eq_false (by omega)
            have t1' : ¬ (m : Int) < 0 := by omega
            have HO3 : Hid (O2 = srtB (a.map (cm1 b) ++ (b.take (k + 1)).filter fun x => (bget a x.1).isNone)) := Lib.hid (by rw [HTK2.out, hF, if_pos rfl, List.append_nil]; exact HO.out)
            clear hat hkid htk htk2 hwx hits hslf hx hF hfx r0 r1 r2 r3 r4
            go_wp2_with fail
            refine HFI.out.mono ?_
            rintro e w6 ⟨rfl, hw6⟩
            have hw6 := hw6.symm
            subst hw6
            clear HFI
            go_wp2_with fail
            go_roundg (b.length - (k + 1))
            case measure => omega
            case rel => exact ⟨k + 1, O2, by go_num, rfl, by omega, by omega, HG, HE, HO3⟩
          | false =>
            have hn : bget a x.1 = none := by
              cases hb : bget a x.1 with
              | none => rfl
              | some T => rw [hb] at hF; cases hF
            rw [fixN41 hn] at HFI
            have HO3 : Hid (addB O2 x = srtB (a.map (cm1 b) ++ (b.take (k + 1)).filter fun x => (bget a x.1).isNone)) := Lib.hid (by
              rw [HTK2.out, hF, if_neg (by decide), ← List.append_assoc, srtB_snoc, if_neg (by rw [HSLF.out]; decide), ← HO.out])
            have hol : (addB O2 x).length ≤ a.length + (k + 1) := by rw [addB_len]; omega
            have HAD := Lib.hid (fun (ya : Option Addr) (yc : Nat) (Bx : Nat → Prop) W (hW : Ext wr W) (hT : TlR Bx W x.2.2.kids (.slice ya x.2.2.kids.length yc)) => add05_x O2 x (.slice oa2 O2.length oc2) ya yc _ _ Bx W (HG.out.ext hW) hT (by omega))
            rw [hits] at HAD
            simp only [Bool.false_eq_true, if_false] at HAD
            obtain ⟨O3, hO3⟩ : ∃ O3, addB O2 x = O3 := ⟨_, rfl⟩
            rw [hO3] at HAD HO3 hol
            have HCP := Lib.hid (fun W (hW : Ext wr W) => cop05_x x.2.2 (tV x.2.2 (.slice xa x.2.2.kids.length xc)) (fun j => j < w.heap.size) W ⟨xa, xc, rfl, HKD.out.ext (HE.out.trans hW)⟩ (fun j hj => Nat.lt_of_lt_of_le hj (HE.out.trans hW).size) (by have := HWX.out; omega))
            dsimp only [tV] at HCP
            clear hat hkid htk htk2 hwx hits hslf hx hF hn hO3 r0 r1 r2 r3 r4
            go_wp2_with fail
            refine HFI.out.mono ?_
            rintro e w6 ⟨rfl, hw6⟩
            have hw6 := hw6.symm
            subst hw6
            clear HFI
            have HW5 : Hid (Ext wr wr) := Lib.hid (Upd.refl _ _)
            go_wp2_with fail
            go_region_law (first
              | (go_simp; refine (HCP.out wr.drew HW5.out.drew).mono ?_; rintro e3 w7 ⟨r, Bx, rfl, hT6, hb6, hw6⟩; obtain ⟨ya, yc, hry⟩ := TlO.shape hT6; subst hry; have HW6 : Hid (Ext wr w7) := Lib.hid (((Upd.refl (fun _ => False) wr).drewN' 1).trans hw6); have HBX6 : Hid (∀ j, Bx j → wr.heap.size ≤ j ∧ j < w7.heap.size) := Lib.hid hb6; have HT6 := Lib.hid hT6.read; have HAD2 := Lib.hid (fun W (hW : Ext w7 W) => HAD.out ya yc Bx W (HW6.out.trans hW) (HT6.out.ext hW)); have HW7 : Hid (Ext w7 w7) := Lib.hid (Upd.refl _ _); have q0 := HW6.out.cell p0 (fun h => h); have q1 := HW6.out.cell p1 (fun h => h); have q2 := HW6.out.cell p2 (fun h => h); have q3 := HW6.out.cell p3 (fun h => h); have q4 := HW6.out.cell p4 (fun h => h); clear hT6 hb6 hw6 HCP HAD)
              | (go_simp; (first | refine (HAD2.out w7.drew HW7.out.drew).mono ?_ | refine (HAD2.out w7 HW7.out).mono ?_ | refine (HAD2.out _ (HW7.out.drewN' _)).mono ?_); rintro e w8 ⟨r8, rfl, hbn8, hw8⟩; have HW8 : Hid (Ext w7 w8) := Lib.hid (by first | exact ((Upd.refl (fun _ => False) w7).drewN' 1).trans hw8 | exact hw8 | exact ((Upd.refl (fun _ => False) w7).drewN' _).trans hw8); have HBN8 := Lib.hid hbn8; clear hw8 hbn8 HAD2))
            all_goals
              go_wp2_with fail
              have HE8 := Lib.hid (HE.out.trans (HW6.out.trans HW8.out))
              have HS78 := HW8.out.size
              have HSR7 := HW6.out.size
              have HSW := HE.out.size
              have HBN9 : Hid (BnR (fun k => w.heap.size ≤ k ∧ k < w8.heap.size) (fun k => w.heap.size ≤ k ∧ k < w8.heap.size) w8 r8 O3) := Lib.hid (HBN8.out.weaken (fun j hj => by
                rcases hj with hj | hj
                · exact ⟨hj.1, by have := hj.2; omega⟩
                · exact ⟨by have h1 : w7.heap.size ≤ j := hj.1; omega, hj.2⟩) (fun j hj => by
                rcases hj with hj | hj
                · exact ⟨hj.1, by have := hj.2; omega⟩
                · have h1 := HBX6.out j hj; exact ⟨by omega, by omega⟩))
              go_roundg (b.length - (k + 1))
              case measure => omega
              case rel => exact ⟨k + 1, O3, by go_num, rfl, by omega, hol, HBN9, HE8, HO3⟩
        · obtain rfl : k = b.length := by omega
          have z2 : decide ((b.length : Int) < (b.length : Int)) = false := decide_eq_false (by omega)
          have hoo : O2 = srtB (cmX a b) := by rw [HO.out, List.take_length]; rfl
          have hfu := HFULL.out
          rw [← hoo] at hfu
          by_cases hbig : 1000 < O2.length
          · have t1 : decide ((1000 : Int) < (O2.length : Int)) = true := decide_eq_true (by omega)
            have t1' : (1000 : Int) < (O2.length : Int) := by omega
            obtain rfl : Z = ([], 4) := by rw [hfu, if_pos hbig]
            clear hfu hbig hoo
            go_wp2_with fail
            all_goals go_ret2
            all_goals exact ⟨_, rfl, BnR.nil _ _ _, HE.out⟩
          have t1 : decide ((1000 : Int) < (O2.length : Int)) = false := decide_eq_false (by omega)
          have t1' : ¬ (1000 : Int) < (O2.length : Int) := by omega
          rw [if_neg hbig] at hfu
          subst hfu
          clear hoo hbig
          go_wp2_with fail
          go_ret2
          exact ⟨_, rfl, HG.out, HE.out⟩

end Go.Proofs.YtlkcjmaiahnodaaGreatDoor

/- The law UnifyApplies. -/
namespace Go.Proofs.YtlkcjmaiahnodaaGreatDoor
open Go.RowKit Go.Hw Go
set_option linter.unusedVariables false
set_option linter.unusedSimpArgs false

open Tm Go.Sort Go.Proofs Go.ChangeMaps
theorem sizB_mem {l : List Bd} {b : Bd} (h : b ∈ l) : b.2.2.size ≤ sizB l := by
  induction l with
  | nil => cases h
  | cons x l ih =>
    unfold sizB
    rcases List.mem_cons.1 h with e | h
    · rw [e]; omega
    · have := ih h; omega
theorem light_of {l : List Bd} (h : (decide (l.length ≤ 12) && (fwB l 60).1) = true) : l.length ≤ 12 ∧ ∀ b ∈ l, b.2.2.size ≤ 60 := by
  rw [Bool.and_eq_true, decide_eq_true_eq] at h
  have h2 := fwB_spec l 60 (by decide) h.2
  exact ⟨h.1, fun b hb => by have := sizB_mem hb; have := h2.1; omega⟩
end Go.Proofs.YtlkcjmaiahnodaaGreatDoor

/- The law UnifyComposes. -/
namespace Go.Proofs.YtlkcjmaiahnodaaGreatDoor
open Go.RowKit Go.Hw Go
set_option linter.unusedVariables false
set_option linter.unusedSimpArgs false

open Tm Go.Sort Go.Proofs Go.ChangeMaps
theorem cmpF_err {a b : List Bd} (h : (cmpF nmB a b).2 ≠ 0) : (cmpF nmB a b).1 = [] := by
  unfold cmpF at h ⊢
  split
  · rfl
  · rename_i h1
    rw [if_neg h1] at h
    split
    · rename_i h2
      rw [if_pos h2] at h
      split
      · rfl
      · rename_i h3
        rw [if_neg h3] at h
        exact absurd rfl h
    · rfl
theorem cmpF_vld {a b : List Bd} : (cmpF nmB a b).1 = [] ∨ vldB nmB (cmpF nmB a b).1 = true := by
  by_cases h : (cmpF nmB a b).2 = 0
  · exact .inr ((Cm.of (show cmpF nmB a b = ((cmpF nmB a b).1, 0) by rw [← h])).vld nmB_nul)
  · exact .inl (cmpF_err h)
theorem cmpF_bound (a b : List Bd) : (cmpF nmB a b).1.length ≤ 1000 ∧ ∀ x ∈ (cmpF nmB a b).1, x.2.2.size ≤ 1000 := by
  rcases cmpF_vld (a := a) (b := b) with h | h
  · rw [h]; exact ⟨by simp, fun x hx => by cases hx⟩
  · exact ⟨(vldB_spec h).1, fun x hx => wf_size ((vldB_spec h).2.2 x hx).2.2.1⟩
set_option maxRecDepth 100000 in
set_option maxHeartbeats 2000000 in
theorem com_law (l m : List Bd) (v0 v1 : Value) (w : World) (hA : BnR (fun k => k < w.heap.size) (fun k => k < w.heap.size) w v0 l) (hml : l.length ≤ maxLen) (hB : BnR (fun k => k < w.heap.size) (fun k => k < w.heap.size) w v1 m) (hmm : m.length ≤ maxLen) (htab : AscT w) :
    Calls Tryz.prog 6 #[v0, v1] w fun e w' => e = .returned (.bool true) ∧ Ext w w' := by
  have HAW := Lib.hid (fun W (hW : Ext w W) => awake_x W (asc_ext htab hW))
  have hbA : ∀ W, Ext w W → BnR (fun k => k < W.heap.size) (fun k => k < W.heap.size) W v0 l := fun W hW => (hA.ext hW).weaken (fun k hk => Nat.lt_of_lt_of_le hk hW.size) (fun k hk => Nat.lt_of_lt_of_le hk hW.size)
  have hbB : ∀ W, Ext w W → BnR (fun k => k < W.heap.size) (fun k => k < W.heap.size) W v1 m := fun W hW => (hB.ext hW).weaken (fun k hk => Nat.lt_of_lt_of_le hk hW.size) (fun k hk => Nat.lt_of_lt_of_le hk hW.size)
  unfold maxLen at hml hmm
  have HLA := Lib.hid (fun W (hW : Ext w W) => light_x l v0 W (hbA W hW) (by omega))
  have HLB := Lib.hid (fun W (hW : Ext w W) => light_x m v1 W (hbB W hW) (by omega))
  have HCM := Lib.hid (fun (h1 : l.length ≤ 12 ∧ ∀ b ∈ l, b.2.2.size ≤ 60) (h2 : m.length ≤ 12 ∧ ∀ b ∈ m, b.2.2.size ≤ 60) W (hW : Ext w W) => compose_x l m v0 v1 W (asc_ext htab hW) (hbA W hW) (hbB W hW) (by omega) (by omega) (fun b hb => by have := h1.2 b hb; omega) (fun b hb => by have := h2.2 b hb; omega))
  have HRC := Lib.hid (fun (h1 : l.length ≤ 12 ∧ ∀ b ∈ l, b.2.2.size ≤ 60) (h2 : m.length ≤ 12 ∧ ∀ b ∈ m, b.2.2.size ≤ 60) W (hW : Ext w W) => rcompose_x l m v0 v1 W (hbA W hW) (hbB W hW) (by omega) (by omega))
  obtain ⟨va, vc, rfl⟩ := hA.shape
  obtain ⟨ua, uc, rfl⟩ := hB.shape
  clear htab hA hB hbA hbB hml hmm
  go_enter Tryz.func6, Tryz.ntmps6
  go_wp2_with fail
  refine (HAW.out _ (Upd.refl _ _)).mono ?_
  rintro e w1 ⟨rfl, hw1⟩
  have HE1 := Lib.hid hw1
  clear hw1 HAW
  go_wp2_with fail
  refine (HLA.out _ HE1.out).mono ?_
  rintro e w2 ⟨rfl, hw2⟩
  have HE2 := Lib.hid (HE1.out.trans hw2)
  clear hw2 HLA HE1
  cases hb1 : (decide (l.length ≤ 12) && (fwB l 60).1) with
  | false =>
    have HEE := HE2
    clear hb1
    go_wp2_with fail
    all_goals go_ret
    all_goals exact ⟨rfl, HEE.out⟩
  | true =>
    have H12 := Lib.hid (light_of hb1)
    clear hb1
    go_wp2_with fail
    refine (HLB.out _ HE2.out).mono ?_
    rintro e w3 ⟨rfl, hw3⟩
    have HE3 := Lib.hid (HE2.out.trans hw3)
    clear hw3 HLB HE2
    cases hb2 : (decide (m.length ≤ 12) && (fwB m 60).1) with
    | false =>
      have HEE := HE3
      clear hb2
      go_wp2_with fail
      all_goals go_ret
      all_goals exact ⟨rfl, HEE.out⟩
    | true =>
      have H13 := Lib.hid (light_of hb2)
      have HCM2 := Lib.hid (HCM.out H12.out H13.out _ HE3.out)
      have HRC2 := Lib.hid (HRC.out H12.out H13.out)
      have HBD := Lib.hid (cmpF_bound l m)
      obtain ⟨Z, hZ⟩ : ∃ Z, cmpF nmB l m = Z := ⟨_, rfl⟩
      rw [hZ] at HCM2 HRC2 HBD
      clear hb2 HCM HRC hZ
      go_wp2_with fail
      refine HCM2.out.mono ?_
      rintro e w4 ⟨r4, rfl, hb4, hw4⟩
      have HE4 := Lib.hid (HE3.out.trans hw4)
      have HB4 := Lib.hid hb4
      have HRC3 := Lib.hid (HRC2.out _ HE4.out)
      clear hw4 hb4 HCM2 HRC2
      go_wp2_with fail
      refine HRC3.out.mono ?_
      rintro e w5 ⟨r5, rfl, hb5, hw5⟩
      have HE5 := Lib.hid (HE4.out.trans hw5)
      have HSM := Lib.hid (rsameB_x Z.1 Z.1 r4 r5 _ _ _ _ w5 (HB4.out.ext hw5) hb5 (fun x hx => by have := HBD.out.2 x hx; omega) (by have := HBD.out.1; omega))
      rw [decide_eq_true (rfl : Z.1 = Z.1)] at HSM
      obtain ⟨s1, s2, hr4⟩ := HB4.out.shape
      subst hr4
      obtain ⟨s3, s4, hr5⟩ := hb5.shape
      subst hr5
      clear hw5 hb5 HRC3
      go_wp2_with fail
      refine HSM.out.mono ?_
      rintro e w6 ⟨rfl, hw6⟩
      have HEE := Lib.hid (HE5.out.trans hw6)
      clear hw6 HSM
      go_wp2_with fail
      all_goals go_ret
      all_goals exact ⟨rfl, HEE.out⟩

end Go.Proofs.YtlkcjmaiahnodaaGreatDoor
