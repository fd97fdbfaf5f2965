/- The texts I82 I18 I19 I38 Y1, one behind the other. -/
import Derived.Test.YtjjaknmnhhfjeaaGreatDoorKAM
import Derived.Test.YtjjaknmnhhfjeaaGreatDoorKAL
import Derived.Test.YtjjaknmnhhfjeaaGreatDoorKAF
/- ValidSignature of the reference. -/
namespace Go.Proofs.YtjjaknmnhhfjeaaGreatDoor
open Go.RowKit Go.Hw Go
set_option linter.unusedVariables false
set_option linter.unusedSimpArgs false

open Tm
theorem vsg_sorts {g : Sg} {k : Nat} (hk : k < g.1.length) (h : nmB (g.1.getD k nul) = false ∨ g.1.getD k nul ∈ g.1.take k) : vsgB nmB g = false := by
  unfold vsgB
  rw [precP_stop hk h]; simp
theorem vsg_op {g : Sg} {k : Nat} (hk : k < g.2.length) (h : okD nmB g k = false) : vsgB nmB g = false := by
  have h1 : (List.range g.2.length).all (okD nmB g) = false := by
    rw [Bool.eq_false_iff]
    intro h2
    rw [List.all_eq_true.1 h2 k (List.mem_range.2 hk)] at h; cases h
  unfold vsgB
  rw [h1]; simp
theorem vsg_yes {g : Sg} (h1 : g.1.length ≤ 40) (h2 : g.2.length ≤ 100) (h3 : ∀ j, j < g.1.length → nmB (g.1.getD j nul) = true ∧ g.1.getD j nul ∉ g.1.take j) (h4 : ∀ j, j < g.2.length → okD nmB g j = true) : vsgB nmB g = true := by
  unfold vsgB
  have h5 : precP nmB g.1 = true := by
    unfold precP
    rw [decide_eq_true (by omega), Bool.true_and, List.all_eq_true]
    intro i hi
    have h6 := h3 i (List.mem_range.1 hi)
    rw [h6.1, decide_eq_false h6.2]; rfl
  rw [decide_eq_true h1, decide_eq_true h2, h5, List.all_eq_true.2 (fun i hi => h4 i (List.mem_range.1 hi))]; rfl
set_option maxRecDepth 100000 in
set_option maxHeartbeats 2000000 in
theorem vsig_x (g : Sg) (v : Value) (S : Nat → Prop) (w : World) (hG : SgR S w g v) (hl1 : g.1.length ≤ 1000000) (hl2 : g.2.length ≤ 1000000) : Calls Tryz.prog 23 #[v] w fun e w' => e = .returned (.bool (vsgB nmB g)) ∧ Ext w w' := by
  have HG := Lib.hid hG
  have HFD := Lib.hid (fun s W (hW : Ext w W) => dfind_x g s v S W (hG.ext hW) hl2)
  obtain ⟨sa, sc, oa, oc, rfl, hS1, hD⟩ := hG
  have HS1 := Lib.hid hS1
  have HD := Lib.hid hD
  have HZ := Lib.hid ((Upd.refl (fun _ => False) w).alloc (.cells #[.slice sa g.1.length sc, .slice oa g.2.length oc] 42))
  have HB := Lib.hid (alloc0 w (.cells #[.slice sa g.1.length sc, .slice oa g.2.length oc] 42))
  have c0 := cellRow HB.out 0 (.slice sa g.1.length sc) rfl
  have c1 := cellRow HB.out 1 (.slice oa g.2.length oc) rfl
  have hsc : g.1.length ≤ sc := SlR.le_cap hS1 rfl
  obtain ⟨V, hV⟩ : ∃ V, vsgB nmB g = V := ⟨_, rfl⟩
  have HVV := Lib.hid hV.symm
  rw [hV]
  clear hS1 hD hV
  by_cases hb1 : 40 < g.1.length
  · have HV : Hid (V = false) := Lib.hid (by rw [HVV.out]; unfold vsgB; rw [decide_eq_false (by omega)]; rfl)
    have z1 : (40 : Int) < (g.1.length : Int) := by omega
    have z1' : decide ((40 : Int) < (g.1.length : Int)) = true := decide_eq_true z1
    go_enter Tryz.func23, Tryz.ntmps23
    go_wp2_with fail
    all_goals go_ret
    all_goals (rw [HV.out]; exact ⟨rfl, HZ.out⟩)
  have z1 : ¬ (40 : Int) < (g.1.length : Int) := by omega
  have z1' : decide ((40 : Int) < (g.1.length : Int)) = false := decide_eq_false z1
  by_cases hb2 : 100 < g.2.length
  · have HV : Hid (V = false) := Lib.hid (by rw [HVV.out]; unfold vsgB; rw [decide_eq_false (p := g.2.length ≤ 100) (by omega)]; simp)
    have z2 : (100 : Int) < (g.2.length : Int) := by omega
    have z2' : decide ((100 : Int) < (g.2.length : Int)) = true := decide_eq_true z2
    go_enter Tryz.func23, Tryz.ntmps23
    go_wp2_with fail
    all_goals go_ret
    all_goals (rw [HV.out]; exact ⟨rfl, HZ.out⟩)
  have z2 : ¬ (100 : Int) < (g.2.length : Int) := by omega
  have z2' : decide ((100 : Int) < (g.2.length : Int)) = false := decide_eq_false z2
  go_enter Tryz.func23, Tryz.ntmps23
  go_wp2_with fail
  clear z1 z1' z2 z2' c0 c1
  generalize w.alloc (.cells #[.slice sa g.1.length sc, .slice oa g.2.length oc] 42) = w1 at *
  go_loopg [3] g.1.length (fun gk iv wr => ∃ k : Nat, iv = .int .i64 (k : Int) ∧ gk = g.1.length - k ∧ k ≤ g.1.length ∧ Hid (∀ j, j < k → nmB (g.1.getD j nul) = true ∧ g.1.getD j nul ∉ g.1.take j) ∧ Hid (Ext w1 wr))
  case atStart => exact ⟨0, rfl, rfl, Nat.zero_le _, Lib.hid (fun j h => absurd h (Nat.not_lt_zero _)), Lib.hid (Upd.refl _ _)⟩
  case round =>
    obtain ⟨k, rfl, rfl, hk, HC, HE⟩ := hrel
    have HBr := Lib.hid (HE.out.heap HB.out (fun h => h))
    have c0 := cellRow HBr.out 0 (.slice sa g.1.length sc) rfl
    have c1 := cellRow HBr.out 1 (.slice oa g.2.length oc) rfl
    by_cases hlt : k < g.1.length
    · have HRk := Lib.hid ((StR.ext HS1.out (HZ.out.trans HE.out)).to (k := k) (by omega))
      have hcap : k ≤ sc := Nat.le_trans hk hsc
      obtain ⟨gg, off, hga, _, hat⟩ := StR.at_ (StR.ext HS1.out (HZ.out.trans HE.out)) (by omega)
      subst hga
      have q0 := hat k hlt
      have z0 : (0 : Int) ≤ (k : Int) := by omega
      have z1 : (k : Int) < (g.1.length : Int) := by omega
      have z2 : decide ((k : Int) < (g.1.length : Int)) = true := decide_eq_true z1
      have z2' : decide (k < g.1.length) = true := decide_eq_true hlt
      have z3 : (k : Int) ≤ (g.1.length : Int) := by omega
      clear hat
      obtain ⟨x, hx⟩ : ∃ x, bg g.1 k = x := ⟨_, rfl⟩
      have HX := Lib.hid hx
      rw [hx] at q0
      clear hx
      have HIN := Lib.hid (fun W (hW : Ext wr W) => rIsName_x x W)
      have HIXx := Lib.hid (fun W (hW : Ext wr W) => find_e2 (g.1.take k) x _ S W (StR.ext HRk.out hW) (by rw [List.length_take]; omega))
      have HNN := Lib.hid (ixI_nn (g.1.take k) x)
      have q0' := fun X : XW wr => X.ext.cell q0 (fun h => h)
      have c0' := fun X : XW wr => X.ext.cell c0 (fun h => h)
      have hrfs := Upd.refl (fun _ => False) wr
      have HST : Hid (nmB x = false ∨ x ∈ g.1.take k → V = false) := Lib.hid (fun h => by rw [HVV.out]; exact vsg_sorts hlt (by rw [show g.1.getD k nul = x from HX.out]; exact h))
      have HON : Hid (nmB x = true → x ∉ g.1.take k → ∀ j, j < k + 1 → nmB (g.1.getD j nul) = true ∧ g.1.getD j nul ∉ g.1.take j) := Lib.hid (fun h1 h2 j hj => by
        rcases Nat.lt_succ_iff_lt_or_eq.1 hj with h5 | h5
        · exact HC.out j h5
        · rw [h5, show g.1.getD k nul = x from HX.out]; exact ⟨h1, h2⟩)
      obtain ⟨b1, hb1⟩ : ∃ b, nmB x = b := ⟨_, rfl⟩
      rw [hb1] at HIN HST HON
      obtain ⟨b2, hb2⟩ : ∃ b, decide (x ∈ g.1.take k) = b := ⟨_, rfl⟩
      rw [hb2] at HNN
      have HB2 := Lib.hid hb2
      clear hb1 hb2
      cases b1
      · go_wp2_with fail
        clear q0
        refine wp_region_ext wr (by assumption) (by kernel_rfl) (by kernel_rfl) ?_
        repeat (first | go_big_quiet_skip | (go_big_quiet_want; go_big_quiet_op; first | go_big_quiet_on | (apply Exists.intro; refine ⟨fun x => ?_, ?_⟩; (first | (go_at_call 73; exact XW.call (HIN.out x.val x.ext)) | (go_at_call 74; exact XW.call (HIXx.out x.val x.ext))); go_big_quiet_on)))
        refine wpQuiet_nil ?_
        rintro w8 ⟨⟨_, hyw8⟩, rfl⟩
        try dsimp only
        have HV := Lib.hid (HST.out (.inl (by simp)))
        have HE8 := Lib.hid (HZ.out.trans (HE.out.trans hyw8))
        clear c0 c1
        go_wp2_with fail
        all_goals go_ret
        all_goals (rw [HV.out]; exact ⟨rfl, HE8.out⟩)
      · cases b2
        · go_wp2_with fail
          clear q0
          refine wp_region_ext wr (by assumption) (by kernel_rfl) (by kernel_rfl) ?_
          repeat (first | go_big_quiet_skip | (go_big_quiet_want; go_big_quiet_op; first | go_big_quiet_on | (apply Exists.intro; refine ⟨fun x => ?_, ?_⟩; (first | (go_at_call 73; exact XW.call (HIN.out x.val x.ext)) | (go_at_call 74; exact XW.call (HIXx.out x.val x.ext))); go_big_quiet_on)))
          refine wpQuiet_nil ?_
          rintro w8 ⟨⟨_, hyw8⟩, rfl⟩
          try dsimp only
          have HN := Lib.hid (HON.out (by simp) (of_decide_eq_false HB2.out))
          have HE8 := Lib.hid (HE.out.trans hyw8)
          have h9 := of_decide_eq_false HNN.out
          have h9' := HNN.out
          clear c0 c1
          go_wp2_with fail
          go_roundg (g.1.length - (k + 1))
          case measure => omega
          case rel => exact ⟨k + 1, by go_num, rfl, by omega, HN, HE8⟩
        · go_wp2_with fail
          clear q0
          refine wp_region_ext wr (by assumption) (by kernel_rfl) (by kernel_rfl) ?_
          repeat (first | go_big_quiet_skip | (go_big_quiet_want; go_big_quiet_op; first | go_big_quiet_on | (apply Exists.intro; refine ⟨fun x => ?_, ?_⟩; (first | (go_at_call 73; exact XW.call (HIN.out x.val x.ext)) | (go_at_call 74; exact XW.call (HIXx.out x.val x.ext))); go_big_quiet_on)))
          refine wpQuiet_nil ?_
          rintro w8 ⟨⟨_, hyw8⟩, rfl⟩
          try dsimp only
          have HV := Lib.hid (HST.out (.inr (of_decide_eq_true HB2.out)))
          have HE8 := Lib.hid (HZ.out.trans (HE.out.trans hyw8))
          have h9 := of_decide_eq_true HNN.out
          have h9' := HNN.out
          clear c0 c1
          go_wp2_with fail
          all_goals go_ret
          all_goals (rw [HV.out]; exact ⟨rfl, HE8.out⟩)
    · obtain rfl : k = g.1.length := by omega
      have z2 : decide ((g.1.length : Int) < (g.1.length : Int)) = false := decide_eq_false (by omega)
      have HSO := HC
      have H1 := Lib.hid (HZ.out.trans HE.out)
      clear HC HE HB
      go_wp2_with fail
      clear z2 c0 c1
      obtain ⟨wa, hwa⟩ : ∃ wa, wa = wr := ⟨_, rfl⟩
      have HR0 : Hid (Ext wa wr) := Lib.hid (by rw [hwa]; exact Upd.refl _ _)
      rw [← hwa] at H1 HBr
      clear hwa
      go_loopg [4] g.2.length (fun gk iv wr => ∃ k : Nat, iv = .int .i64 (k : Int) ∧ gk = g.2.length - k ∧ k ≤ g.2.length ∧ Hid (∀ j, j < k → okD nmB g j = true) ∧ Hid (Ext wa wr))
      case atStart => exact ⟨0, rfl, rfl, Nat.zero_le _, Lib.hid (fun j h => absurd h (Nat.not_lt_zero _)), HR0⟩
      case round =>
        clear HR0
        obtain ⟨k, rfl, rfl, hk, HC, HE⟩ := hrel
        have HB2 := Lib.hid (HE.out.heap HBr.out (fun h => h))
        have c0 := cellRow HB2.out 0 (.slice sa g.1.length sc) rfl
        have c1 := cellRow HB2.out 1 (.slice oa g.2.length oc) rfl
        by_cases hlt : k < g.2.length
        · obtain ⟨gg, off, hga, _, hat⟩ := (HD.out.ext (H1.out.trans HE.out)).at_ (by omega)
          subst hga
          obtain ⟨xa, xc, q0, q1, q2, hAr⟩ := hat k hlt
          have z0 : (0 : Int) ≤ (k : Int) := by omega
          have z1 : (k : Int) < (g.2.length : Int) := by omega
          have z2 : decide ((k : Int) < (g.2.length : Int)) = true := decide_eq_true z1
          have z2' : decide (k < g.2.length) = true := decide_eq_true hlt
          have HOK : Hid (okD nmB g k = (nmB (dg g.2 k).1 && (decide (dixN g.2 (dg g.2 k).1 = k) && (decide ((dg g.2 k).2.1.length ≤ 6) && (decide ((dg g.2 k).2.2 ∈ g.1) && (dg g.2 k).2.1.all fun s => decide (s ∈ g.1)))))) := Lib.hid rfl
          have HYES : Hid (okD nmB g k = true → ∀ j, j < k + 1 → okD nmB g j = true) := Lib.hid (fun h j hj => by
            rcases Nat.lt_succ_iff_lt_or_eq.1 hj with h5 | h5
            · exact HC.out j h5
            · rw [h5]; exact h)
          have HNOT : Hid (okD nmB g k = false → V = false) := Lib.hid (fun h => by rw [HVV.out]; exact vsg_op hlt h)
          obtain ⟨⟨dn, da, dr⟩, hdd⟩ : ∃ d, dg g.2 k = d := ⟨_, rfl⟩
          rw [hdd] at q0 q1 q2 HOK hAr
          dsimp only at q0 q1 q2 HOK hAr
          have HAr := Lib.hid hAr
          have hQ := (Upd.refl (fun _ => False) wr).alloc (.cells #[.string dn, .slice xa da.length xc, .string dr] 96)
          have HQ := Lib.hid (H1.out.trans (HE.out.trans hQ))
          have HAQ := Lib.hid (SlR.kept hAr hQ (fun _ _ h => h))
          have HEQ := Lib.hid (HE.out.trans hQ)
          have HBD := Lib.hid (alloc0 wr (.cells #[.string dn, .slice xa da.length xc, .string dr] 96))
          have HBG := Lib.hid (hQ.heap HB2.out (fun h => h))
          clear hat hdd hAr hQ HC
          have d0 := cellRow HBD.out 0 (.string dn) rfl
          have d1 := cellRow HBD.out 1 (.slice xa da.length xc) rfl
          have d2 := cellRow HBD.out 2 (.string dr) rfl
          have e0 := cellRow HBG.out 0 (.slice sa g.1.length sc) rfl
          have e1 := cellRow HBG.out 1 (.slice (some ⟨gg, off, none⟩) g.2.length oc) rfl
          have HIN := Lib.hid (rIsName_x dn (wr.alloc (.cells #[.string dn, .slice xa da.length xc, .string dr] 96)))
          obtain ⟨b1, hb1⟩ : ∃ b, nmB dn = b := ⟨_, rfl⟩
          rw [hb1] at HIN HOK
          clear hb1
          go_wp2_with fail
          clear c0 c1 q0 q1 q2
          generalize wr.alloc (.cells #[.string dn, .slice xa da.length xc, .string dr] 96) = w4 at *
          obtain ⟨nd, hnd⟩ : ∃ nd, wr.heap.size = nd := ⟨_, rfl⟩
          try rw [hnd] at HBD d0 d1 d2
          try rw [hnd]
          clear hnd
          refine HIN.out.mono ?_
          rintro e w5 ⟨rfl, hw5⟩
          have H5 := Lib.hid (HQ.out.trans hw5)
          have HX5 := Lib.hid hw5
          have HBD5 := Lib.hid (hw5.heap HBD.out (fun h => h))
          have HBG5 := Lib.hid (hw5.heap HBG.out (fun h => h))
          clear hw5 d0 d1 d2 e0 e1
          have d0 := cellRow HBD5.out 0 (.string dn) rfl
          have d1 := cellRow HBD5.out 1 (.slice xa da.length xc) rfl
          have d2 := cellRow HBD5.out 2 (.string dr) rfl
          have e0 := cellRow HBG5.out 0 (.slice sa g.1.length sc) rfl
          have e1 := cellRow HBG5.out 1 (.slice (some ⟨gg, off, none⟩) g.2.length oc) rfl
          cases b1
          · have HV := Lib.hid (HNOT.out (by rw [HOK.out]; rfl))
            go_wp2_with fail
            all_goals go_ret
            all_goals (rw [HV.out]; exact ⟨rfl, H5.out⟩)
          have HFX := Lib.hid (HFD.out dn w5 H5.out)
          by_cases hdx : dixN g.2 dn = k
          case neg =>
            have HV := Lib.hid (HNOT.out (by rw [HOK.out, decide_eq_false hdx]; simp))
            have hne : dixI g.2 dn ≠ (k : Int) := by
              unfold dixI
              split
              · omega
              · omega
            generalize dixI g.2 dn = X at *
            have y1 : (X == (k : Int)) = false := beq_eq_false_iff_ne.2 hne
            have y2 : (X != (k : Int)) = true := by simp [hne]
            go_wp2_with fail
            refine HFX.out.mono ?_
            rintro e w6 ⟨rfl, hw6⟩
            have H6 := Lib.hid (H5.out.trans hw6)
            clear hw6 d0 d1 d2 e0 e1
            go_wp2_with fail
            all_goals go_ret
            all_goals (rw [HV.out]; exact ⟨rfl, H6.out⟩)
          have hdi : dixI g.2 dn = (k : Int) := by
            unfold dixI
            rw [hdx, if_pos hlt]
          rw [hdi] at HFX
          have HOK2 : Hid (okD nmB g k = (decide (da.length ≤ 6) && (decide (dr ∈ g.1) && da.all fun s => decide (s ∈ g.1)))) := Lib.hid (by rw [HOK.out, decide_eq_true hdx]; simp)
          clear hdi hdx HOK
          have y1 : ((k : Int) == (k : Int)) = true := by simp
          go_wp2_with fail
          refine HFX.out.mono ?_
          rintro e w6 ⟨rfl, hw6⟩
          have H6 := Lib.hid (H5.out.trans hw6)
          have HX6 := Lib.hid hw6
          have HBD6 := Lib.hid (hw6.heap HBD5.out (fun h => h))
          have HBG6 := Lib.hid (hw6.heap HBG5.out (fun h => h))
          clear hw6 d0 d1 d2 e0 e1
          have d0 := cellRow HBD6.out 0 (.string dn) rfl
          have d1 := cellRow HBD6.out 1 (.slice xa da.length xc) rfl
          have d2 := cellRow HBD6.out 2 (.string dr) rfl
          have e0 := cellRow HBG6.out 0 (.slice sa g.1.length sc) rfl
          have e1 := cellRow HBG6.out 1 (.slice (some ⟨gg, off, none⟩) g.2.length oc) rfl
          clear HFX y1
          by_cases hd6 : 6 < da.length
          · have HV := Lib.hid (HNOT.out (by rw [HOK2.out, decide_eq_false (by omega)]; rfl))
            have y3 : (6 : Int) < (da.length : Int) := by omega
            have y3' : decide ((6 : Int) < (da.length : Int)) = true := decide_eq_true y3
            clear hd6
            go_wp2_with fail
            all_goals go_ret
            all_goals (rw [HV.out]; exact ⟨rfl, H6.out⟩)
          have y3 : ¬ (6 : Int) < (da.length : Int) := by omega
          have y3' : decide ((6 : Int) < (da.length : Int)) = false := decide_eq_false y3
          have HFS := Lib.hid (find_e2 g.1 dr _ S w6 (SlR.kept HS1.out H6.out (fun _ _ h => h)) (by omega))
          have hng := ixI_neg g.1 dr
          by_cases hm : dr ∈ g.1
          case neg =>
            have HV := Lib.hid (HNOT.out (by rw [HOK2.out, decide_eq_false hm]; simp))
            rw [decide_eq_false hm] at hng
            have hn := of_decide_eq_true hng
            have hn' : decide (ixI g.1 dr < (0 : Int)) = true := hng
            generalize ixI g.1 dr = X at *
            clear hm hng
            go_wp2_with fail
            refine HFS.out.mono ?_
            rintro e w7 ⟨rfl, hw7⟩
            have H7 := Lib.hid (H6.out.trans hw7)
            clear hw7 d0 d1 d2 e0 e1
            go_wp2_with fail
            all_goals go_ret
            all_goals (rw [HV.out]; exact ⟨rfl, H7.out⟩)
          have HOK3 : Hid (okD nmB g k = da.all fun s => decide (s ∈ g.1)) := Lib.hid (by rw [HOK2.out, decide_eq_true hm, decide_eq_true (p := da.length ≤ 6) (by omega)]; simp)
          rw [decide_eq_true hm] at hng
          have hn := of_decide_eq_false hng
          have hn' : decide (ixI g.1 dr < (0 : Int)) = false := hng
          generalize ixI g.1 dr = X at *
          clear hm hng HOK2
          go_wp2_with fail
          refine HFS.out.mono ?_
          rintro e w7 ⟨rfl, hw7⟩
          have H7 := Lib.hid (H6.out.trans hw7)
          have HX7 := Lib.hid hw7
          have HBD7 := Lib.hid (hw7.heap HBD6.out (fun h => h))
          have HBG7 := Lib.hid (hw7.heap HBG6.out (fun h => h))
          clear hw7 d0 d1 d2 e0 e1
          have d0 := cellRow HBD7.out 0 (.string dn) rfl
          have d1 := cellRow HBD7.out 1 (.slice xa da.length xc) rfl
          have d2 := cellRow HBD7.out 2 (.string dr) rfl
          have e0 := cellRow HBG7.out 0 (.slice sa g.1.length sc) rfl
          have e1 := cellRow HBG7.out 1 (.slice (some ⟨gg, off, none⟩) g.2.length oc) rfl
          clear HFS y3 y3'
          have HEA : Hid (Ext wa w7) := Lib.hid (HEQ.out.trans (HX5.out.trans (HX6.out.trans HX7.out)))
          have HA7 := Lib.hid (SlR.kept HAQ.out (HX5.out.trans (HX6.out.trans HX7.out)) (fun _ _ h => h))
          clear HX5 HX6 HX7 HEQ HAQ HAr
          go_wp2_with fail
          clear d0 d1 d2 e0 e1 hn hn'
          obtain ⟨wb, hwb⟩ : ∃ wb, wb = w7 := ⟨_, rfl⟩
          have HR1 : Hid (Ext wb w7) := Lib.hid (by rw [hwb]; exact Upd.refl _ _)
          rw [← hwb] at H7 HBD7 HBG7 HEA HA7
          clear hwb
          go_loopg [6] da.length (fun gk iv wr => ∃ i : Nat, iv = .int .i64 (i : Int) ∧ gk = da.length - i ∧ i ≤ da.length ∧ Hid (∀ j, j < i → da.getD j nul ∈ g.1) ∧ Hid (Ext wb wr))
          case atStart => exact ⟨0, rfl, rfl, Nat.zero_le _, Lib.hid (fun j h => absurd h (Nat.not_lt_zero _)), HR1⟩
          case round =>
            clear HR1
            obtain ⟨i, rfl, rfl, hi, HM, HE2⟩ := hrel
            have HBD8 := Lib.hid (HE2.out.heap HBD7.out (fun h => h))
            have HBG8 := Lib.hid (HE2.out.heap HBG7.out (fun h => h))
            have d1 := cellRow HBD8.out 1 (.slice xa da.length xc) rfl
            by_cases hlti : i < da.length
            · obtain ⟨g2, o2, hga2, _, hat2⟩ := SlR.one_at (d := nul) (SlR.kept HA7.out HE2.out (fun _ _ h => h)) (by omega)
              subst hga2
              have p0 := hat2 i hlti
              have z0 : (0 : Int) ≤ (i : Int) := by omega
              have z1 : (i : Int) < (da.length : Int) := by omega
              have z2 : decide ((i : Int) < (da.length : Int)) = true := decide_eq_true z1
              have z2' : decide (i < da.length) = true := decide_eq_true hlti
              obtain ⟨x, hx⟩ : ∃ x, da.getD i nul = x := ⟨_, rfl⟩
              have HX := Lib.hid hx
              rw [hx] at p0
              have e0 := cellRow HBG8.out 0 (.slice sa g.1.length sc) rfl
              have HFS := Lib.hid (fun W (hW : Ext wr W) => find_e2 g.1 x _ S W (SlR.kept HS1.out ((H7.out.trans HE2.out).trans hW) (fun _ _ h => h)) (by omega))
              have hng := ixI_neg g.1 x
              have hrfs := Upd.refl (fun _ => False) wr
              have xp0 := fun x : XW wr => x.ext.cell p0 (fun h => h)
              have xe0 := fun x : XW wr => x.ext.cell e0 (fun h => h)
              have xd1 := fun x : XW wr => x.ext.cell d1 (fun h => h)
              clear hat2 hx p0 e0
              by_cases hm : x ∈ g.1
              · rw [decide_eq_true hm] at hng
                have hn := of_decide_eq_false hng
                have hn' : decide (ixI g.1 x < (0 : Int)) = false := hng
                have HN : Hid (∀ j, j < i + 1 → da.getD j nul ∈ g.1) := Lib.hid (fun j hj => by
                  rcases Nat.lt_succ_iff_lt_or_eq.1 hj with h5 | h5
                  · exact HM.out j h5
                  · rw [h5, HX.out]; exact hm)
                generalize ixI g.1 x = X at *
                clear hm hng
                go_wp2_with fail
                refine wp_region_ext wr (by assumption) (by kernel_rfl) (by kernel_rfl) ?_
                repeat (first | go_big_quiet_skip | (go_big_quiet_want; go_big_quiet_op; first | go_big_quiet_on | (apply Exists.intro; refine ⟨fun x => ?_, ?_⟩; (go_at_call 74; exact XW.call (HFS.out x.val x.ext)); go_big_quiet_on)))
                refine wpQuiet_nil ?_
                rintro w8 ⟨⟨_, hyw8⟩, rfl⟩
                try dsimp only
                have HE8 := Lib.hid (HE2.out.trans hyw8)
                clear d1 xp0 xe0 xd1 HFS hrfs
                go_wp2_with fail
                go_roundg (da.length - (i + 1))
                case measure => omega
                case rel => exact ⟨i + 1, by go_num, rfl, by omega, HN, HE8⟩
              · rw [decide_eq_false hm] at hng
                have hn := of_decide_eq_true hng
                have hn' : decide (ixI g.1 x < (0 : Int)) = true := hng
                have HV := Lib.hid (HNOT.out (by
                  rw [HOK3.out, Bool.eq_false_iff]
                  intro h
                  refine hm (of_decide_eq_true (List.all_eq_true.1 h x ?_))
                  rw [← HX.out, List.getD_eq_getElem?_getD, List.getElem?_eq_getElem hlti]
                  exact List.getElem_mem hlti))
                generalize ixI g.1 x = X at *
                clear hm hng
                go_wp2_with fail
                refine wp_region_ext wr (by assumption) (by kernel_rfl) (by kernel_rfl) ?_
                repeat (first | go_big_quiet_skip | (go_big_quiet_want; go_big_quiet_op; first | go_big_quiet_on | (apply Exists.intro; refine ⟨fun x => ?_, ?_⟩; (go_at_call 74; exact XW.call (HFS.out x.val x.ext)); go_big_quiet_on)))
                refine wpQuiet_nil ?_
                rintro w8 ⟨⟨_, hyw8⟩, rfl⟩
                try dsimp only
                have HE8 := Lib.hid ((H7.out.trans HE2.out).trans hyw8)
                clear d1 xp0 xe0 xd1 HFS hrfs
                go_wp2_with fail
                all_goals go_ret
                all_goals (rw [HV.out]; exact ⟨rfl, HE8.out⟩)
            · obtain rfl : i = da.length := by omega
              have z2 : decide ((da.length : Int) < (da.length : Int)) = false := decide_eq_false (by omega)
              have HN := Lib.hid (HYES.out (by
                rw [HOK3.out, List.all_eq_true]
                intro s hs
                obtain ⟨j, hj, rfl⟩ := List.mem_iff_getElem.1 hs
                have h1 := HM.out j hj
                rw [List.getD_eq_getElem?_getD, List.getElem?_eq_getElem hj] at h1
                exact decide_eq_true h1))
              have HE8 := Lib.hid (HEA.out.trans HE2.out)
              go_wp2_with fail
              go_roundg (g.2.length - (k + 1))
              case measure => omega
              case rel => exact ⟨k + 1, by go_num, rfl, by omega, HN, HE8⟩
        · obtain rfl : k = g.2.length := by omega
          have z2 : decide ((g.2.length : Int) < (g.2.length : Int)) = false := decide_eq_false (by omega)
          have HV : Hid (V = true) := Lib.hid (by rw [HVV.out]; exact vsg_yes (by omega) (by omega) HSO.out HC.out)
          have H9 := Lib.hid (H1.out.trans HE.out)
          go_wp2_with fail
          all_goals go_ret
          all_goals (rw [HV.out]; exact ⟨rfl, H9.out⟩)

end Go.Proofs.YtjjaknmnhhfjeaaGreatDoor

/- Above of the reference: the table. -/
namespace Go.Proofs.YtjjaknmnhhfjeaaGreatDoor
open Go.RowKit Go.Hw Go
set_option linter.unusedVariables false
set_option linter.unusedSimpArgs false

open Tm
section
variable {n0 m : Nat} {r : By → Nat} {X Y : List Nt} {w6 wr wq wb w8 : World} {tv tv' : Value} {i j g : Nat} {us : List Value} {tab : List (List Bool)} {Q : Nat → Prop} {row : List Bool}
end
end Go.Proofs.YtjjaknmnhhfjeaaGreatDoor

/- Greater of the reference. -/
namespace Go.Proofs.YtjjaknmnhhfjeaaGreatDoor
open Go.RowKit Go.Hw Go
set_option linter.unusedVariables false
set_option linter.unusedSimpArgs false

open Tm
theorem wf_nop {t : Tm} (h : wf nmB t = true) : NoP t := formed_VL (wf_formed h)
end Go.Proofs.YtjjaknmnhhfjeaaGreatDoor

/- precedence and formed. -/
namespace Go.Proofs.YtjjaknmnhhfjeaaGreatDoor
open Go.RowKit Go.Hw Go
set_option linter.unusedVariables false
set_option linter.unusedSimpArgs false

open Tm
theorem con_x (l : List By) (x : By) (v : Value) (S : Nat → Prop) (w : World) (hR : StR S w v l) (hl : l.length ≤ 1000000) :
    Calls Tryz.prog 88 #[v, .string x] w fun e w' => e = .returned (.bool (decide (x ∈ l))) ∧ Ext w w' := by
  obtain ⟨a, cap, rfl⟩ := SlR.shape hR
  by_cases h0 : 0 < l.length
  · obtain ⟨g, off, hga, _, hat⟩ := SlR.one_at (d := nul) hR h0
    subst hga
    refine (Tryz.slices_Contains_string g off l.length cap l x w (Nat.le_refl _) (by omega) (fun j hj => hat j hj)).mono ?_
    rintro e w' ⟨rfl, rfl⟩
    refine ⟨?_, Upd.refl _ _⟩
    rw [List.take_length]
    suffices h : Lib.containsS l x = decide (x ∈ l) by rw [h]
    rw [Bool.eq_iff_iff, decide_eq_true_eq, Lib.containsS_iff]
  · have hl0 : l = [] := List.eq_nil_of_length_eq_zero (by omega)
    subst hl0
    refine (Tryz.slices_Contains_string_empty a cap x w).mono ?_
    rintro e w' ⟨rfl, rfl⟩
    exact ⟨rfl, Upd.refl _ _⟩
end Go.Proofs.YtjjaknmnhhfjeaaGreatDoor

/- Searches over strings and declarations. -/
namespace Go.Proofs.YtjjaknmnhhfjeaaGreatDoor
open Go.RowKit Go.Hw Go
set_option linter.unusedVariables false
set_option linter.unusedSimpArgs false

open Tm
def fxI {α : Type} (p : α → Bool) (l : List α) : Int := if l.findIdx p < l.length then (l.findIdx p : Int) else -1
theorem fxI_at {α : Type} {p : α → Bool} {l : List α} {d : α} {k : Nat} (hk : k < l.length) (h1 : ∀ j, j < k → p (l.getD j d) = false) (h2 : p (l.getD k d) = true) : fxI p l = (k : Int) := by
  have hg : ∀ i (h : i < l.length), l.getD i d = l[i] := fun i h => by rw [List.getD_eq_getElem?_getD, List.getElem?_eq_getElem h]; rfl
  have h3 : l.findIdx p = k := by
    rw [List.findIdx_eq hk]
    refine ⟨by rw [← hg k hk]; exact h2, fun j hj => ?_⟩
    rw [← hg j (by omega)]
    exact h1 j hj
  unfold fxI
  rw [h3, if_pos hk]
theorem fxI_none {α : Type} {p : α → Bool} {l : List α} {d : α} (h1 : ∀ j, j < l.length → p (l.getD j d) = false) : fxI p l = -1 := by
  unfold fxI
  rw [if_neg]
  intro h
  have h2 := List.findIdx_getElem (w := h)
  have h3 := h1 _ h
  rw [List.getD_eq_getElem?_getD, List.getElem?_eq_getElem h] at h3
  rw [show (some l[List.findIdx p l]).getD d = l[List.findIdx p l] from rfl, h2] at h3
  cases h3
theorem fxI_any {α : Type} (p : α → Bool) (l : List α) : decide (0 ≤ fxI p l) = l.any p := by
  unfold fxI
  by_cases h : l.findIdx p < l.length
  · rw [if_pos h]
    have h2 := List.findIdx_getElem (w := h)
    rw [List.any_eq_true.2 ⟨_, List.getElem_mem h, h2⟩]
    exact decide_eq_true (by omega)
  · rw [if_neg h]
    have : l.any p = false := by
      rw [List.any_eq_false]
      intro x hx hp
      exact h (List.findIdx_lt_length_of_exists ⟨x, hx, hp⟩)
    rw [this]; rfl
theorem dix_fx (l : List Dc) (s : By) : dixI l s = fxI (fun d => decide (d.1 = s)) l := rfl
set_option maxRecDepth 100000 in
set_option maxHeartbeats 2000000 in
theorem idxS89_x (p : By → Bool) (l : List By) (v : Value) (S : Nat → Prop) (q : Nat) (w : World) (hR : StR S w v l) (hl : l.length ≤ 1000000)
    (hf : ∀ s ∈ l, ∀ W, Ext w W → Calls Tryz.prog 89 #[.string s, .pointer (some ⟨q, 0, none⟩)] W fun e W' => e = .returned (.bool (p s)) ∧ Ext W W') :
    Calls Tryz.prog 96 #[v, .func (.func 89) #[] #[.pointer (some ⟨q, 0, none⟩)]] w fun e w' => e = .returned (.int .i64 (fxI p l)) ∧ Ext w w' := by
  obtain ⟨a, cap, rfl⟩ := SlR.shape hR
  have HR := Lib.hid hR
  have HF := Lib.hid hf
  obtain ⟨V, hV⟩ : ∃ V, fxI p l = V := ⟨_, rfl⟩
  rw [hV]
  have HV := Lib.hid hV
  clear hR hf hV
  go_enter Tryz.func96, Tryz.ntmps96
  go_wp2_with fail
  go_loopg [8] l.length (fun gk iv wr => ∃ k : Nat, iv = .int .i64 (k : Int) ∧ gk = l.length - k ∧ k ≤ l.length ∧ Hid (Ext w wr) ∧ Hid (∀ j, j < k → p (bg l j) = false))
  case atStart => exact ⟨0, rfl, rfl, Nat.zero_le _, Lib.hid (Upd.refl _ _), Lib.hid (fun j h => absurd h (Nat.not_lt_zero _))⟩
  case round =>
    obtain ⟨k, rfl, rfl, hk, HE, HM⟩ := hrel
    by_cases hlt : k < l.length
    · obtain ⟨g, off, hga, _, hat⟩ := StR.at_ (StR.ext HR.out HE.out) (by omega)
      subst hga
      have q0 := hat k hlt
      have z0 : (0 : Int) ≤ (k : Int) := by omega
      have z1 : (k : Int) < (l.length : Int) := by omega
      have z2 : decide ((k : Int) < (l.length : Int)) = true := decide_eq_true z1
      have z2' : decide (k < l.length) = true := decide_eq_true hlt
      have HFX := Lib.hid (HF.out (bg l k) (by rw [bg_at l k hlt]; exact List.getElem_mem hlt) wr HE.out)
      have HN : Hid (p (bg l k) = false → ∀ j, j < k + 1 → p (bg l j) = false) := Lib.hid (fun h j hj => by
        rcases Nat.lt_succ_iff_lt_or_eq.1 hj with h5 | h5
        · exact HM.out j h5
        · rw [h5]; exact h)
      have HY : Hid (p (bg l k) = true → V = (k : Int)) := Lib.hid (fun h => by rw [← HV.out]; exact fxI_at hlt (fun j hj => HM.out j hj) h)
      obtain ⟨x, hx⟩ : ∃ x, bg l k = x := ⟨_, rfl⟩
      rw [hx] at q0 HFX HN HY
      obtain ⟨b, hb⟩ : ∃ b, p x = b := ⟨_, rfl⟩
      rw [hb] at HFX HN HY
      clear hat hx hb HM
      go_wp2_with fail
      refine HFX.out.mono ?_
      rintro e w4 ⟨rfl, hw4⟩
      have H4 := Lib.hid (HE.out.trans hw4)
      clear hw4 q0 HFX HE
      cases b
      · have HN2 := Lib.hid (HN.out rfl)
        clear HN HY
        go_wp2_with fail
        go_roundg (l.length - (k + 1))
        case measure => omega
        case rel => exact ⟨k + 1, by go_num, rfl, by omega, H4, HN2⟩
      · have HY2 := Lib.hid (HY.out rfl)
        clear HN HY
        go_wp2_with fail
        go_ret
        rw [HY2.out]
        exact ⟨rfl, H4.out⟩
    · obtain rfl : k = l.length := by omega
      have z2 : decide ((l.length : Int) < (l.length : Int)) = false := decide_eq_false (by omega)
      have HY2 : Hid (V = -1) := Lib.hid (by rw [← HV.out]; exact fxI_none (fun j hj => HM.out j hj))
      go_wp2_with fail
      go_ret
      rw [HY2.out]
      exact ⟨rfl, HE.out⟩
set_option maxRecDepth 100000 in
set_option maxHeartbeats 2000000 in
theorem conS89_x (p : By → Bool) (l : List By) (v : Value) (S : Nat → Prop) (q : Nat) (w : World) (hR : StR S w v l) (hl : l.length ≤ 1000000)
    (hf : ∀ s ∈ l, ∀ W, Ext w W → Calls Tryz.prog 89 #[.string s, .pointer (some ⟨q, 0, none⟩)] W fun e W' => e = .returned (.bool (p s)) ∧ Ext W W') :
    Calls Tryz.prog 55 #[v, .func (.func 89) #[] #[.pointer (some ⟨q, 0, none⟩)]] w fun e w' => e = .returned (.bool (l.any p)) ∧ Ext w w' := by
  have HI := Lib.hid (idxS89_x p l v S q w hR hl hf)
  have HR := Lib.hid (fxI_any p l)
  generalize fxI p l = X at *
  clear hR hf
  go_enter Tryz.func55, Tryz.ntmps55
  go_wp2_with fail
  refine HI.out.mono ?_
  rintro e w4 ⟨rfl, hw4⟩
  have H4 := Lib.hid hw4
  clear hw4
  go_wp2_with fail
  go_ret
  rw [← HR.out]
  exact ⟨rfl, H4.out⟩
set_option maxRecDepth 100000 in
set_option maxHeartbeats 2000000 in
theorem idxS54_x (p : By → Bool) (l : List By) (v : Value) (S : Nat → Prop) (w : World) (hR : StR S w v l) (hl : l.length ≤ 1000000)
    (hf : ∀ s ∈ l, ∀ W, Ext w W → Calls Tryz.prog 54 #[.string s] W fun e W' => e = .returned (.bool (p s)) ∧ Ext W W') :
    Calls Tryz.prog 96 #[v, .func (.func 54) #[] #[]] w fun e w' => e = .returned (.int .i64 (fxI p l)) ∧ Ext w w' := by
  obtain ⟨a, cap, rfl⟩ := SlR.shape hR
  have HR := Lib.hid hR
  have HF := Lib.hid hf
  obtain ⟨V, hV⟩ : ∃ V, fxI p l = V := ⟨_, rfl⟩
  rw [hV]
  have HV := Lib.hid hV
  clear hR hf hV
  go_enter Tryz.func96, Tryz.ntmps96
  go_wp2_with fail
  go_loopg [8] l.length (fun gk iv wr => ∃ k : Nat, iv = .int .i64 (k : Int) ∧ gk = l.length - k ∧ k ≤ l.length ∧ Hid (Ext w wr) ∧ Hid (∀ j, j < k → p (bg l j) = false))
  case atStart => exact ⟨0, rfl, rfl, Nat.zero_le _, Lib.hid (Upd.refl _ _), Lib.hid (fun j h => absurd h (Nat.not_lt_zero _))⟩
  case round =>
    obtain ⟨k, rfl, rfl, hk, HE, HM⟩ := hrel
    by_cases hlt : k < l.length
    · obtain ⟨g, off, hga, _, hat⟩ := StR.at_ (StR.ext HR.out HE.out) (by omega)
      subst hga
      have q0 := hat k hlt
      have z0 : (0 : Int) ≤ (k : Int) := by omega
      have z1 : (k : Int) < (l.length : Int) := by omega
      have z2 : decide ((k : Int) < (l.length : Int)) = true := decide_eq_true z1
      have z2' : decide (k < l.length) = true := decide_eq_true hlt
      have HFX := Lib.hid (HF.out (bg l k) (by rw [bg_at l k hlt]; exact List.getElem_mem hlt) wr HE.out)
      have HN : Hid (p (bg l k) = false → ∀ j, j < k + 1 → p (bg l j) = false) := Lib.hid (fun h j hj => by
        rcases Nat.lt_succ_iff_lt_or_eq.1 hj with h5 | h5
        · exact HM.out j h5
        · rw [h5]; exact h)
      have HY : Hid (p (bg l k) = true → V = (k : Int)) := Lib.hid (fun h => by rw [← HV.out]; exact fxI_at hlt (fun j hj => HM.out j hj) h)
      obtain ⟨x, hx⟩ : ∃ x, bg l k = x := ⟨_, rfl⟩
      rw [hx] at q0 HFX HN HY
      obtain ⟨b, hb⟩ : ∃ b, p x = b := ⟨_, rfl⟩
      rw [hb] at HFX HN HY
      clear hat hx hb HM
      go_wp2_with fail
      refine HFX.out.mono ?_
      rintro e w4 ⟨rfl, hw4⟩
      have H4 := Lib.hid (HE.out.trans hw4)
      clear hw4 q0 HFX HE
      cases b
      · have HN2 := Lib.hid (HN.out rfl)
        clear HN HY
        go_wp2_with fail
        go_roundg (l.length - (k + 1))
        case measure => omega
        case rel => exact ⟨k + 1, by go_num, rfl, by omega, H4, HN2⟩
      · have HY2 := Lib.hid (HY.out rfl)
        clear HN HY
        go_wp2_with fail
        go_ret
        rw [HY2.out]
        exact ⟨rfl, H4.out⟩
    · obtain rfl : k = l.length := by omega
      have z2 : decide ((l.length : Int) < (l.length : Int)) = false := decide_eq_false (by omega)
      have HY2 : Hid (V = -1) := Lib.hid (by rw [← HV.out]; exact fxI_none (fun j hj => HM.out j hj))
      go_wp2_with fail
      go_ret
      rw [HY2.out]
      exact ⟨rfl, HE.out⟩
set_option maxRecDepth 100000 in
set_option maxHeartbeats 2000000 in
theorem conS54_x (p : By → Bool) (l : List By) (v : Value) (S : Nat → Prop) (w : World) (hR : StR S w v l) (hl : l.length ≤ 1000000)
    (hf : ∀ s ∈ l, ∀ W, Ext w W → Calls Tryz.prog 54 #[.string s] W fun e W' => e = .returned (.bool (p s)) ∧ Ext W W') :
    Calls Tryz.prog 55 #[v, .func (.func 54) #[] #[]] w fun e w' => e = .returned (.bool (l.any p)) ∧ Ext w w' := by
  have HI := Lib.hid (idxS54_x p l v S w hR hl hf)
  have HR := Lib.hid (fxI_any p l)
  generalize fxI p l = X at *
  clear hR hf
  go_enter Tryz.func55, Tryz.ntmps55
  go_wp2_with fail
  refine HI.out.mono ?_
  rintro e w4 ⟨rfl, hw4⟩
  have H4 := Lib.hid hw4
  clear hw4
  go_wp2_with fail
  go_ret
  rw [← HR.out]
  exact ⟨rfl, H4.out⟩
set_option maxRecDepth 100000 in
set_option maxHeartbeats 2000000 in
theorem idxD90_x (p : Dc → Bool) (l : List Dc) (v : Value) (S : Nat → Prop) (q : Nat) (w : World) (hR : DcR S w v l) (hl : l.length ≤ 1000000)
    (hf : ∀ x ∈ l, ∀ xa xc W, Ext w W → StrR S W (.slice xa x.2.1.length xc) x.2.1 → Calls Tryz.prog 90 #[.agg #[.string x.1, .slice xa x.2.1.length xc, .string x.2.2], .pointer (some ⟨q, 0, none⟩)] W fun e W' => e = .returned (.bool (p x)) ∧ Ext W W') :
    Calls Tryz.prog 97 #[v, .func (.func 90) #[] #[.pointer (some ⟨q, 0, none⟩)]] w fun e w' => e = .returned (.int .i64 (fxI p l)) ∧ Ext w w' := by
  obtain ⟨a, cap, rfl⟩ := hR.shape
  have HR := Lib.hid hR
  have HF := Lib.hid hf
  obtain ⟨V, hV⟩ : ∃ V, fxI p l = V := ⟨_, rfl⟩
  rw [hV]
  have HV := Lib.hid hV
  clear hR hf hV
  go_enter Tryz.func97, Tryz.ntmps97
  go_wp2_with fail
  go_loopg [8] l.length (fun gk iv wr => ∃ k : Nat, iv = .int .i64 (k : Int) ∧ gk = l.length - k ∧ k ≤ l.length ∧ Hid (Ext w wr) ∧ Hid (∀ j, j < k → p (dg l j) = false))
  case atStart => exact ⟨0, rfl, rfl, Nat.zero_le _, Lib.hid (Upd.refl _ _), Lib.hid (fun j h => absurd h (Nat.not_lt_zero _))⟩
  case round =>
    obtain ⟨k, rfl, rfl, hk, HE, HM⟩ := hrel
    by_cases hlt : k < l.length
    · obtain ⟨g, off, hga, _, hat⟩ := (HR.out.ext HE.out).at_ (by omega)
      subst hga
      obtain ⟨xa, xc, q0, q1, q2, hAr⟩ := hat k hlt
      have z0 : (0 : Int) ≤ (k : Int) := by omega
      have z1 : (k : Int) < (l.length : Int) := by omega
      have z2 : decide ((k : Int) < (l.length : Int)) = true := decide_eq_true z1
      have z2' : decide (k < l.length) = true := decide_eq_true hlt
      have HFX := Lib.hid (HF.out (dg l k) (by rw [dg_at hlt]; exact List.getElem_mem hlt) xa xc wr HE.out hAr)
      have HN : Hid (p (dg l k) = false → ∀ j, j < k + 1 → p (dg l j) = false) := Lib.hid (fun h j hj => by
        rcases Nat.lt_succ_iff_lt_or_eq.1 hj with h5 | h5
        · exact HM.out j h5
        · rw [h5]; exact h)
      have HY : Hid (p (dg l k) = true → V = (k : Int)) := Lib.hid (fun h => by rw [← HV.out]; exact fxI_at (d := (nul, [], nul)) hlt (fun j hj => HM.out j hj) h)
      obtain ⟨x, hx⟩ : ∃ x, dg l k = x := ⟨_, rfl⟩
      rw [hx] at q0 q1 q2 HFX HN HY
      obtain ⟨x1, x2, x3⟩ := x
      dsimp only at q0 q1 q2 HFX
      obtain ⟨b, hb⟩ : ∃ b, p (x1, x2, x3) = b := ⟨_, rfl⟩
      rw [hb] at HFX HN HY
      clear hat hx hb HM hAr
      go_wp2_with fail
      refine HFX.out.mono ?_
      rintro e w4 ⟨rfl, hw4⟩
      have H4 := Lib.hid (HE.out.trans hw4)
      clear hw4 q0 q1 q2 HFX HE
      cases b
      · have HN2 := Lib.hid (HN.out rfl)
        clear HN HY
        go_wp2_with fail
        go_roundg (l.length - (k + 1))
        case measure => omega
        case rel => exact ⟨k + 1, by go_num, rfl, by omega, H4, HN2⟩
      · have HY2 := Lib.hid (HY.out rfl)
        clear HN HY
        go_wp2_with fail
        go_ret
        rw [HY2.out]
        exact ⟨rfl, H4.out⟩
    · obtain rfl : k = l.length := by omega
      have z2 : decide ((l.length : Int) < (l.length : Int)) = false := decide_eq_false (by omega)
      have HY2 : Hid (V = -1) := Lib.hid (by rw [← HV.out]; exact fxI_none (d := (nul, [], nul)) (fun j hj => HM.out j hj))
      go_wp2_with fail
      go_ret
      rw [HY2.out]
      exact ⟨rfl, HE.out⟩
set_option maxRecDepth 100000 in
set_option maxHeartbeats 2000000 in
theorem idxD57_x (p : Dc → Bool) (l : List Dc) (v : Value) (S : Nat → Prop) (q : Nat) (w : World) (hR : DcR S w v l) (hl : l.length ≤ 1000000)
    (hf : ∀ x ∈ l, ∀ xa xc W, Ext w W → StrR S W (.slice xa x.2.1.length xc) x.2.1 → Calls Tryz.prog 57 #[.agg #[.string x.1, .slice xa x.2.1.length xc, .string x.2.2], .pointer (some ⟨q, 0, none⟩)] W fun e W' => e = .returned (.bool (p x)) ∧ Ext W W') :
    Calls Tryz.prog 97 #[v, .func (.func 57) #[] #[.pointer (some ⟨q, 0, none⟩)]] w fun e w' => e = .returned (.int .i64 (fxI p l)) ∧ Ext w w' := by
  obtain ⟨a, cap, rfl⟩ := hR.shape
  have HR := Lib.hid hR
  have HF := Lib.hid hf
  obtain ⟨V, hV⟩ : ∃ V, fxI p l = V := ⟨_, rfl⟩
  rw [hV]
  have HV := Lib.hid hV
  clear hR hf hV
  go_enter Tryz.func97, Tryz.ntmps97
  go_wp2_with fail
  go_loopg [8] l.length (fun gk iv wr => ∃ k : Nat, iv = .int .i64 (k : Int) ∧ gk = l.length - k ∧ k ≤ l.length ∧ Hid (Ext w wr) ∧ Hid (∀ j, j < k → p (dg l j) = false))
  case atStart => exact ⟨0, rfl, rfl, Nat.zero_le _, Lib.hid (Upd.refl _ _), Lib.hid (fun j h => absurd h (Nat.not_lt_zero _))⟩
  case round =>
    obtain ⟨k, rfl, rfl, hk, HE, HM⟩ := hrel
    by_cases hlt : k < l.length
    · obtain ⟨g, off, hga, _, hat⟩ := (HR.out.ext HE.out).at_ (by omega)
      subst hga
      obtain ⟨xa, xc, q0, q1, q2, hAr⟩ := hat k hlt
      have z0 : (0 : Int) ≤ (k : Int) := by omega
      have z1 : (k : Int) < (l.length : Int) := by omega
      have z2 : decide ((k : Int) < (l.length : Int)) = true := decide_eq_true z1
      have z2' : decide (k < l.length) = true := decide_eq_true hlt
      have HFX := Lib.hid (HF.out (dg l k) (by rw [dg_at hlt]; exact List.getElem_mem hlt) xa xc wr HE.out hAr)
      have HN : Hid (p (dg l k) = false → ∀ j, j < k + 1 → p (dg l j) = false) := Lib.hid (fun h j hj => by
        rcases Nat.lt_succ_iff_lt_or_eq.1 hj with h5 | h5
        · exact HM.out j h5
        · rw [h5]; exact h)
      have HY : Hid (p (dg l k) = true → V = (k : Int)) := Lib.hid (fun h => by rw [← HV.out]; exact fxI_at (d := (nul, [], nul)) hlt (fun j hj => HM.out j hj) h)
      obtain ⟨x, hx⟩ : ∃ x, dg l k = x := ⟨_, rfl⟩
      rw [hx] at q0 q1 q2 HFX HN HY
      obtain ⟨x1, x2, x3⟩ := x
      dsimp only at q0 q1 q2 HFX
      obtain ⟨b, hb⟩ : ∃ b, p (x1, x2, x3) = b := ⟨_, rfl⟩
      rw [hb] at HFX HN HY
      clear hat hx hb HM hAr
      go_wp2_with fail
      refine HFX.out.mono ?_
      rintro e w4 ⟨rfl, hw4⟩
      have H4 := Lib.hid (HE.out.trans hw4)
      clear hw4 q0 q1 q2 HFX HE
      cases b
      · have HN2 := Lib.hid (HN.out rfl)
        clear HN HY
        go_wp2_with fail
        go_roundg (l.length - (k + 1))
        case measure => omega
        case rel => exact ⟨k + 1, by go_num, rfl, by omega, H4, HN2⟩
      · have HY2 := Lib.hid (HY.out rfl)
        clear HN HY
        go_wp2_with fail
        go_ret
        rw [HY2.out]
        exact ⟨rfl, H4.out⟩
    · obtain rfl : k = l.length := by omega
      have z2 : decide ((l.length : Int) < (l.length : Int)) = false := decide_eq_false (by omega)
      have HY2 : Hid (V = -1) := Lib.hid (by rw [← HV.out]; exact fxI_none (d := (nul, [], nul)) (fun j hj => HM.out j hj))
      go_wp2_with fail
      go_ret
      rw [HY2.out]
      exact ⟨rfl, HE.out⟩
set_option maxRecDepth 100000 in
set_option maxHeartbeats 2000000 in
theorem idxD135_x (p : Dc → Bool) (l : List Dc) (v : Value) (S : Nat → Prop) (q : Nat) (w : World) (hR : DcR S w v l) (hl : l.length ≤ 1000000)
    (hf : ∀ x ∈ l, ∀ xa xc W, Ext w W → StrR S W (.slice xa x.2.1.length xc) x.2.1 → Calls Tryz.prog 135 #[.agg #[.string x.1, .slice xa x.2.1.length xc, .string x.2.2], .pointer (some ⟨q, 0, none⟩)] W fun e W' => e = .returned (.bool (p x)) ∧ Ext W W') :
    Calls Tryz.prog 97 #[v, .func (.func 135) #[] #[.pointer (some ⟨q, 0, none⟩)]] w fun e w' => e = .returned (.int .i64 (fxI p l)) ∧ Ext w w' := by
  obtain ⟨a, cap, rfl⟩ := hR.shape
  have HR := Lib.hid hR
  have HF := Lib.hid hf
  obtain ⟨V, hV⟩ : ∃ V, fxI p l = V := ⟨_, rfl⟩
  rw [hV]
  have HV := Lib.hid hV
  clear hR hf hV
  go_enter Tryz.func97, Tryz.ntmps97
  go_wp2_with fail
  go_loopg [8] l.length (fun gk iv wr => ∃ k : Nat, iv = .int .i64 (k : Int) ∧ gk = l.length - k ∧ k ≤ l.length ∧ Hid (Ext w wr) ∧ Hid (∀ j, j < k → p (dg l j) = false))
  case atStart => exact ⟨0, rfl, rfl, Nat.zero_le _, Lib.hid (Upd.refl _ _), Lib.hid (fun j h => absurd h (Nat.not_lt_zero _))⟩
  case round =>
    obtain ⟨k, rfl, rfl, hk, HE, HM⟩ := hrel
    by_cases hlt : k < l.length
    · obtain ⟨g, off, hga, _, hat⟩ := (HR.out.ext HE.out).at_ (by omega)
      subst hga
      obtain ⟨xa, xc, q0, q1, q2, hAr⟩ := hat k hlt
      have z0 : (0 : Int) ≤ (k : Int) := by omega
      have z1 : (k : Int) < (l.length : Int) := by omega
      have z2 : decide ((k : Int) < (l.length : Int)) = true := decide_eq_true z1
      have z2' : decide (k < l.length) = true := decide_eq_true hlt
      have HFX := Lib.hid (HF.out (dg l k) (by rw [dg_at hlt]; exact List.getElem_mem hlt) xa xc wr HE.out hAr)
      have HN : Hid (p (dg l k) = false → ∀ j, j < k + 1 → p (dg l j) = false) := Lib.hid (fun h j hj => by
        rcases Nat.lt_succ_iff_lt_or_eq.1 hj with h5 | h5
        · exact HM.out j h5
        · rw [h5]; exact h)
      have HY : Hid (p (dg l k) = true → V = (k : Int)) := Lib.hid (fun h => by rw [← HV.out]; exact fxI_at (d := (nul, [], nul)) hlt (fun j hj => HM.out j hj) h)
      obtain ⟨x, hx⟩ : ∃ x, dg l k = x := ⟨_, rfl⟩
      rw [hx] at q0 q1 q2 HFX HN HY
      obtain ⟨x1, x2, x3⟩ := x
      dsimp only at q0 q1 q2 HFX
      obtain ⟨b, hb⟩ : ∃ b, p (x1, x2, x3) = b := ⟨_, rfl⟩
      rw [hb] at HFX HN HY
      clear hat hx hb HM hAr
      go_wp2_with fail
      refine HFX.out.mono ?_
      rintro e w4 ⟨rfl, hw4⟩
      have H4 := Lib.hid (HE.out.trans hw4)
      clear hw4 q0 q1 q2 HFX HE
      cases b
      · have HN2 := Lib.hid (HN.out rfl)
        clear HN HY
        go_wp2_with fail
        go_roundg (l.length - (k + 1))
        case measure => omega
        case rel => exact ⟨k + 1, by go_num, rfl, by omega, H4, HN2⟩
      · have HY2 := Lib.hid (HY.out rfl)
        clear HN HY
        go_wp2_with fail
        go_ret
        rw [HY2.out]
        exact ⟨rfl, H4.out⟩
    · obtain rfl : k = l.length := by omega
      have z2 : decide ((l.length : Int) < (l.length : Int)) = false := decide_eq_false (by omega)
      have HY2 : Hid (V = -1) := Lib.hid (by rw [← HV.out]; exact fxI_none (d := (nul, [], nul)) (fun j hj => HM.out j hj))
      go_wp2_with fail
      go_ret
      rw [HY2.out]
      exact ⟨rfl, HE.out⟩
set_option maxRecDepth 100000 in
set_option maxHeartbeats 2000000 in
theorem conD90_x (p : Dc → Bool) (l : List Dc) (v : Value) (S : Nat → Prop) (q : Nat) (w : World) (hR : DcR S w v l) (hl : l.length ≤ 1000000)
    (hf : ∀ x ∈ l, ∀ xa xc W, Ext w W → StrR S W (.slice xa x.2.1.length xc) x.2.1 → Calls Tryz.prog 90 #[.agg #[.string x.1, .slice xa x.2.1.length xc, .string x.2.2], .pointer (some ⟨q, 0, none⟩)] W fun e W' => e = .returned (.bool (p x)) ∧ Ext W W') :
    Calls Tryz.prog 56 #[v, .func (.func 90) #[] #[.pointer (some ⟨q, 0, none⟩)]] w fun e w' => e = .returned (.bool (l.any p)) ∧ Ext w w' := by
  have HI := Lib.hid (idxD90_x p l v S q w hR hl hf)
  have HR := Lib.hid (fxI_any p l)
  generalize fxI p l = X at *
  clear hR hf
  go_enter Tryz.func56, Tryz.ntmps56
  go_wp2_with fail
  refine HI.out.mono ?_
  rintro e w4 ⟨rfl, hw4⟩
  have H4 := Lib.hid hw4
  clear hw4
  go_wp2_with fail
  go_ret
  rw [← HR.out]
  exact ⟨rfl, H4.out⟩
set_option maxRecDepth 100000 in
set_option maxHeartbeats 2000000 in
theorem conD57_x (p : Dc → Bool) (l : List Dc) (v : Value) (S : Nat → Prop) (q : Nat) (w : World) (hR : DcR S w v l) (hl : l.length ≤ 1000000)
    (hf : ∀ x ∈ l, ∀ xa xc W, Ext w W → StrR S W (.slice xa x.2.1.length xc) x.2.1 → Calls Tryz.prog 57 #[.agg #[.string x.1, .slice xa x.2.1.length xc, .string x.2.2], .pointer (some ⟨q, 0, none⟩)] W fun e W' => e = .returned (.bool (p x)) ∧ Ext W W') :
    Calls Tryz.prog 56 #[v, .func (.func 57) #[] #[.pointer (some ⟨q, 0, none⟩)]] w fun e w' => e = .returned (.bool (l.any p)) ∧ Ext w w' := by
  have HI := Lib.hid (idxD57_x p l v S q w hR hl hf)
  have HR := Lib.hid (fxI_any p l)
  generalize fxI p l = X at *
  clear hR hf
  go_enter Tryz.func56, Tryz.ntmps56
  go_wp2_with fail
  refine HI.out.mono ?_
  rintro e w4 ⟨rfl, hw4⟩
  have H4 := Lib.hid hw4
  clear hw4
  go_wp2_with fail
  go_ret
  rw [← HR.out]
  exact ⟨rfl, H4.out⟩
set_option maxRecDepth 100000 in
set_option maxHeartbeats 2000000 in
theorem eq90_x (x : Dc) (n : By) (q : Nat) (xa : Option Addr) (xc : Nat) (w : World) (hc : w.cell? ⟨q, 0, none⟩ = some (.string n)) :
    Calls Tryz.prog 90 #[.agg #[.string x.1, .slice xa x.2.1.length xc, .string x.2.2], .pointer (some ⟨q, 0, none⟩)] w fun e w' => e = .returned (.bool (decide (x.1 = n))) ∧ Ext w w' := by
  obtain ⟨x1, x2, x3⟩ := x
  dsimp only
  have HB := Lib.hid (alloc0 w (.cells #[.string x1, .slice xa x2.length xc, .string x3] 96))
  have HE := Lib.hid ((Upd.refl (fun _ => False) w).alloc (.cells #[.string x1, .slice xa x2.length xc, .string x3] 96))
  have c0 := cellRow HB.out 0 (.string x1) rfl
  have c1 := HE.out.cell hc (fun h => h)
  have e1 := str_dec x1 n
  obtain ⟨b, hb⟩ : ∃ b, decide (x1 = n) = b := ⟨_, rfl⟩
  rw [hb] at e1 ⊢
  clear hb hc
  go_enter Tryz.func90, Tryz.ntmps90
  go_wp2_with fail
  go_ret
  exact ⟨rfl, HE.out⟩
set_option maxRecDepth 100000 in
set_option maxHeartbeats 2000000 in
theorem eq135_x (x : Dc) (n : By) (q : Nat) (xa : Option Addr) (xc : Nat) (w : World) (hc : w.cell? ⟨q, 0, none⟩ = some (.string n)) :
    Calls Tryz.prog 135 #[.agg #[.string x.1, .slice xa x.2.1.length xc, .string x.2.2], .pointer (some ⟨q, 0, none⟩)] w fun e w' => e = .returned (.bool (decide (x.1 = n))) ∧ Ext w w' := by
  obtain ⟨x1, x2, x3⟩ := x
  dsimp only
  have HB := Lib.hid (alloc0 w (.cells #[.string x1, .slice xa x2.length xc, .string x3] 96))
  have HE := Lib.hid ((Upd.refl (fun _ => False) w).alloc (.cells #[.string x1, .slice xa x2.length xc, .string x3] 96))
  have c0 := cellRow HB.out 0 (.string x1) rfl
  have c1 := HE.out.cell hc (fun h => h)
  have e1 := str_dec x1 n
  obtain ⟨b, hb⟩ : ∃ b, decide (x1 = n) = b := ⟨_, rfl⟩
  rw [hb] at e1 ⊢
  clear hb hc
  go_enter Tryz.func135, Tryz.ntmps135
  go_wp2_with fail
  go_ret
  exact ⟨rfl, HE.out⟩
set_option maxRecDepth 100000 in
set_option maxHeartbeats 2000000 in
theorem unk_x (l : List By) (s : By) (q : Nat) (sa oa : Option Addr) (sc n oc : Nat) (S : Nat → Prop) (w : World) (hc : w.heap[q]? = some (.cells #[.slice sa l.length sc, .slice oa n oc] 42 (0, 0))) (hR : StR S w (.slice sa l.length sc) l) (hl : l.length ≤ 1000000) :
    Calls Tryz.prog 89 #[.string s, .pointer (some ⟨q, 0, none⟩)] w fun e w' => e = .returned (.bool (!decide (s ∈ l))) ∧ Ext w w' := by
  have HC := Lib.hid (con_x l s _ S w hR hl)
  have c0 := cellRow hc 0 (.slice sa l.length sc) rfl
  generalize decide (s ∈ l) = b at *
  clear hc hR
  go_enter Tryz.func89, Tryz.ntmps89
  go_wp2_with fail
  refine HC.out.mono ?_
  rintro e w4 ⟨rfl, hw4⟩
  have H4 := Lib.hid hw4
  clear hw4 c0
  go_wp2_with fail
  go_ret
  exact ⟨rfl, H4.out⟩
theorem long54_x (s : By) (w : World) : Calls Tryz.prog 54 #[.string s] w fun e w' => e = .returned (.bool (decide (100 < s.size))) ∧ Ext w w' := by
  go_enter Tryz.func54, Tryz.ntmps54
  go_wp2_with fail
  go_ret
  exact ⟨by simp; omega, Upd.refl _ _⟩

end Go.Proofs.YtjjaknmnhhfjeaaGreatDoor
