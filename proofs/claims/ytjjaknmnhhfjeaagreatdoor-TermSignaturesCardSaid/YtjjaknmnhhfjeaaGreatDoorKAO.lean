/- The texts Y2 Y3 Y4, one behind the other. -/
import Derived.Test.YtjjaknmnhhfjeaaGreatDoorKAN
import Derived.Test.YtjjaknmnhhfjeaaGreatDoorKAF
import Derived.Test.YtjjaknmnhhfjeaaGreatDoorKAL
import Derived.Test.YtjjaknmnhhfjeaaGreatDoorKAI
/- ValidSignature of the program. -/
namespace Go.Proofs.YtjjaknmnhhfjeaaGreatDoor
open Go.RowKit Go.Hw Go
set_option linter.unusedVariables false
set_option linter.unusedSimpArgs false

open Tm
theorem dCells_take : ∀ (k : Nat) (l : List Dc) (us : List Value), (dCells l us).take (k * 3) = dCells (l.take k) us
  | 0, l, us => by simp [dCells]
  | k + 1, [], us => by simp [dCells]
  | k + 1, d :: l, us => by
    rw [show (k + 1) * 3 = k * 3 + 1 + 1 + 1 by omega]
    simp only [dCells, List.take_succ_cons, dCells_take k l us.tail]
theorem dg_take {l : List Dc} {k i : Nat} (h : i < k) : dg (l.take k) i = dg l i := by
  unfold dg
  rw [List.getD_eq_getElem?_getD, List.getElem?_take_of_lt h, ← List.getD_eq_getElem?_getD]
theorem DcR.to {S : Nat → Prop} {w : World} {a : Option Addr} {n cap : Nat} {l : List Dc} (h : DcR S w (.slice a n cap) l) {k : Nat} (hk : k ≤ l.length) : DcR S w (.slice a k cap) (l.take k) := by
  obtain ⟨us, h1, h2⟩ := h
  have h3 := h1.to rfl k hk
  rw [dCells_take] at h3
  have hl : (l.take k).length = k := by rw [List.length_take, Nat.min_eq_left hk]
  refine ⟨us, by rw [hl]; exact h3, fun i hi => ?_⟩
  rw [hl] at hi
  rw [dg_take hi]
  exact h2 i (by omega)
theorem any_take {l : List Dc} {k : Nat} (hk : k < l.length) : ((l.take k).any fun x => decide (x.1 = (dg l k).1)) = !decide (dixN l (dg l k).1 = k) := by
  rw [Bool.eq_iff_iff, List.any_eq_true, Bool.not_eq_true', decide_eq_false_iff_not]
  constructor
  · rintro ⟨x, hx, h⟩ e
    obtain ⟨j, hj, rfl⟩ := List.mem_iff_getElem.1 hx
    have hj2 : j < k := by rw [List.length_take] at hj; omega
    have h2 := List.not_of_lt_findIdx (p := fun d : Dc => decide (d.1 = (dg l k).1)) (xs := l) (i := j) (by have : (l.findIdx fun d => decide (d.1 = (dg l k).1)) = k := e; rw [this]; exact hj2)
    rw [List.getElem_take] at h
    rw [h] at h2
    cases h2
  · intro h
    refine Classical.byContradiction fun h2 => h (dixN_of hk (fun j hj e => h2 ⟨dg l j, ?_, decide_eq_true e⟩) rfl)
    rw [dg_at (by omega)]
    exact List.mem_iff_getElem.2 ⟨j, by rw [List.length_take]; omega, by rw [List.getElem_take]⟩
set_option maxRecDepth 100000 in
set_option maxHeartbeats 2000000 in
theorem pvsig_x (g : Sg) (v : Value) (S : Nat → Prop) (w : World) (hG : SgR S w g v) (htab : AscT w) (hl1 : g.1.length ≤ 1000000) (hl2 : g.2.length ≤ 1000000) (hl3 : ∀ d ∈ g.2, d.2.1.length ≤ 1000000) : Calls Tryz.prog 34 #[v] w fun e w' => e = .returned (.bool (vsgB nmB g)) ∧ Ext w w' := by
  have HG := Lib.hid hG
  obtain ⟨sa, sc, oa, oc, rfl, hS1, hD⟩ := hG
  have HTAB := Lib.hid htab
  have HL3 := Lib.hid hl3
  have HS1 := Lib.hid hS1
  have HD := Lib.hid hD
  have HZ := Lib.hid ((Upd.refl (fun _ => False) w).alloc (.cells #[.slice sa g.1.length sc, .slice oa g.2.length oc] 42))
  have HB := Lib.hid (alloc0 w (.cells #[.slice sa g.1.length sc, .slice oa g.2.length oc] 42))
  have c0 := cellRow HB.out 0 (.slice sa g.1.length sc) rfl
  have c1 := cellRow HB.out 1 (.slice oa g.2.length oc) rfl
  have hsc : g.1.length ≤ sc := SlR.le_cap hS1 rfl
  have hoc : g.2.length ≤ oc := by obtain ⟨us, h1, _⟩ := hD; exact SlR.le_cap h1 rfl
  obtain ⟨V, hV⟩ : ∃ V, vsgB nmB g = V := ⟨_, rfl⟩
  have HVV := Lib.hid hV.symm
  rw [hV]
  clear hS1 hD hV htab hl3
  by_cases hb1 : 40 < g.1.length
  · have HV : Hid (V = false) := Lib.hid (by rw [HVV.out]; unfold vsgB; rw [decide_eq_false (by omega)]; rfl)
    have z1 : (40 : Int) < (g.1.length : Int) := by omega
    have z1' : decide ((40 : Int) < (g.1.length : Int)) = true := decide_eq_true z1
    go_enter Tryz.func34, Tryz.ntmps34
    go_wp2_with fail
    all_goals go_ret
    all_goals (rw [HV.out]; exact ⟨rfl, HZ.out⟩)
  have z1 : ¬ (40 : Int) < (g.1.length : Int) := by omega
  have z1' : decide ((40 : Int) < (g.1.length : Int)) = false := decide_eq_false z1
  by_cases hb2 : 100 < g.2.length
  · have HV : Hid (V = false) := Lib.hid (by rw [HVV.out]; unfold vsgB; rw [decide_eq_false (p := g.2.length ≤ 100) (by omega)]; simp)
    have z2 : (100 : Int) < (g.2.length : Int) := by omega
    have z2' : decide ((100 : Int) < (g.2.length : Int)) = true := decide_eq_true z2
    go_enter Tryz.func34, Tryz.ntmps34
    go_wp2_with fail
    all_goals go_ret
    all_goals (rw [HV.out]; exact ⟨rfl, HZ.out⟩)
  have z2 : ¬ (100 : Int) < (g.2.length : Int) := by omega
  have z2' : decide ((100 : Int) < (g.2.length : Int)) = false := decide_eq_false z2
  obtain ⟨b0, hb0⟩ : ∃ b0, w.heap.size = b0 := ⟨_, rfl⟩
  try rw [hb0] at HB
  go_enter Tryz.func34, Tryz.ntmps34
  go_wp2_with fail
  clear z1 z1' z2 z2' c0 c1
  generalize w.alloc (.cells #[.slice sa g.1.length sc, .slice oa g.2.length oc] 42) = w1 at *
  try rw [hb0]
  clear hb0
  go_loopg [21] g.1.length (fun gk iv wr => ∃ k : Nat, iv = .int .i64 (k : Int) ∧ gk = g.1.length - k ∧ k ≤ g.1.length ∧ Hid (∀ j, j < k → nmB (g.1.getD j nul) = true ∧ g.1.getD j nul ∉ g.1.take j) ∧ Hid (Ext w1 wr))
  case atStart => exact ⟨0, rfl, rfl, Nat.zero_le _, Lib.hid (fun j h => absurd h (Nat.not_lt_zero _)), Lib.hid (Upd.refl _ _)⟩
  case round =>
    obtain ⟨k, rfl, rfl, hk, HC, HE⟩ := hrel
    have HBr := Lib.hid (HE.out.heap HB.out (fun h => h))
    have c0 := cellRow HBr.out 0 (.slice sa g.1.length sc) rfl
    have c1 := cellRow HBr.out 1 (.slice oa g.2.length oc) rfl
    by_cases hlt : k < g.1.length
    · have HRk := Lib.hid ((StR.ext HS1.out (HZ.out.trans HE.out)).to (k := k) (by omega))
      have hcap : k ≤ sc := Nat.le_trans hk hsc
      obtain ⟨gg, off, hga, _, hat⟩ := StR.at_ (StR.ext HS1.out (HZ.out.trans HE.out)) (by omega)
      subst hga
      have q0 := hat k hlt
      have z0 : (0 : Int) ≤ (k : Int) := by omega
      have z1 : (k : Int) < (g.1.length : Int) := by omega
      have z2 : decide ((k : Int) < (g.1.length : Int)) = true := decide_eq_true z1
      have z2' : decide (k < g.1.length) = true := decide_eq_true hlt
      have z3 : (k : Int) ≤ (g.1.length : Int) := by omega
      clear hat
      obtain ⟨x, hx⟩ : ∃ x, bg g.1 k = x := ⟨_, rfl⟩
      have HX := Lib.hid hx
      rw [hx] at q0
      clear hx
      have HIN := Lib.hid (isName_x x wr (asc_ext HTAB.out (HZ.out.trans HE.out)))
      have HCO := Lib.hid (fun W (hW : Ext wr W) => con_x (g.1.take k) x _ S W (StR.ext HRk.out hW) (by rw [List.length_take]; omega))
      have htl : (g.1.take k).length = k := by rw [List.length_take]; omega
      have HST : Hid (nmB x = false ∨ x ∈ g.1.take k → V = false) := Lib.hid (fun h => by rw [HVV.out]; exact vsg_sorts hlt (by rw [show g.1.getD k nul = x from HX.out]; exact h))
      have HON : Hid (nmB x = true → x ∉ g.1.take k → ∀ j, j < k + 1 → nmB (g.1.getD j nul) = true ∧ g.1.getD j nul ∉ g.1.take j) := Lib.hid (fun h1 h2 j hj => by
        rcases Nat.lt_succ_iff_lt_or_eq.1 hj with h5 | h5
        · exact HC.out j h5
        · rw [h5, show g.1.getD k nul = x from HX.out]; exact ⟨h1, h2⟩)
      obtain ⟨b1, hb1⟩ : ∃ b, nmB x = b := ⟨_, rfl⟩
      rw [hb1] at HIN HST HON
      obtain ⟨b2, hb2⟩ : ∃ b, decide (x ∈ g.1.take k) = b := ⟨_, rfl⟩
      rw [hb2] at HCO
      have HB2 := Lib.hid hb2
      have HEZ := Lib.hid (HZ.out.trans HE.out)
      clear hb1 hb2
      go_wp2_with fail
      refine HIN.out.mono ?_
      rintro e w4 ⟨rfl, hw4⟩
      have HCO4 := Lib.hid (HCO.out w4 hw4)
      have H4 := Lib.hid (HEZ.out.trans hw4)
      have HX4 := Lib.hid (HE.out.trans hw4)
      have HB4 := Lib.hid (hw4.heap HBr.out (fun h => h))
      clear hw4 q0 c0 c1 HIN HCO
      have c0 := cellRow HB4.out 0 (.slice (some ⟨gg, off, none⟩) g.1.length sc) rfl
      cases b1
      · have HV := Lib.hid (HST.out (.inl rfl))
        go_wp2_with fail
        all_goals go_ret
        all_goals (rw [HV.out]; exact ⟨rfl, H4.out⟩)
      · go_wp2_with fail
        try rw [htl] at HCO4
        refine HCO4.out.mono ?_
        rintro e w5 ⟨rfl, hw5⟩
        have H5 := Lib.hid (H4.out.trans hw5)
        have HX5 := Lib.hid (HX4.out.trans hw5)
        clear hw5 c0
        cases b2
        · have HN := Lib.hid (HON.out (by simp) (of_decide_eq_false HB2.out))
          clear HON HST
          go_wp2_with fail
          go_roundg (g.1.length - (k + 1))
          case measure => omega
          case rel => exact ⟨k + 1, by go_num, rfl, by omega, HN, HX5⟩
        · have HV := Lib.hid (HST.out (.inr (of_decide_eq_true HB2.out)))
          go_wp2_with fail
          all_goals go_ret
          all_goals (rw [HV.out]; exact ⟨rfl, H5.out⟩)
    · obtain rfl : k = g.1.length := by omega
      have z2 : decide ((g.1.length : Int) < (g.1.length : Int)) = false := decide_eq_false (by omega)
      have HSO := HC
      have H1 := Lib.hid (HZ.out.trans HE.out)
      clear HC HE HB
      go_wp2_with fail
      clear z2 c0 c1
      obtain ⟨wa, hwa⟩ : ∃ wa, wa = wr := ⟨_, rfl⟩
      have HR0 : Hid (Ext wa wr) := Lib.hid (by rw [hwa]; exact Upd.refl _ _)
      rw [← hwa] at H1 HBr
      clear hwa
      go_loopg [42] g.2.length (fun gk iv wr => ∃ k : Nat, iv = .int .i64 (k : Int) ∧ gk = g.2.length - k ∧ k ≤ g.2.length ∧ Hid (∀ j, j < k → okD nmB g j = true) ∧ Hid (Ext wa wr))
      case atStart => exact ⟨0, rfl, rfl, Nat.zero_le _, Lib.hid (fun j h => absurd h (Nat.not_lt_zero _)), HR0⟩
      case round =>
        clear HR0
        obtain ⟨k, rfl, rfl, hk, HC, HE⟩ := hrel
        have HB2 := Lib.hid (HE.out.heap HBr.out (fun h => h))
        have c0 := cellRow HB2.out 0 (.slice sa g.1.length sc) rfl
        have c1 := cellRow HB2.out 1 (.slice oa g.2.length oc) rfl
        by_cases hlt : k < g.2.length
        · have HDk := Lib.hid (DcR.to (HD.out.ext (H1.out.trans HE.out)) (k := k) (by omega))
          have hcap : k ≤ oc := Nat.le_trans hk hoc
          have htl : (g.2.take k).length = k := by rw [List.length_take]; omega
          have HTK := Lib.hid (any_take hlt)
          have hdm : (dg g.2 k).2.1.length ≤ 1000000 := HL3.out _ (by rw [dg_at hlt]; exact List.getElem_mem hlt)
          obtain ⟨gg, off, hga, _, hat⟩ := (HD.out.ext (H1.out.trans HE.out)).at_ (by omega)
          subst hga
          obtain ⟨xa, xc, q0, q1, q2, hAr⟩ := hat k hlt
          have z0 : (0 : Int) ≤ (k : Int) := by omega
          have z1 : (k : Int) < (g.2.length : Int) := by omega
          have z2 : decide ((k : Int) < (g.2.length : Int)) = true := decide_eq_true z1
          have z2' : decide (k < g.2.length) = true := decide_eq_true hlt
          have z3 : (k : Int) ≤ (g.2.length : Int) := by omega
          have HOK : Hid (okD nmB g k = (nmB (dg g.2 k).1 && (decide (dixN g.2 (dg g.2 k).1 = k) && (decide ((dg g.2 k).2.1.length ≤ 6) && (decide ((dg g.2 k).2.2 ∈ g.1) && (dg g.2 k).2.1.all fun s => decide (s ∈ g.1)))))) := Lib.hid rfl
          have HYES : Hid (okD nmB g k = true → ∀ j, j < k + 1 → okD nmB g j = true) := Lib.hid (fun h j hj => by
            rcases Nat.lt_succ_iff_lt_or_eq.1 hj with h5 | h5
            · exact HC.out j h5
            · rw [h5]; exact h)
          have HNOT : Hid (okD nmB g k = false → V = false) := Lib.hid (fun h => by rw [HVV.out]; exact vsg_op hlt h)
          obtain ⟨⟨dn, da, dr⟩, hdd⟩ : ∃ d, dg g.2 k = d := ⟨_, rfl⟩
          rw [hdd] at q0 q1 q2 HOK hAr HTK hdm
          dsimp only at q0 q1 q2 HOK hAr HTK hdm
          have hQ := (Upd.refl (fun _ => False) wr).alloc (.cells #[.string dn, .slice xa da.length xc, .string dr] 96)
          have HQ := Lib.hid (H1.out.trans (HE.out.trans hQ))
          have HAQ := Lib.hid (SlR.kept hAr hQ (fun _ _ h => h))
          have HEQ := Lib.hid (HE.out.trans hQ)
          have HBD := Lib.hid (alloc0 wr (.cells #[.string dn, .slice xa da.length xc, .string dr] 96))
          have HBG := Lib.hid (hQ.heap HB2.out (fun h => h))
          have HDQ := Lib.hid (HDk.out.ext hQ)
          clear hat hdd hAr hQ HC HDk
          have d0 := cellRow HBD.out 0 (.string dn) rfl
          have d1 := cellRow HBD.out 1 (.slice xa da.length xc) rfl
          have d2 := cellRow HBD.out 2 (.string dr) rfl
          have e0 := cellRow HBG.out 0 (.slice sa g.1.length sc) rfl
          have HIN := Lib.hid (isName_x dn (wr.alloc (.cells #[.string dn, .slice xa da.length xc, .string dr] 96)) (asc_ext HTAB.out HQ.out))
          obtain ⟨nd, hnd⟩ : ∃ nd, wr.heap.size = nd := ⟨_, rfl⟩
          try rw [hnd] at HBD d0 d1 d2
          go_wp2_with fail
          clear c0 c1 q0 q1 q2 e0 d0 d1 d2
          generalize wr.alloc (.cells #[.string dn, .slice xa da.length xc, .string dr] 96) = w4 at *
          try rw [hnd]
          clear hnd
          have H4 := HQ
          have HBD4 := HBD
          have HBG4 := HBG
          have c0 := cellRow HBG4.out 0 (.slice sa g.1.length sc) rfl
          have c1 := cellRow HBG4.out 1 (.slice (some ⟨gg, off, none⟩) g.2.length oc) rfl
          have d0 := cellRow HBD4.out 0 (.string dn) rfl
          have d1 := cellRow HBD4.out 1 (.slice xa da.length xc) rfl
          have d2 := cellRow HBD4.out 2 (.string dr) rfl
          refine HIN.out.mono ?_
          rintro e w5 ⟨rfl, hw5⟩
          have H5 := Lib.hid (H4.out.trans hw5)
          have HX5 := Lib.hid hw5
          have HBG5 := Lib.hid (hw5.heap HBG4.out (fun h => h))
          have HBD5 := Lib.hid (hw5.heap HBD4.out (fun h => h))
          clear hw5 c0 c1 d0 d1 d2 HIN
          have c0 := cellRow HBG5.out 0 (.slice sa g.1.length sc) rfl
          have c1 := cellRow HBG5.out 1 (.slice (some ⟨gg, off, none⟩) g.2.length oc) rfl
          have d0 := cellRow HBD5.out 0 (.string dn) rfl
          have d1 := cellRow HBD5.out 1 (.slice xa da.length xc) rfl
          have d2 := cellRow HBD5.out 2 (.string dr) rfl
          obtain ⟨b1, hb1⟩ : ∃ b, nmB dn = b := ⟨_, rfl⟩
          rw [hb1] at HOK ⊢
          clear hb1
          cases b1
          · have HV := Lib.hid (HNOT.out (by rw [HOK.out]; rfl))
            go_wp2_with fail
            all_goals go_ret
            all_goals (rw [HV.out]; exact ⟨rfl, H5.out⟩)
          by_cases hd6 : 6 < da.length
          · have HV := Lib.hid (HNOT.out (by rw [HOK.out, decide_eq_false (p := da.length ≤ 6) (by omega)]; simp))
            have y3 : (6 : Int) < (da.length : Int) := by omega
            have y3' : decide ((6 : Int) < (da.length : Int)) = true := decide_eq_true y3
            clear hd6
            go_wp2_with fail
            all_goals go_ret
            all_goals (rw [HV.out]; exact ⟨rfl, H5.out⟩)
          have y3 : ¬ (6 : Int) < (da.length : Int) := by omega
          have y3' : decide ((6 : Int) < (da.length : Int)) = false := decide_eq_false y3
          have HOK2 : Hid (okD nmB g k = (decide (dixN g.2 dn = k) && (decide (dr ∈ g.1) && da.all fun s => decide (s ∈ g.1)))) := Lib.hid (by rw [HOK.out, decide_eq_true (p := da.length ≤ 6) (by omega)]; simp)
          have HUN := Lib.hid (fun (s : By) W (hW : Ext w5 W) => unk_x g.1 s b0 sa (some ⟨gg, off, none⟩) sc g.2.length oc S W (hW.heap HBG5.out (fun h => h)) (StR.ext HS1.out (H5.out.trans hW)) hl1)
          have HU1 := Lib.hid (HUN.out dr w5 (Upd.refl _ _))
          have HU2 := Lib.hid (fun W (hW : Ext w5 W) => conS89_x (fun s => !decide (s ∈ g.1)) da _ S b0 W (SlR.kept HAQ.out (HX5.out.trans hW) (fun _ _ h => h)) hdm (fun s _ W2 hW2 => (HUN.out s W2 (hW.trans hW2))))
          clear HOK hd6 HUN HBG4 HBD4
          go_wp2_with fail
          refine HU1.out.mono ?_
          rintro e w6 ⟨rfl, hw6⟩
          have H6 := Lib.hid (H5.out.trans hw6)
          have HX6 := Lib.hid (HX5.out.trans hw6)
          have HU6 := Lib.hid (HU2.out w6 hw6)
          have HBG6 := Lib.hid (hw6.heap HBG5.out (fun h => h))
          have HBD6 := Lib.hid (hw6.heap HBD5.out (fun h => h))
          clear hw6 c0 c1 d0 d1 d2 HU1 HU2 y3 y3' HBG5 HBD5
          have c0 := cellRow HBG6.out 0 (.slice sa g.1.length sc) rfl
          have c1 := cellRow HBG6.out 1 (.slice (some ⟨gg, off, none⟩) g.2.length oc) rfl
          have d0 := cellRow HBD6.out 0 (.string dn) rfl
          have d1 := cellRow HBD6.out 1 (.slice xa da.length xc) rfl
          have d2 := cellRow HBD6.out 2 (.string dr) rfl
          by_cases hm : dr ∈ g.1
          case neg =>
            have HV := Lib.hid (HNOT.out (by rw [HOK2.out, decide_eq_false hm]; simp))
            rw [decide_eq_false hm]
            clear hm
            go_wp2_with fail
            all_goals go_ret
            all_goals (rw [HV.out]; exact ⟨rfl, H6.out⟩)
          have HOK3 : Hid (okD nmB g k = (decide (dixN g.2 dn = k) && !da.any fun s => !decide (s ∈ g.1))) := Lib.hid (by
            rw [HOK2.out, decide_eq_true hm, Bool.true_and]
            congr 1
            rw [List.any_eq_not_all_not]
            simp)
          rw [decide_eq_true hm]
          clear hm HOK2
          go_wp2_with fail
          refine HU6.out.mono ?_
          rintro e w7 ⟨rfl, hw7⟩
          have H7 := Lib.hid (H6.out.trans hw7)
          have HX7 := Lib.hid (HX6.out.trans hw7)
          have HBG7 := Lib.hid (hw7.heap HBG6.out (fun h => h))
          have HBD7 := Lib.hid (hw7.heap HBD6.out (fun h => h))
          clear hw7 c0 c1 d0 d1 d2 HU6 HBG6 HBD6
          have c0 := cellRow HBG7.out 0 (.slice sa g.1.length sc) rfl
          have c1 := cellRow HBG7.out 1 (.slice (some ⟨gg, off, none⟩) g.2.length oc) rfl
          have d0 := cellRow HBD7.out 0 (.string dn) rfl
          have d1 := cellRow HBD7.out 1 (.slice xa da.length xc) rfl
          have d2 := cellRow HBD7.out 2 (.string dr) rfl
          obtain ⟨b3, hb3⟩ : ∃ b, (da.any fun s => !decide (s ∈ g.1)) = b := ⟨_, rfl⟩
          rw [hb3] at HOK3 ⊢
          clear hb3
          cases b3
          case true =>
            have HV := Lib.hid (HNOT.out (by rw [HOK3.out]; simp))
            go_wp2_with fail
            all_goals go_ret
            all_goals (rw [HV.out]; exact ⟨rfl, H7.out⟩)
          have HOK4 : Hid (okD nmB g k = decide (dixN g.2 dn = k)) := Lib.hid (by rw [HOK3.out]; simp)
          have HCD := Lib.hid (conD90_x (fun x => decide (x.1 = dn)) (g.2.take k) _ S nd w7 (HDQ.out.ext HX7.out) (by rw [htl]; omega) (fun x _ ya yc W hW _ => eq90_x x dn nd ya yc W (hW.cell d0 (fun h => h))))
          rw [HTK.out] at HCD
          clear HOK3 HTK
          go_wp2_with fail
          try rw [htl] at HCD
          refine HCD.out.mono ?_
          rintro e w8 ⟨rfl, hw8⟩
          have H8 := Lib.hid (H7.out.trans hw8)
          have HX8 := Lib.hid (HEQ.out.trans (HX7.out.trans hw8))
          clear hw8 c0 c1 d0 d1 d2 HCD HBG7 HBD7
          obtain ⟨b4, hb4⟩ : ∃ b, decide (dixN g.2 dn = k) = b := ⟨_, rfl⟩
          rw [hb4] at HOK4 ⊢
          clear hb4
          cases b4
          · have HV := Lib.hid (HNOT.out HOK4.out)
            go_wp2_with fail
            all_goals go_ret
            all_goals (rw [HV.out]; exact ⟨rfl, H8.out⟩)
          · have HN := Lib.hid (HYES.out HOK4.out)
            clear HNOT HYES HOK4
            go_wp2_with fail
            go_roundg (g.2.length - (k + 1))
            case measure => omega
            case rel => exact ⟨k + 1, by go_num, rfl, by omega, HN, HX8⟩
        · obtain rfl : k = g.2.length := by omega
          have z2 : decide ((g.2.length : Int) < (g.2.length : Int)) = false := decide_eq_false (by omega)
          have HV : Hid (V = true) := Lib.hid (by rw [HVV.out]; exact vsg_yes (by omega) (by omega) HSO.out HC.out)
          have H9 := Lib.hid (H1.out.trans HE.out)
          go_wp2_with fail
          all_goals go_ret
          all_goals (rw [HV.out]; exact ⟨rfl, H9.out⟩)

end Go.Proofs.YtjjaknmnhhfjeaaGreatDoor

/- declared, own and wrong of the program. -/
namespace Go.Proofs.YtjjaknmnhhfjeaaGreatDoor
open Go.RowKit Go.Hw Go
set_option linter.unusedVariables false
set_option linter.unusedSimpArgs false

open Tm
def dclF (g : Sg) (s : By) : Dc × Bool := if dixN g.2 s < g.2.length then (dg g.2 (dixN g.2 s), true) else ((nul, [], nul), false)
set_option maxRecDepth 100000 in
set_option maxHeartbeats 2000000 in
theorem declared_x (g : Sg) (s : By) (v : Value) (S : Nat → Prop) (w : World) (hG : SgR S w g v) (hS : ∀ k, S k → k < w.heap.size) (hl : g.2.length ≤ 1000000) :
    Calls Tryz.prog 115 #[v, .string s] w fun e w' => ∃ xa xc, e = .returned (.tuple #[.agg #[.string (dclF g s).1.1, .slice xa (dclF g s).1.2.1.length xc, .string (dclF g s).1.2.2], .bool (dclF g s).2]) ∧ StrR S w' (.slice xa (dclF g s).1.2.1.length xc) (dclF g s).1.2.1 ∧ Ext w w' := by
  obtain ⟨sa, sc, oa, oc, rfl, hS1, hD⟩ := hG
  have HD := Lib.hid hD
  have HSB := Lib.hid hS
  have hZ := (((Upd.refl (fun _ => False) w).alloc (.cells #[.slice sa g.1.length sc, .slice oa g.2.length oc] 42)).alloc (.cells #[.string s] 9)).alloc (.cells #[.string ⟨#[]⟩, .slice none 0 0, .string ⟨#[]⟩] 96)
  have HZ := Lib.hid hZ
  have HB0 := Lib.hid (allocOld (allocOld (alloc0 w (.cells #[.slice sa g.1.length sc, .slice oa g.2.length oc] 42)) (.cells #[.string s] 9)) (.cells #[.string ⟨#[]⟩, .slice none 0 0, .string ⟨#[]⟩] 96))
  have HB1 := Lib.hid (allocOld (alloc_at (w.alloc (.cells #[.slice sa g.1.length sc, .slice oa g.2.length oc] 42)) (.cells #[.string s] 9) (n := w.heap.size + 1) (by simp)) (.cells #[.string ⟨#[]⟩, .slice none 0 0, .string ⟨#[]⟩] 96))
  have HB2 := Lib.hid (alloc_at ((w.alloc (.cells #[.slice sa g.1.length sc, .slice oa g.2.length oc] 42)).alloc (.cells #[.string s] 9)) (.cells #[.string ⟨#[]⟩, .slice none 0 0, .string ⟨#[]⟩] 96) (n := w.heap.size + 2) (by simp))
  have HDF : Hid (dclF g s = if dixN g.2 s < g.2.length then (dg g.2 (dixN g.2 s), true) else ((nul, [], nul), false)) := Lib.hid rfl
  have HIX := Lib.hid (idxD135_x (fun d => decide (d.1 = s)) g.2 _ S (w.heap.size + 1) (((w.alloc (.cells #[.slice sa g.1.length sc, .slice oa g.2.length oc] 42)).alloc (.cells #[.string s] 9)).alloc (.cells #[.string ⟨#[]⟩, .slice none 0 0, .string ⟨#[]⟩] 96)) (hD.ext hZ) hl (fun x _ ya yc W hW _ => eq135_x x s _ ya yc W (cellRow (hW.heap HB1.out (fun h => h)) 0 (.string s) rfl)))
  have c1 := cellRow HB0.out 1 (.slice oa g.2.length oc) rfl
  rw [← dix_fx] at HIX
  obtain ⟨D, hDv⟩ : ∃ D, dclF g s = D := ⟨_, rfl⟩
  rw [hDv] at HDF ⊢
  clear hS1 hD hZ hS hDv
  by_cases hd : dixN g.2 s < g.2.length
  · have hdi : dixI g.2 s = (dixN g.2 s : Int) := by unfold dixI; rw [if_pos hd]
    rw [hdi] at HIX
    rw [if_pos hd] at HDF
    obtain ⟨k, hkk⟩ : ∃ k, dixN g.2 s = k := ⟨_, rfl⟩
    rw [hkk] at hd HDF HIX
    have z0 : ¬ (k : Int) < 0 := by omega
    have z0b : decide ((k : Int) < 0) = false := decide_eq_false z0
    have z0' : (0 : Int) ≤ (k : Int) := by omega
    have z1 : (k : Int) < (g.2.length : Int) := by omega
    clear hdi hkk HB1
    go_enter Tryz.func115, Tryz.ntmps115
    go_wp2_with fail
    refine HIX.out.mono ?_
    rintro e w4 ⟨rfl, hw4⟩
    have H4 := Lib.hid (HZ.out.trans hw4)
    have HB04 := Lib.hid (hw4.heap HB0.out (fun h => h))
    have HB24 := Lib.hid (hw4.heap HB2.out (fun h => h))
    obtain ⟨gg, off, hga, _, hat⟩ := (HD.out.ext H4.out).at_ (by omega)
    subst hga
    obtain ⟨xa, xc, q0, q1, q2, hAr⟩ := hat k hd
    have HAr := Lib.hid hAr
    have h4s := hw4.size
    clear hw4 c1 HIX hat HB0 HB2 hAr
    have c1 := cellRow HB04.out 1 (.slice (some ⟨gg, off, none⟩) g.2.length oc) rfl
    have f2 := fun i => frozenRow HB24.out i
    have t0 := cellRow HB24.out 0 (.string ⟨#[]⟩) rfl
    have t1 := cellRow HB24.out 1 (.slice none 0 0) rfl
    have t2 := cellRow HB24.out 2 (.string ⟨#[]⟩) rfl
    obtain ⟨x, hx⟩ : ∃ x, dg g.2 k = x := ⟨_, rfl⟩
    rw [hx] at q0 q1 q2 HDF HAr
    obtain ⟨x1, x2, x3⟩ := x
    dsimp only at q0 q1 q2 HAr
    clear hx
    go_wp2_with fail
    have hr3 := st3_heap HB24.out (.string x1) (.slice xa x2.length xc) (.string x3)
    have hu := st3_upd' w4 (w.heap.size + 2) (.string x1) (.slice xa x2.length xc) (.string x3)
    have e0 := cellRow hr3 0 _ rfl
    have e1 := cellRow hr3 1 _ rfl
    have e2 := cellRow hr3 2 _ rfl
    refine bodyPost_ret (v := .tuple #[.agg #[.string x1, .slice xa x2.length xc, .string x3], .bool true]) (by simp [results, Tryz.results115, go_sem, e0, e1, e2]) rfl ?_
    have hue := H4.out.trans' hu (fun j hj e => by omega)
    rw [HDF.out]
    exact ⟨xa, xc, rfl, SlR.kept HAr.out hu (fun j hj e => by have := HSB.out j hj; omega), hue⟩
  · have hdi : dixI g.2 s = -1 := by unfold dixI; rw [if_neg hd]
    rw [hdi] at HIX
    rw [if_neg hd] at HDF
    clear hdi hd HB1
    go_enter Tryz.func115, Tryz.ntmps115
    go_wp2_with fail
    refine HIX.out.mono ?_
    rintro e w4 ⟨rfl, hw4⟩
    have H4 := Lib.hid (HZ.out.trans hw4)
    have HB24 := Lib.hid (hw4.heap HB2.out (fun h => h))
    have h4s := hw4.size
    clear hw4 c1 HIX HB0 HB2
    have f2 := fun i => frozenRow HB24.out i
    have t0 := cellRow HB24.out 0 (.string ⟨#[]⟩) rfl
    have t1 := cellRow HB24.out 1 (.slice none 0 0) rfl
    have t2 := cellRow HB24.out 2 (.string ⟨#[]⟩) rfl
    go_wp2_with fail
    have hr3 := st3_heap HB24.out (.string ⟨#[]⟩) (.slice none 0 0) (.string ⟨#[]⟩)
    have hu := st3_upd' w4 (w.heap.size + 2) (.string ⟨#[]⟩) (.slice none 0 0) (.string ⟨#[]⟩)
    have e0 := cellRow hr3 0 _ rfl
    have e1 := cellRow hr3 1 _ rfl
    have e2 := cellRow hr3 2 _ rfl
    refine bodyPost_ret (v := .tuple #[.agg #[.string ⟨#[]⟩, .slice none 0 0, .string ⟨#[]⟩], .bool false]) (by simp [results, Tryz.results115, go_sem, e0, e1, e2]) rfl ?_
    have hue := H4.out.trans' hu (fun j hj e => by omega)
    rw [HDF.out]
    exact ⟨none, 0, rfl, SlR.nil _ _ _, hue⟩

def ownP (g : Sg) (t : Tm) : By × Bool := if t.sort ≠ nul then (t.sort, true) else ((dclF g t.name).1.2.2, (dclF g t.name).2)
set_option maxRecDepth 100000 in
set_option maxHeartbeats 2000000 in
theorem pown_x (g : Sg) (t : Tm) (v u : Value) (S T : Nat → Prop) (w : World) (hG : SgR S w g v) (hS : ∀ k, S k → k < w.heap.size) (hT : TmR T w t u) (hl : g.2.length ≤ 1000000) :
    Calls Tryz.prog 82 #[v, u] w fun e w' => e = .returned (.tuple #[.string (ownP g t).1, .bool (ownP g t).2]) ∧ Ext w w' := by
  have HDX := Lib.hid (fun s W (hW : Ext w W) => declared_x g s v S W (hG.ext hW) (fun k hk => Nat.lt_of_lt_of_le (hS k hk) hW.size) hl)
  obtain ⟨sa, sc, oa, oc, rfl, _, _⟩ := hG
  obtain ⟨a, cap, rfl, hT⟩ := hT
  obtain ⟨nm, so, L⟩ := t
  dsimp only [tV, Tm.name, Tm.sort, Tm.kids]
  have HZ := Lib.hid (((Upd.refl (fun _ => False) w).alloc (.cells #[.slice sa g.1.length sc, .slice oa g.2.length oc] 42)).alloc (.cells #[.string nm, .string so, .slice a L.length cap] 24))
  have HB1 := Lib.hid (allocOld (alloc0 w (.cells #[.slice sa g.1.length sc, .slice oa g.2.length oc] 42)) (.cells #[.string nm, .string so, .slice a L.length cap] 24))
  have HB2 := Lib.hid (alloc_at (w.alloc (.cells #[.slice sa g.1.length sc, .slice oa g.2.length oc] 42)) (.cells #[.string nm, .string so, .slice a L.length cap] 24) (n := w.heap.size + 1) (by simp))
  have c0 := cellRow HB1.out 0 (.slice sa g.1.length sc) rfl
  have c1 := cellRow HB1.out 1 (.slice oa g.2.length oc) rfl
  have t0 := cellRow HB2.out 0 (.string nm) rfl
  have t1 := cellRow HB2.out 1 (.string so) rfl
  have HU : Hid (ownP g (.mk nm so L) = if so ≠ nul then (so, true) else ((dclF g nm).1.2.2, (dclF g nm).2)) := Lib.hid rfl
  obtain ⟨V, hV⟩ : ∃ V, ownP g (.mk nm so L) = V := ⟨_, rfl⟩
  rw [hV] at HU ⊢
  clear hT hV
  by_cases hs0 : so.size = 0
  · have hse := empty_is _ hs0
    subst hse
    have HU2 : Hid (V = ((dclF g nm).1.2.2, (dclF g nm).2)) := Lib.hid (by rw [HU.out, if_neg (by simp [nul])])
    have HFX := Lib.hid (HDX.out nm _ HZ.out)
    clear HU HDX hs0
    obtain ⟨⟨⟨d1, d2, d3⟩, db⟩, hd⟩ : ∃ d, dclF g nm = d := ⟨_, rfl⟩
    rw [hd] at HU2 HFX
    dsimp only at HU2 HFX
    clear hd
    go_enter Tryz.func82, Tryz.ntmps82
    go_wp2_with fail
    refine HFX.out.mono ?_
    rintro e w4 ⟨xa, xc, rfl, _, hw4⟩
    have H4 := Lib.hid (HZ.out.trans (hw4.alloc (.cells #[.string d1, .slice xa d2.length xc, .string d3] 96)))
    have HB4 := Lib.hid (alloc0 w4 (.cells #[.string d1, .slice xa d2.length xc, .string d3] 96))
    have q2 := cellRow HB4.out 2 (.string d3) rfl
    clear hw4 c0 c1 t0 t1 HFX HB1 HB2
    go_wp2_with fail
    go_ret2
    rw [HU2.out]
    exact ⟨rfl, H4.out⟩
  · obtain ⟨n1, n2, n3, n4⟩ := nonempty_t so (by omega)
    have HU2 : Hid (V = (so, true)) := Lib.hid (by rw [HU.out, if_pos (by rintro rfl; exact hs0 rfl)])
    clear HU HDX hs0
    go_enter Tryz.func82, Tryz.ntmps82
    go_wp2_with fail
    go_ret2
    rw [HU2.out]
    exact ⟨rfl, HZ.out⟩
theorem ownP_fst (g : Sg) (t : Tm) : (ownP g t).1 = ownF g t := by
  unfold ownP ownF dclF
  by_cases h : t.sort ≠ nul
  · rw [if_pos h, if_pos h]
  · rw [if_neg h, if_neg h]
    by_cases h2 : dixN g.2 t.name < g.2.length
    · rw [if_pos h2, if_pos h2]
    · rw [if_neg h2, if_neg h2]
theorem ownP_snd {g : Sg} (hr : ResOk g) (t : Tm) : (ownP g t).2 = !decide (ownF g t = nul) := by
  unfold ownP ownF dclF
  by_cases h : t.sort ≠ nul
  · rw [if_pos h, if_pos h, decide_eq_false h]; rfl
  · rw [if_neg h, if_neg h]
    by_cases h2 : dixN g.2 t.name < g.2.length
    · rw [if_pos h2, if_pos h2]
      rw [decide_eq_false (hr _ (by rw [dg_at h2]; exact List.getElem_mem h2))]; rfl
    · rw [if_neg h2, if_neg h2]; simp
theorem badK_hit {g : Sg} {L : List Tm} {A : List By} {k : Nat} (hk : k < L.length) (h1 : ownF g (tg L k) ≠ nul) (h2 : ownF g (tg L k) ≠ A.getD k nul) : badK g L A = true := by
  unfold badK
  rw [List.any_eq_true]
  exact ⟨k, List.mem_range.2 hk, by rw [decide_eq_false h1, decide_eq_false h2]; rfl⟩
theorem badK_not {g : Sg} {L : List Tm} {A : List By} (h : ∀ k, k < L.length → ownF g (tg L k) = nul ∨ ownF g (tg L k) = A.getD k nul) : badK g L A = false := by
  unfold badK
  rw [List.any_eq_false]
  intro k hk
  rcases h k (List.mem_range.1 hk) with h1 | h1
  · rw [decide_eq_true h1]; simp
  · rw [decide_eq_true h1]; simp
set_option maxRecDepth 100000 in
set_option maxHeartbeats 2000000 in
theorem pwrong_x (g : Sg) (t : Tm) (v u : Value) (S T : Nat → Prop) (w : World) (hG : SgR S w g v) (hS : ∀ k, S k → k < w.heap.size) (hT : TmR T w t u) (hr : ResOk g) (hl1 : g.1.length ≤ 1000000) (hl : g.2.length ≤ 1000000) (hl3 : ∀ d ∈ g.2, d.2.1.length ≤ 1000000) :
    Calls Tryz.prog 81 #[v, u] w fun e w' => e = .returned (.int .i64 (ndE g t)) ∧ Ext w w' := by
  have HDX := Lib.hid (fun s W (hW : Ext w W) => declared_x g s v S W (hG.ext hW) (fun k hk => Nat.lt_of_lt_of_le (hS k hk) hW.size) hl)
  have HOX := Lib.hid (fun x y W (hW : Ext w W) (hx : TmR T W x y) => pown_x g x v y S T W (hG.ext hW) (fun k hk => Nat.lt_of_lt_of_le (hS k hk) hW.size) hx hl)
  have HRO := Lib.hid hr
  obtain ⟨sa, sc, oa, oc, rfl, hS1, _⟩ := hG
  obtain ⟨a, cap, rfl, hT⟩ := hT
  obtain ⟨nm, so, L⟩ := t
  dsimp only [tV, Tm.name, Tm.sort, Tm.kids] at hT ⊢
  have HS1 := Lib.hid hS1
  have HTL := Lib.hid hT
  have HZ := Lib.hid (((Upd.refl (fun _ => False) w).alloc (.cells #[.slice sa g.1.length sc, .slice oa g.2.length oc] 42)).alloc (.cells #[.string nm, .string so, .slice a L.length cap] 24))
  have HB1 := Lib.hid (allocOld (alloc0 w (.cells #[.slice sa g.1.length sc, .slice oa g.2.length oc] 42)) (.cells #[.string nm, .string so, .slice a L.length cap] 24))
  have HB2 := Lib.hid (alloc_at (w.alloc (.cells #[.slice sa g.1.length sc, .slice oa g.2.length oc] 42)) (.cells #[.string nm, .string so, .slice a L.length cap] 24) (n := w.heap.size + 1) (by simp))
  have c0 := cellRow HB1.out 0 (.slice sa g.1.length sc) rfl
  have c1 := cellRow HB1.out 1 (.slice oa g.2.length oc) rfl
  have t0 := cellRow HB2.out 0 (.string nm) rfl
  have t1 := cellRow HB2.out 1 (.string so) rfl
  have t2 := cellRow HB2.out 2 (.slice a L.length cap) rfl
  have HU := Lib.hid (nd_eq g nm so L)
  obtain ⟨V, hV⟩ : ∃ V, ndE g (.mk nm so L) = V := ⟨_, rfl⟩
  rw [hV] at HU ⊢
  clear hT hV hS1 hr
  by_cases hs0 : so.size = 0
  case neg =>
    obtain ⟨n1, n2, n3, n4⟩ := nonempty_t so (by omega)
    have HU2 : Hid (V = if so ∈ g.1 then 0 else 9) := Lib.hid (by rw [HU.out, if_pos (by rintro rfl; exact hs0 rfl)])
    have HCO := Lib.hid (con_x g.1 so _ S ((w.alloc (.cells #[.slice sa g.1.length sc, .slice oa g.2.length oc] 42)).alloc (.cells #[.string nm, .string so, .slice a L.length cap] 24)) (StR.ext HS1.out HZ.out) hl1)
    clear HU HDX hs0 HOX HRO
    by_cases hm : so ∈ g.1
    · have HV : Hid (V = 0) := Lib.hid (by rw [HU2.out, if_pos hm])
      rw [decide_eq_true hm] at HCO
      clear hm HU2
      go_enter Tryz.func81, Tryz.ntmps81
      go_wp2_with fail
      refine HCO.out.mono ?_
      rintro e w4 ⟨rfl, hw4⟩
      have H4 := Lib.hid (HZ.out.trans hw4)
      clear hw4 c0 c1 t0 t1 t2
      go_wp2_with fail
      go_ret
      rw [HV.out]
      exact ⟨rfl, H4.out⟩
    · have HV : Hid (V = 9) := Lib.hid (by rw [HU2.out, if_neg hm])
      rw [decide_eq_false hm] at HCO
      clear hm HU2
      go_enter Tryz.func81, Tryz.ntmps81
      go_wp2_with fail
      refine HCO.out.mono ?_
      rintro e w4 ⟨rfl, hw4⟩
      have H4 := Lib.hid (HZ.out.trans hw4)
      clear hw4 c0 c1 t0 t1 t2
      go_wp2_with fail
      go_ret
      rw [HV.out]
      exact ⟨rfl, H4.out⟩
  have hse := empty_is _ hs0
  subst hse
  have HU2 : Hid (V = if ¬ dixN g.2 nm < g.2.length then 9 else if L.length ≠ (dg g.2 (dixN g.2 nm)).2.1.length then 3 else if badK g L (dg g.2 (dixN g.2 nm)).2.1 = true then 11 else 0) := Lib.hid (by rw [HU.out, if_neg (by simp [nul])])
  have HFX := Lib.hid (HDX.out nm _ HZ.out)
  clear HU HDX hs0
  have HDF : Hid (dclF g nm = if dixN g.2 nm < g.2.length then (dg g.2 (dixN g.2 nm), true) else ((nul, [], nul), false)) := Lib.hid rfl
  by_cases hd : dixN g.2 nm < g.2.length
  case neg =>
    have HV : Hid (V = 9) := Lib.hid (by rw [HU2.out, if_pos hd])
    have hdf := HDF.out
    rw [if_neg hd] at hdf
    rw [hdf] at HFX
    dsimp only at HFX
    clear hd hdf HDF HU2 HOX
    go_enter Tryz.func81, Tryz.ntmps81
    go_wp2_with fail
    refine HFX.out.mono ?_
    rintro e w4 ⟨xa, xc, rfl, _, hw4⟩
    have H4 := Lib.hid (HZ.out.trans (hw4.alloc (.cells #[.string nul, .slice xa ([] : List By).length xc, .string nul] 96)))
    clear hw4 c0 c1 t0 t1 t2 HFX HB1 HB2
    go_wp2_with fail
    go_ret
    rw [HV.out]
    exact ⟨rfl, H4.out⟩
  have HU3 : Hid (V = if L.length ≠ (dg g.2 (dixN g.2 nm)).2.1.length then 3 else if badK g L (dg g.2 (dixN g.2 nm)).2.1 = true then 11 else 0) := Lib.hid (by rw [HU2.out, if_neg (fun h => h hd)])
  have hdf := HDF.out
  rw [if_pos hd] at hdf
  rw [hdf] at HFX
  obtain ⟨⟨d1, d2, d3⟩, hdd⟩ : ∃ d, dg g.2 (dixN g.2 nm) = d := ⟨_, rfl⟩
  have hdm := hl3 _ (show dg g.2 (dixN g.2 nm) ∈ g.2 by rw [dg_at hd]; exact List.getElem_mem hd)
  rw [hdd] at HFX HU3 hdm
  dsimp only at HFX HU3 hdm
  clear hd hdf HDF HU2 hdd hl3
  go_enter Tryz.func81, Tryz.ntmps81
  go_wp2_with fail
  refine HFX.out.mono ?_
  rintro e w4 ⟨xa, xc, rfl, hA, hw4⟩
  have hw4a := hw4.alloc (.cells #[.string d1, .slice xa d2.length xc, .string d3] 96)
  have H4 := Lib.hid (HZ.out.trans hw4a)
  have HB14 := Lib.hid (hw4a.heap HB1.out (fun h => h))
  have HB24 := Lib.hid (hw4a.heap HB2.out (fun h => h))
  have HBD4 := Lib.hid (alloc0 w4 (.cells #[.string d1, .slice xa d2.length xc, .string d3] 96))
  have HA4 := Lib.hid (SlR.kept hA ((Upd.refl (fun _ => False) w4).alloc (.cells #[.string d1, .slice xa d2.length xc, .string d3] 96)) (fun _ _ h => h))
  clear hw4 hw4a c0 c1 t0 t1 t2 HFX HB1 HB2 hA
  have t2 := cellRow HB24.out 2 (.slice a L.length cap) rfl
  have d1c := cellRow HBD4.out 1 (.slice xa d2.length xc) rfl
  by_cases hln : L.length = d2.length
  case neg =>
    have HV : Hid (V = 3) := Lib.hid (by rw [HU3.out, if_pos hln])
    have y1 : ((L.length : Int) == (d2.length : Int)) = false := beq_eq_false_iff_ne.2 (by omega)
    have y2 : ((L.length : Int) != (d2.length : Int)) = true := by simp [y1, bne]
    clear HOX hln
    go_wp2_with fail
    go_ret
    rw [HV.out]
    exact ⟨rfl, H4.out⟩
  have HU4 : Hid (V = if badK g L d2 = true then 11 else 0) := Lib.hid (by rw [HU3.out, if_neg (fun h => h hln)])
  have y1 : ((L.length : Int) == (d2.length : Int)) = true := by rw [hln]; simp
  have y2 : ((L.length : Int) != (d2.length : Int)) = false := by simp [y1, bne]
  have HLN := Lib.hid hln
  have hLm : L.length ≤ 1000000 := by omega
  clear hln HU3
  go_wp2_with fail
  clear y1 y2 t2 d1c
  generalize w4.alloc (.cells #[.string d1, .slice xa d2.length xc, .string d3] 96) = w5 at *
  obtain ⟨nd, hnd⟩ : ∃ nd, w4.heap.size = nd := ⟨_, rfl⟩
  try rw [hnd] at HBD4
  try rw [hnd]
  clear hnd
  go_loopg [41] L.length (fun gk iv wr => ∃ k : Nat, iv = .int .i64 (k : Int) ∧ gk = L.length - k ∧ k ≤ L.length ∧ Hid (∀ j, j < k → ownF g (tg L j) = nul ∨ ownF g (tg L j) = d2.getD j nul) ∧ Hid (Ext w5 wr))
  case atStart => exact ⟨0, rfl, rfl, Nat.zero_le _, Lib.hid (fun j h => absurd h (Nat.not_lt_zero _)), Lib.hid (Upd.refl _ _)⟩
  case round =>
    obtain ⟨k, rfl, rfl, hk, HC, HE⟩ := hrel
    have HB1r := Lib.hid (HE.out.heap HB14.out (fun h => h))
    have HBDr := Lib.hid (HE.out.heap HBD4.out (fun h => h))
    by_cases hlt : k < L.length
    · have hk2 : k < d2.length := by rw [← HLN.out]; exact hlt
      obtain ⟨gg, off, hga, _, hat⟩ := (HTL.out.ext (H4.out.trans HE.out)).at_ (by omega)
      subst hga
      obtain ⟨ya, yc, q0, q1, q2, hkid⟩ := hat k hlt
      rw [← Nat.add_assoc] at q1 q2
      obtain ⟨g2, off2, hga2, _, hat2⟩ := SlR.one_at (d := nul) (SlR.kept HA4.out HE.out (fun _ _ h => h)) (by omega)
      subst hga2
      have r0 := hat2 k hk2
      have z0 : (0 : Int) ≤ (k : Int) := by omega
      have z1 : (k : Int) < (L.length : Int) := by omega
      have z2 : decide ((k : Int) < (L.length : Int)) = true := decide_eq_true z1
      have z2' : decide (k < L.length) = true := decide_eq_true hlt
      have u1 : (k : Int) < (d2.length : Int) := by omega
      have HOWN := Lib.hid (fun W (hW : Ext wr W) => HOX.out (tg L k) (tV (tg L k) (.slice ya (tg L k).kids.length yc)) W ((H4.out.trans HE.out).trans hW) ⟨ya, yc, rfl, hkid.ext hW⟩)
      have HP1 := Lib.hid (ownP_fst g (tg L k))
      have HP2 := Lib.hid (ownP_snd HRO.out (tg L k))
      have HHIT : Hid (ownF g (tg L k) ≠ nul → ownF g (tg L k) ≠ d2.getD k nul → V = 11) := Lib.hid (fun h1 h2 => by rw [HU4.out, if_pos (badK_hit hlt h1 h2)])
      have HGO : Hid ((ownF g (tg L k) = nul ∨ ownF g (tg L k) = d2.getD k nul) → ∀ j, j < k + 1 → ownF g (tg L j) = nul ∨ ownF g (tg L j) = d2.getD j nul) := Lib.hid (fun h j hj => by
        rcases Nat.lt_succ_iff_lt_or_eq.1 hj with h5 | h5
        · exact HC.out j h5
        · rw [h5]; exact h)
      obtain ⟨x, hx⟩ : ∃ x, tg L k = x := ⟨_, rfl⟩
      rw [hx] at q0 q1 q2 HOWN HP1 HP2 HHIT HGO
      obtain ⟨y, hy⟩ : ∃ y, d2.getD k nul = y := ⟨_, rfl⟩
      rw [hy] at r0 HHIT HGO
      dsimp only [tV] at HOWN
      obtain ⟨P, hP⟩ : ∃ P, ownP g x = P := ⟨_, rfl⟩
      rw [hP] at HOWN HP1 HP2
      obtain ⟨o1, o2⟩ := P
      dsimp only at HOWN HP1 HP2
      rw [← HP1.out] at HP2 HHIT HGO
      have HEX := Lib.hid (HE.out.trans ((Upd.refl (fun _ => False) wr).alloc (.cells #[.string x.name, .string x.sort, .slice ya x.kids.length yc] 24)))
      have HBX := Lib.hid (alloc0 wr (.cells #[.string x.name, .string x.sort, .slice ya x.kids.length yc] 24))
      have HAX := Lib.hid ((Upd.refl (fun _ => False) wr).alloc (.cells #[.string x.name, .string x.sort, .slice ya x.kids.length yc] 24))
      have c0 := cellRow (HAX.out.heap HB1r.out (fun h => h)) 0 (.slice sa g.1.length sc) rfl
      have c1 := cellRow (HAX.out.heap HB1r.out (fun h => h)) 1 (.slice oa g.2.length oc) rfl
      have x0 := cellRow HBX.out 0 (.string x.name) rfl
      have x1 := cellRow HBX.out 1 (.string x.sort) rfl
      have x2 := cellRow HBX.out 2 (.slice ya x.kids.length yc) rfl
      have r0' := HAX.out.cell r0 (fun h => h)
      have HOW2 := Lib.hid (HOWN.out _ HAX.out)
      have HBDX := Lib.hid (HAX.out.heap HBDr.out (fun h => h))
      clear hat hat2 hkid hx hy hP HOWN HC HP1 r0
      go_wp2_with fail
      clear q0 q1 q2
      generalize wr.alloc (.cells #[.string x.name, .string x.sort, .slice ya x.kids.length yc] 24) = w6 at *
      refine HOW2.out.mono ?_
      rintro e w7 ⟨rfl, hw7⟩
      have H7 := Lib.hid (HEX.out.trans hw7)
      have H70 := Lib.hid (H4.out.trans H7.out)
      have r1 := hw7.cell r0' (fun h => h)
      have d1c := cellRow (hw7.heap HBDX.out (fun h => h)) 1 (.slice (some ⟨g2, off2, none⟩) d2.length xc) rfl
      clear hw7 c0 c1 x0 x1 x2 r0' HOW2
      cases o2
      · have hn : o1 = nul := by have := HP2.out; simpa using this.symm
        have HN := Lib.hid (HGO.out (.inl hn))
        clear hn HGO HHIT HP2
        go_wp2_with fail
        go_roundg (L.length - (k + 1))
        case measure => omega
        case rel => exact ⟨k + 1, by go_num, rfl, by omega, HN, H7⟩
      · have hn : o1 ≠ nul := by have := HP2.out; simpa using this
        by_cases he : o1 = y
        · have HN := Lib.hid (HGO.out (.inr he))
          subst he
          clear hn HGO HHIT HP2
          go_wp2_with fail
          go_roundg (L.length - (k + 1))
          case measure => omega
          case rel => exact ⟨k + 1, by go_num, rfl, by omega, HN, H7⟩
        · have HV := Lib.hid (HHIT.out hn he)
          have t9 := str_ne he
          clear hn he HGO HHIT HP2
          go_wp2_with fail
          go_ret
          rw [HV.out]
          exact ⟨rfl, H70.out⟩
    · obtain rfl : k = L.length := by omega
      have z2 : decide ((L.length : Int) < (L.length : Int)) = false := decide_eq_false (by omega)
      have HV : Hid (V = 0) := Lib.hid (by rw [HU4.out, if_neg (by rw [badK_not HC.out]; decide)])
      have H9 := Lib.hid (H4.out.trans HE.out)
      go_wp2_with fail
      go_ret
      rw [HV.out]
      exact ⟨rfl, H9.out⟩

end Go.Proofs.YtjjaknmnhhfjeaaGreatDoor

/- The nodes of a term, each with where its parts lie. -/
namespace Go.Proofs.YtjjaknmnhhfjeaaGreatDoor
open Go.RowKit Go.Hw Go
set_option linter.unusedVariables false
set_option linter.unusedSimpArgs false

open Go.Shelf Tm
attribute [local go_sem] Oper.semAt_some
theorem abides_allocS {α : Type} {J : List α → World → Prop} {B : Nat} (h : AbidesFrom B J) {pre : List α} {W : World} (o : Obj) (hj : J pre W) : J pre (W.alloc o) := h pre W _ none hj (World.grownBy_alloc W o none) (fun r e => by cases e)
structure NdS (S : Nat → Prop) (w0 : World) where
  t : Tm
  a : Option Addr
  cap : Nat
  d : Nat
  ok : TlR S w0 t.kids (.slice a t.kids.length cap)
def NdS.encs {S : Nat → Prop} {w0 : World} (x : NdS S w0) : Array Value := #[tV x.t (.slice x.a x.t.kids.length x.cap), .int .i64 (x.d : Int)]
def NdS.pr {S : Nat → Prop} {w0 : World} (x : NdS S w0) : Tm × Nat := (x.t, x.d)
set_option maxRecDepth 100000 in
set_option maxHeartbeats 4000000 in
theorem visit_inS (F : Fence) (hd : F.depth = none) (hf : ∀ k, F.fn k) (hro : F.round = none) (l Bv n₁ N B0 : Nat) (G S : Nat → Prop) (hS : ∀ k, S k → ¬ G k) (hBv : ¬ G Bv) (hG : ∀ k, G k → k < n₁) (w0 : World) (J Jx : List (NdS S w0) → World → Prop) (hJ : AbidesFrom B0 J)
    (hY : ∀ m pre x W, J pre W → pre.length < N → YieldAt F m Tryz.prog l x.encs W fun e W' => (e = .returned (.bool true) ∧ J (pre ++ [x]) W' ∧ KpG G W W') ∨ (e = .returned (.bool false) ∧ Jx (pre ++ [x]) W')) :
    ∀ (t : Tm) (n : Nat) (a : Option Addr) (cap d : Nat) (pre : List (NdS S w0)) (W : World), TlR S w0 t.kids (.slice a t.kids.length cap) → KpG G w0 W → W.heap[Bv]? = some (.cells #[(.func (.func 113) #[] #[.pointer (some ⟨Bv, 0, none⟩)])] 163 (0, 0)) → J pre W → n₁ ≤ W.heap.size → pre.length + t.size ≤ N → ((d + t.size : Nat) : Int) ≤ 4611686018427387904 →
      CallsIn F n Tryz.prog 113 #[tV t (.slice a t.kids.length cap), .int .i64 (d : Int), .func (.yield l) #[] #[], .pointer (some ⟨Bv, 0, none⟩)] W fun e W' =>
        (e = .returned (.bool true) ∧ ∃ xs : List (NdS S w0), xs.map NdS.pr = nodesD d t ∧ J (pre ++ xs) W' ∧ KpG G W W') ∨ (e = .returned (.bool false) ∧ ∃ q : List (NdS S w0), q.map NdS.pr <+: nodesD d t ∧ Jx (pre ++ q) W') := by
  have hdd : ∀ k : Nat, (F.depth.isSome = true → 1 ≤ k) := fun k h => by rw [hd] at h; cases h
  refine Tm.ind (fun nm so L ih => ?_)
  intro n a cap d pre W hR hk0 hV hJ0 hn1 hN hdb
  have hsz := size_eq (.mk nm so L)
  dsimp only [tV, Tm.name, Tm.sort, Tm.kids] at hR hsz ⊢
  rw [hsz] at hN hdb
  have hb := alloc0 W (.cells #[.string nm, .string so, .slice a L.length cap] 24)
  have c0 := cellRow hb 0 (.string nm) rfl
  have c1 := cellRow hb 1 (.string so) rfl
  have c2 := cellRow hb 2 (.slice a L.length cap) rfl
  have hU0 : KpG G W (W.alloc (.cells #[.string nm, .string so, .slice a L.length cap] 24)) := KpG.of_ext ((Upd.refl _ W).alloc _)
  have hGB : ¬ G W.heap.size := fun h => by have := hG _ h; omega
  obtain ⟨fn, tmps, assign, body, hy, hR1⟩ := hY (n - 1) pre ⟨.mk nm so L, a, cap, d, hR⟩ (W.alloc (.cells #[.string nm, .string so, .slice a L.length cap] 24)) (abides_allocS hJ _ hJ0) (by omega)
  dsimp only [NdS.encs, tV, Tm.name, Tm.sort, Tm.kids] at hy
  refine callsIn_of_wp Tryz.func113 rfl (hf 113) ?_ hro
  simp only [Tryz.ntmps113, List.size_toArray, List.length_cons, List.length_nil, Nat.reduceAdd, Nat.reduceSub, Array.replicate_succ, Array.replicate_zero, List.push_toArray, List.append_toArray, List.nil_append, List.cons_append]
  gi_wp2
  refine hR1.mono ?_
  clear hR1
  rintro e W1 (⟨rfl, hJ1, hk1⟩ | ⟨rfl, hx1⟩)
  · have hb1 := hk1.cells _ _ _ _ hGB hb
    have d2 := cellRow hb1 2 (.slice a L.length cap) rfl
    gi_wp2
    gi_loopg [18] (L.length) (fun gk iv wr => ∃ (k : Nat) (xs : List (NdS S w0)), iv = .int .i64 (k : Int) ∧ gk = L.length - k ∧ k ≤ L.length ∧ xs.map NdS.pr = nodesDs (d + 1) (L.take k) ∧ J (pre ++ [⟨.mk nm so L, a, cap, d, hR⟩] ++ xs) wr ∧ KpG G W wr)
    case atStart => exact ⟨0, [], rfl, rfl, Nat.zero_le _, rfl, by simpa using hJ1, hU0.trans hk1⟩
    case round =>
      obtain ⟨k, xs, rfl, rfl, hk, hxs, hJr, hkr⟩ := hrel
      by_cases hlt : k < L.length
      · obtain ⟨g, off, rfl, hSg, hat⟩ := hR.at_ (by omega)
        obtain ⟨a', cap', q0, q1, q2, hkid⟩ := hat k hlt
        have hkw := hk0.trans hkr
        have q0 := hkw.cell (hS _ hSg) rfl q0
        have q1 := hkw.cell (hS _ hSg) rfl q1
        have q2 := hkw.cell (hS _ hSg) rfl q2
        have z0 : (0 : Int) ≤ (k : Int) := by omega
        have z1 : (k : Int) < (L.length : Int) := by omega
        have z2 : decide ((k : Int) < (L.length : Int)) = true := decide_eq_true z1
        have hv := hkr.cells _ _ _ _ hBv hV
        have hmem : tg L k ∈ L := by unfold tg; rw [List.getD_eq_getElem?_getD, List.getElem?_eq_getElem hlt]; exact List.getElem_mem hlt
        have hsz2 : sizes (L.take k) + (tg L k).size ≤ sizes L := by
          have h1 : L = L.take k ++ tg L k :: L.drop (k + 1) := by
            unfold tg; rw [List.getD_eq_getElem?_getD, List.getElem?_eq_getElem hlt]; simp
          have h2 := congrArg sizes h1
          rw [sizes_append] at h2
          simp only [sizes] at h2
          omega
        have hxl : xs.length = sizes (L.take k) := by have := congrArg List.length hxs; rw [List.length_map, nodesDs_len] at this; exact this
        obtain ⟨x, hx⟩ : ∃ x, tg L k = x := ⟨_, rfl⟩
        rw [hx] at q0 q1 q2 hkid hmem hsz2
        rw [← Nat.add_assoc] at q1 q2
        have hb4 := alloc0 wr (.cells #[.string x.name, .string x.sort, .slice a' x.kids.length cap'] 24)
        have e0 := cellRow hb4 0 (.string x.name) rfl
        have e1 := cellRow hb4 1 (.string x.sort) rfl
        have e2 := cellRow hb4 2 (.slice a' x.kids.length cap') rfl
        have e3 := cellRow (allocOld hv (.cells #[.string x.name, .string x.sort, .slice a' x.kids.length cap'] 24)) 0 (.func (.func 113) #[] #[.pointer (some ⟨Bv, 0, none⟩)]) rfl
        have hk4 : KpG G wr (wr.alloc (.cells #[.string x.name, .string x.sort, .slice a' x.kids.length cap'] 24)) := KpG.of_ext ((Upd.refl _ wr).alloc _)
        have hlen : (L.length : Int) ≤ 4611686018427387904 := by have := length_le_sizes L; omega
        have ihk := ih x hmem (n - 1) a' cap' (d + 1) _ _ hkid (hkw.trans hk4) (allocOld hv (.cells #[.string x.name, .string x.sort, .slice a' x.kids.length cap'] 24)) (abides_allocS hJ _ hJr) (by have h1 := hkr.size; have h2 := hk4.size; omega) (by simp only [List.length_append, List.length_singleton]; omega) (by omega)
        have hw1 : IntKind.i64.wrap ((d : Int) + 1) = (d : Int) + 1 := IntWalk.i64_in _ (by omega)
        have hw2 : wrap64 ((d : Int) + 1) = (d : Int) + 1 := IntWalk.wrap64_in _ (by omega)
        rw [show (((d + 1 : Nat)) : Int) = (d : Int) + 1 by omega] at ihk
        dsimp only [tV] at ihk
        gi_wp2_with (gi_at_call 113; refine ihk.mono ?_; clear ihk; rintro e W4 (⟨rfl, ys, hys, hJ4, hk5⟩ | ⟨rfl, q, hq, hx4⟩))
        · gi_roundg (L.length - (k + 1))
          case measure => omega
          case rel => 
            refine ⟨k + 1, xs ++ ys, by go_num, rfl, by omega, ?_, by rw [← List.append_assoc]; exact hJ4, (hkr.trans hk4).trans hk5⟩
            rw [List.map_append, hxs, hys, List.take_add_one, nodesDs_append]
            have : L[k]?.toList = [x] := by rw [← hx]; unfold tg; rw [List.getD_eq_getElem?_getD, List.getElem?_eq_getElem hlt]; rfl
            rw [this]
            simp [nodesDs]
        · go_ret
          refine .inr ⟨rfl, ⟨.mk nm so L, some ⟨g, off, none⟩, cap, d, hR⟩ :: (xs ++ q), ?_, by simpa using hx4⟩
          obtain ⟨r, hr⟩ := hq
          refine ⟨r ++ nodesDs (d + 1) (L.drop (k + 1)), ?_⟩
          rw [nodesD_eq]
          simp only [Tm.kids, List.map_cons, List.map_append, hxs, List.cons_append, List.append_assoc]
          rw [← List.append_assoc (List.map NdS.pr q) r, hr]
          have h1 : L = L.take k ++ x :: L.drop (k + 1) := by
            rw [← hx]; unfold tg; rw [List.getD_eq_getElem?_getD, List.getElem?_eq_getElem hlt]; simp
          have h2 := congrArg (nodesDs (d + 1)) h1
          rw [nodesDs_append] at h2
          simp only [nodesDs] at h2
          rw [h2]
          rfl
      · obtain rfl : k = L.length := by omega
        gi_wp2
        go_ret
        refine .inl ⟨rfl, ⟨.mk nm so L, a, cap, d, hR⟩ :: xs, ?_, by simpa using hJr, hkr⟩
        rw [List.map_cons, hxs, List.take_length, nodesD_eq]
        rfl
  · gi_wp2
    go_ret
    exact .inr ⟨rfl, [⟨.mk nm so L, a, cap, d, hR⟩], ⟨nodesDs (d + 1) L, by rw [nodesD_eq]; rfl⟩, hx1⟩

set_option maxHeartbeats 1000000 in
theorem nodes1_inS (F : Fence) (hd : F.depth = none) (n : Nat) (hf : ∀ k, F.fn k) (hro : F.round = none) (l Bv Bt n₁ B0 : Nat) (G S : Nat → Prop) (hS : ∀ k, S k → ¬ G k) (hBv : ¬ G Bv) (hG : ∀ k, G k → k < n₁) (w0 : World) (J Jx : List (NdS S w0) → World → Prop) (hJ : AbidesFrom B0 J)
    (t : Tm) (a : Option Addr) (cap : Nat)
    (hY : ∀ pre x W, J pre W → pre.length < t.size → YieldAt F (n - 1) Tryz.prog l x.encs W fun e W' => (e = .returned (.bool true) ∧ J (pre ++ [x]) W' ∧ KpG G W W') ∨ (e = .returned (.bool false) ∧ Jx (pre ++ [x]) W'))
    (W : World) (hR : TlR S w0 t.kids (.slice a t.kids.length cap)) (hk0 : KpG G w0 W) (hV : W.heap[Bv]? = some (.cells #[(.func (.func 113) #[] #[.pointer (some ⟨Bv, 0, none⟩)])] 163 (0, 0))) (hT : W.heap[Bt]? = some (.cells #[.string t.name, .string t.sort, .slice a t.kids.length cap] 24 (0, 0))) (h0 : J [] W) (hnW : n₁ ≤ W.heap.size) (hsz : ((1 + t.size : Nat) : Int) ≤ 4611686018427387904) :
    CallsIn F n Tryz.prog 114 #[.func (.yield l) #[] #[], .pointer (some ⟨Bv, 0, none⟩), .pointer (some ⟨Bt, 0, none⟩)] W fun e W' => (∃ v, e = .returned v) ∧ ((∃ xs : List (NdS S w0), xs.map NdS.pr = nodesD 1 t ∧ J xs W') ∨ (∃ pre : List (NdS S w0), pre.map NdS.pr <+: nodesD 1 t ∧ Jx pre W')) := by
  have hdd : ∀ k : Nat, (F.depth.isSome = true → 1 ≤ k) := fun k h => by rw [hd] at h; cases h
  have hp := visit_inS F hd hf hro l Bv n₁ t.size B0 G S hS hBv hG w0 J Jx hJ (fun m pre x W hj hl => YieldAt.anyDepth hd m (hY pre x W hj hl)) t (n - 1) a cap 1 [] W hR hk0 hV h0 hnW (by simp) hsz
  have c0 := cellRow hT 0 (.string t.name) rfl
  have c1 := cellRow hT 1 (.string t.sort) rfl
  have c2 := cellRow hT 2 (.slice a t.kids.length cap) rfl
  have v0 := cellRow hV 0 (.func (.func 113) #[] #[.pointer (some ⟨Bv, 0, none⟩)]) rfl
  dsimp only [tV] at hp
  refine callsIn_of_wp Tryz.func114 rfl (hf 114) ?_ hro
  simp only [Tryz.ntmps114, List.size_toArray, List.length_cons, List.length_nil, Nat.reduceAdd, Nat.reduceSub, Array.replicate_succ, Array.replicate_zero, List.push_toArray, List.append_toArray, List.nil_append, List.cons_append]
  gi_wp2_with (gi_at_call 113; refine hp.mono ?_; clear hp; rintro e W1 (⟨rfl, xs, hxs, hJ1, _⟩ | ⟨rfl, q, hq, hx⟩))
  · go_end0
    exact ⟨⟨_, rfl⟩, .inl ⟨xs, hxs, by simpa using hJ1⟩⟩
  · go_end0
    exact ⟨⟨_, rfl⟩, .inr ⟨q, hq, by simpa using hx⟩⟩
theorem nodes_stopsS (F : Fence) (hd : F.depth = none) (n : Nat) (hf : ∀ k, F.fn k) (hro : F.round = none) (Bv Bt : Nat) (G S : Nat → Prop) (w : World) (hS : ∀ k, S k → ¬ G k) (hBv : ¬ G Bv) (hG : ∀ k, G k → k < w.heap.size) (hSw : ∀ k, S k → k < w.heap.size) (t : Tm) (a : Option Addr) (cap : Nat)
    (hR : TlR S w t.kids (.slice a t.kids.length cap)) (hV : w.heap[Bv]? = some (.cells #[(.func (.func 113) #[] #[.pointer (some ⟨Bv, 0, none⟩)])] 163 (0, 0))) (hT : w.heap[Bt]? = some (.cells #[.string t.name, .string t.sort, .slice a t.kids.length cap] 24 (0, 0))) (hsz : ((1 + t.size : Nat) : Int) ≤ 4611686018427387904) :
    SeqStopsK F n Tryz.prog 114 #[.pointer (some ⟨Bv, 0, none⟩), .pointer (some ⟨Bt, 0, none⟩)] NdS.encs (KpG G) (fun xs : List (NdS S w) => xs.map NdS.pr = nodesD 1 t) (fun pre => pre.map NdS.pr <+: nodesD 1 t) t.size w := fun l J Jx W hW hJ _ hY h0 =>
  have hE : Ext w W := ⟨hW.os, hW.tape, hW.output, hW.size, fun k hk _ => hW.block k hk⟩
  nodes1_inS F hd n hf hro l Bv Bt w.heap.size W.heap.size G S hS hBv hG w J Jx hJ t a cap hY W hR (KpG.of_ext hE) (hE.heap hV (fun h => h)) (hE.heap hT (fun h => h)) h0 hW.size hsz

end Go.Proofs.YtjjaknmnhhfjeaaGreatDoor
