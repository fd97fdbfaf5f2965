/- The texts Y44 Y58, one behind the other. -/
import Derived.Test.YtjjaknmnhhfjeaaGreatDoorKBG
import Derived.Test.YtjjaknmnhhfjeaaGreatDoorKBH
import Derived.Test.YtjjaknmnhhfjeaaGreatDoorKAN
/- Parse of the reference. -/
namespace Go.Proofs.YtjjaknmnhhfjeaaGreatDoor
open Go.RowKit Go.Hw Go Go.Sort Go.Proofs Go.ChangeMaps
set_option linter.unusedVariables false
set_option linter.unusedSimpArgs false

open Tm
end Go.Proofs.YtjjaknmnhhfjeaaGreatDoor

/- ParseSignature of the reference. -/
namespace Go.Proofs.YtjjaknmnhhfjeaaGreatDoor
open Go.RowKit Go.Hw Go Go.Sort Go.Proofs Go.ChangeMaps
set_option linter.unusedVariables false
set_option linter.unusedSimpArgs false

open Tm
set_option maxRecDepth 100000 in
set_option maxHeartbeats 8000000 in
theorem rpsig_e1 (s : By) (R : Sg × (Int × Int) × Int) (ln cl er : Int) (w : World) (hR : R = (nulG, (ln, cl), er)) (her : er ≠ 0) (ht : ∀ W, Ext w W → Calls Tryz.prog 65 #[.string s] W fun e W' => e = .returned (.tuple #[.slice none 0 0, .agg #[.int .i64 ln, .int .i64 cl], .int .i64 er]) ∧ Ext W W') :
    Calls Tryz.prog 20 #[.string s] w fun e w' => ∃ v, e = .returned (.tuple #[v, .agg #[.int .i64 R.2.1.1, .int .i64 R.2.1.2], .int .i64 R.2.2]) ∧ SgR (fun k => w.heap.size ≤ k ∧ k < w'.heap.size) w' R.1 v ∧ Ext w w' := by
  have HV := Lib.hid hR
  have t1 : (er == 0) = false := beq_eq_false_iff_ne.2 her
  have t2 : (er != 0) = true := bne_iff_ne.2 her
  have HE0 := Lib.hid (((Upd.refl (fun _ => False) w).alloc (.cells #[.slice none 0 0, .slice none 0 0] 42)).alloc (.cells #[.int .i64 0, .int .i64 0] 45))
  have HZ0 := Lib.hid (allocOld (alloc0 w (.cells #[.slice none 0 0, .slice none 0 0] 42)) (.cells #[.int .i64 0, .int .i64 0] 45))
  have HQ0 := Lib.hid (alloc_at (w.alloc (.cells #[.slice none 0 0, .slice none 0 0] 42)) (.cells #[.int .i64 0, .int .i64 0] 45) (n := w.heap.size + 1) (by simp))
  have hs0 : ((w.alloc (.cells #[.slice none 0 0, .slice none 0 0] 42)).alloc (.cells #[.int .i64 0, .int .i64 0] 45)).heap.size = w.heap.size + 2 := by simp
  obtain ⟨b0, hb0⟩ : ∃ x, w.heap.size = x := ⟨_, rfl⟩
  rw [hb0] at HZ0 HQ0
  have HTO := Lib.hid (ht ((w.alloc (.cells #[.slice none 0 0, .slice none 0 0] 42)).alloc (.cells #[.int .i64 0, .int .i64 0] 45)) HE0.out)
  clear ht her hR
  go_enter Tryz.func20, Tryz.ntmps20
  go_wp2_with fail
  try rw [hb0]
  generalize ((w.alloc (.cells #[.slice none 0 0, .slice none 0 0] 42)).alloc (.cells #[.int .i64 0, .int .i64 0] 45)) = w1 at *
  refine HTO.out.mono ?_
  rintro e w2 ⟨rfl, hw2⟩
  have HA3 := Lib.hid (alloc0 w2 (.cells #[.int .i64 ln, .int .i64 cl] 45))
  have HE3 := Lib.hid ((HE0.out.trans hw2).alloc (.cells #[.int .i64 ln, .int .i64 cl] 45))
  have HZ3 := Lib.hid (allocOld (hw2.heap HZ0.out (fun h => h)) (.cells #[.int .i64 ln, .int .i64 cl] 45))
  have HQ3 := Lib.hid (allocOld (hw2.heap HQ0.out (fun h => h)) (.cells #[.int .i64 ln, .int .i64 cl] 45))
  have hs2 := hw2.size
  have hs3 := alloc_size w2 (.cells #[.int .i64 ln, .int .i64 cl] 45)
  clear hw2 HTO
  go_upto_region 3 with fail
  obtain ⟨ab, hab⟩ : ∃ x, w2.heap.size = x := ⟨_, rfl⟩
  rw [hab] at HA3
  try rw [hab]
  generalize w2.alloc (.cells #[.int .i64 ln, .int .i64 cl] 45) = w3 at *
  have z0 := cellRow HZ3.out 0 (.slice none 0 0) rfl
  have z1 := cellRow HZ3.out 1 (.slice none 0 0) rfl
  have p0 := cellRow HQ3.out 0 (.int .i64 0) rfl
  have p1 := cellRow HQ3.out 1 (.int .i64 0) rfl
  have a0 := cellRow HA3.out 0 (.int .i64 ln) rfl
  have a1 := cellRow HA3.out 1 (.int .i64 cl) rfl
  have fz := fun j => frozenRow HZ3.out j
  have fp := fun j => frozenRow HQ3.out j
  go_region
  go_wp2_with fail
  have hz := st2_heap HZ3.out (.slice none 0 0) (.slice none 0 0)
  have huz := st2_upd w3 b0 (.slice none 0 0) (.slice none 0 0)
  have hq := st2_heap (huz.heap HQ3.out (by omega)) (.int .i64 (ln)) (.int .i64 (cl))
  have huq := st2_upd (((w3).setCell ⟨b0, 0, none⟩ (.slice none 0 0)).setCell ⟨b0, 1, none⟩ (.slice none 0 0)) (b0 + 1) (.int .i64 (ln)) (.int .i64 (cl))
  have hz2 := huq.heap hz (by omega)
  have e0 := cellRow hz2 0 _ rfl
  have e1 := cellRow hz2 1 _ rfl
  have e3 := cellRow hq 0 _ rfl
  have e4 := cellRow hq 1 _ rfl
  refine bodyPost_ret (v := .tuple #[.agg #[.slice none 0 0, .slice none 0 0], .agg #[.int .i64 (ln), .int .i64 (cl)], .int .i64 (er)]) (by simp [results, Tryz.results20, go_sem, e0, e1, e3, e4]) rfl ?_
  rw [HV.out]
  exact ⟨.agg #[.slice none 0 0, .slice none 0 0], rfl, nulG_r _ _, ((HE3.out.trans' huz (fun k hk e => by omega)).trans' huq (fun k hk e => by omega)).drew⟩
set_option maxRecDepth 100000 in
set_option maxHeartbeats 8000000 in
theorem rpsig_x (s : By) (w : World) (hs : s.size ≤ 1000000) (R : Sg × (Int × Int) × Int) (hR : psgF s = R) :
    Calls Tryz.prog 20 #[.string s] w fun e w' => ∃ v, e = .returned (.tuple #[v, .agg #[.int .i64 R.2.1.1, .int .i64 R.2.1.2], .int .i64 R.2.2]) ∧ SgR (fun k => w.heap.size ≤ k ∧ k < w'.heap.size) w' R.1 v ∧ Ext w w' := by
  have HTT : ∀ W, Ext w W → Calls Tryz.prog 65 #[.string s] W fun e W' => TokP (W.heap.size + 2) W' e (tokF (wdF iR) s) ∧ Ext W W' := fun W hW => rtokens_x s W hs _ rfl
  unfold psgF at hR
  cases h1 : tokF (wdF iR) s with
  | full => rw [h1] at hR HTT; exact rpsig_e1 s R 0 0 4 w hR.symm (by decide) HTT
  | bad ln cl => rw [h1] at hR HTT; exact rpsig_e1 s R ln cl 7 w hR.symm (by decide) HTT
  | ok l =>
  rw [h1] at hR HTT
  dsimp only at hR
  obtain ⟨hen, hll⟩ := tok_ended h1
  have hl0 := hen.pos
  have hjl : (pG l).at < l.length := by
    have h1 := pM_fwd hen (pN_fwd hen) wSort l.length 0 [] hl0
    unfold pG
    cases h2 : pM (pN l) wSort l l.length 0 [] with
    | bad j => rw [h2] at h1; exact h1.2
    | ok ss i =>
      rw [h2] at h1
      have h3 := pM_fwd hen (pD_fwd hen) wOp l.length i [] h1.2
      dsimp only
      cases h4 : pM (pD l) wOp l l.length i [] with
      | bad j => rw [h4] at h3; exact h3.2
      | ok os j => rw [h4] at h3; exact h3.2
  have HEN := Lib.hid hen
  have HOK := Lib.hid (tok_ok h1)
  have HE0 := Lib.hid (((Upd.refl (fun _ => False) w).alloc (.cells #[.slice none 0 0, .slice none 0 0] 42)).alloc (.cells #[.int .i64 0, .int .i64 0] 45))
  have HZ0 := Lib.hid (allocOld (alloc0 w (.cells #[.slice none 0 0, .slice none 0 0] 42)) (.cells #[.int .i64 0, .int .i64 0] 45))
  have HQ0 := Lib.hid (alloc_at (w.alloc (.cells #[.slice none 0 0, .slice none 0 0] 42)) (.cells #[.int .i64 0, .int .i64 0] 45) (n := w.heap.size + 1) (by simp))
  have hs0 : ((w.alloc (.cells #[.slice none 0 0, .slice none 0 0] 42)).alloc (.cells #[.int .i64 0, .int .i64 0] 45)).heap.size = w.heap.size + 2 := by simp
  obtain ⟨b0, hb0⟩ : ∃ x, w.heap.size = x := ⟨_, rfl⟩
  rw [hb0] at HZ0 HQ0
  have HTO := Lib.hid (HTT ((w.alloc (.cells #[.slice none 0 0, .slice none 0 0] 42)).alloc (.cells #[.int .i64 0, .int .i64 0] 45)) HE0.out)
  have HRR := Lib.hid hR
  clear HTT hen h1 hR
  go_enter Tryz.func20, Tryz.ntmps20
  go_wp2_with fail
  try rw [hb0]
  generalize ((w.alloc (.cells #[.slice none 0 0, .slice none 0 0] 42)).alloc (.cells #[.int .i64 0, .int .i64 0] 45)) = w1 at *
  refine HTO.out.mono ?_
  rintro e w2 ⟨⟨v, rfl, hTk⟩, hw2⟩
  obtain ⟨la, lc, hv⟩ := SlR.shape hTk
  subst hv
  have hw2' := hw2.alloc (.cells #[.int .i64 0, .int .i64 0] 45)
  have hs2 := hw2.size
  have HTK := Lib.hid (hTk.ext ((Upd.refl (fun _ => False) w2).alloc (.cells #[.int .i64 0, .int .i64 0] 45)))
  have HE3 := Lib.hid (HE0.out.trans hw2')
  have HZ3 := Lib.hid (hw2'.heap HZ0.out (fun h => h))
  have HQ3 := Lib.hid (hw2'.heap HQ0.out (fun h => h))
  have hs3 := hw2'.size
  have hs3' : w2.heap.size ≤ (w2.alloc (.cells #[.int .i64 0, .int .i64 0] 45)).heap.size := by rw [alloc_size]; omega
  clear hw2 hw2' hTk HTO
  go_upto_region 4 with fail
  generalize w2.alloc (.cells #[.int .i64 0, .int .i64 0] 45) = w3 at *
  have HPD := Lib.hid (rsorted_x la lc (fun k => w1.heap.size + 2 ≤ k ∧ k < w2.heap.size) l HEN.out HOK.out (by omega) w3 HTK.out (fun k hk => by omega))
  obtain ⟨gg, off, hga, hSg, hat⟩ := (TkR.at_ HTK.out hl0).2
  subst hga
  have hgb : ¬ gg = b0 := by omega
  have HAT : Hid (∀ W, Ext w3 W → ∀ j, j < l.length → W.cell? ⟨gg, off + j * 5, none⟩ = some (.int .i64 ((tk l j).kind : Int)) ∧ W.cell? ⟨gg, off + j * 5 + 1, none⟩ = some (.string (tk l j).text) ∧ W.cell? ⟨gg, off + j * 5 + 2, none⟩ = some (.int .i64 (tk l j).n) ∧ W.cell? ⟨gg, off + j * 5 + 3, none⟩ = some (.int .i64 (tk l j).line) ∧ W.cell? ⟨gg, off + j * 5 + 4, none⟩ = some (.int .i64 (tk l j).col)) := Lib.hid (fun W hW j hj => by
    obtain ⟨q0, q1, q2, q3, q4⟩ := hat j hj
    exact ⟨hW.cell q0 (fun h => h), hW.cell q1 (fun h => h), hW.cell q2 (fun h => h), hW.cell q3 (fun h => h), hW.cell q4 (fun h => h)⟩)
  clear hat hSg HTK HEN HOK
  generalize pG l = Q at *
  cases Q with
  | bad j =>
    have hjl : j < l.length := hjl
    have hv := HRR.out
    dsimp only at hv
    go_wp2_with fail
    refine HPD.out.mono ?_
    rintro e w4 ⟨a0, n0, c0, a1, n1, c1, rfl, h4⟩
    have h5 := h4.alloc (.cells #[.slice a0 n0 c0, .slice a1 n1 c1] 42)
    have HZ := Lib.hid (h5.heap HZ3.out (fun h => h))
    have HP := Lib.hid (h5.heap HQ3.out (fun h => h))
    have HE := Lib.hid (HE3.out.trans h5)
    have H5 := Lib.hid h5
    have hs5 := h5.size
    clear h4 h5 HPD
    go_upto_region 6 with fail
    generalize w4.alloc (.cells #[.slice a0 n0 c0, .slice a1 n1 c1] 42) = w5 at *
    obtain ⟨q0, q1, q2, q3, q4⟩ := HAT.out w5 H5.out j hjl
    obtain ⟨⟨kd, tx, tn, tl, tc⟩, ht⟩ : ∃ t, tk l j = t := ⟨_, rfl⟩
    rw [ht] at q0 q1 q2 q3 q4 hv
    dsimp only at q0 q1 q2 q3 q4 hv
    obtain ⟨er, her⟩ : ∃ er : Int, (if kd = 5 then (8 : Int) else 7) = er := ⟨_, rfl⟩
    have HER := Lib.hid her
    rw [her] at hv
    have HV : Hid (R = (nulG, (tl, tc), er)) := Lib.hid hv.symm
    have j0 : (0 : Int) ≤ (j : Int) := by omega
    have j1 : (j : Int) < (l.length : Int) := by omega
    clear ht hv her HRR
    have X0 : ∀ x : XF (fun k => k = b0) w5, x.val.cell? ⟨gg, off + j * 5, none⟩ = some (.int .i64 (kd : Int)) := fun x => x.upd.cell q0 hgb
    have X1 : ∀ x : XF (fun k => k = b0) w5, x.val.cell? ⟨gg, off + j * 5 + 1, none⟩ = some (.string tx) := fun x => x.upd.cell q1 hgb
    have X2 : ∀ x : XF (fun k => k = b0) w5, x.val.cell? ⟨gg, off + j * 5 + 2, none⟩ = some (.int .i64 tn) := fun x => x.upd.cell q2 hgb
    have X3 : ∀ x : XF (fun k => k = b0) w5, x.val.cell? ⟨gg, off + j * 5 + 3, none⟩ = some (.int .i64 tl) := fun x => x.upd.cell q3 hgb
    have X4 : ∀ x : XF (fun k => k = b0) w5, x.val.cell? ⟨gg, off + j * 5 + 4, none⟩ = some (.int .i64 tc) := fun x => x.upd.cell q4 hgb
    have hq0 := q0
    clear q0 q1 q2 q3 q4
    refine wp_region_mix [(0, 0), (1, 0), (2, 0), (3, 0), (4, 0), (5, 0), (6, 0), (7, 0), (8, 0), (9, 0), (10, 1), (11, 1), (12, 2), (13, 2)] 12 (fun W => ∃ x : XF (fun k => k = b0) w5, W = x.val) (by kernel_rfl) (by kernel_rfl) (fun _ _ d _ _ h => by cases d <;> exact h) ⟨⟨_, (Upd.refl _ w5).drew⟩, rfl⟩ ?_
    simp only [pickO, List.getElem?_cons_zero, List.getElem?_cons_succ]
    have HS0 : Hid (∃ x : XF (fun k => k = b0) w5, w5.drew = x.val) := Lib.hid ⟨⟨_, (Upd.refl _ w5).drew⟩, rfl⟩
    iterate 10 (refine mix_take ?_; intro K hK; go_simp; refine hK _ ?_; clear hK K)
    refine mix_one ?_ HS0.out
    intro K hK _
    go_simp
    refine (rWrong_x ⟨kd, tx, tn, tl, tc⟩ w5.drew).mono ?_
    rintro e wz ⟨he, h⟩
    rw [HER.out] at he
    subst he
    have HEZ := Lib.hid (((Upd.refl (fun _ => False) w5).drew).trans h)
    refine hK _ _ ⟨⟨_, ((Upd.refl (fun _ => False) w5).drew.trans h).mono (fun _ _ h => h.elim)⟩, rfl⟩ ?_
    clear hK K h X0 X1 X2 X3 X4
    have HZZ := Lib.hid (HEZ.out.heap HZ.out (fun h => h))
    have HPZ := Lib.hid (HEZ.out.heap HP.out (fun h => h))
    have HEE := Lib.hid (HE.out.trans HEZ.out)
    have z0 := cellRow HZZ.out 0 (.slice none 0 0) rfl
    have z1 := cellRow HZZ.out 1 (.slice none 0 0) rfl
    have p0 := cellRow HPZ.out 0 (.int .i64 0) rfl
    have p1 := cellRow HPZ.out 1 (.int .i64 0) rfl
    have fz := fun j => frozenRow HZZ.out j
    have fp := fun j => frozenRow HPZ.out j
    have HS1 : Hid (∃ x : XF (fun k => k = b0) w5, wz = x.val) := Lib.hid ⟨⟨wz, HEZ.out.mono (fun _ _ h => h.elim)⟩, rfl⟩
    refine mix_one ?_ HS1.out
    intro K hK _
    go_simp
    refine hK _ _ ⟨⟨_, (HEZ.out.mono (fun _ _ h => h.elim)).trans (st2_upd wz b0 (.slice none 0 0) (.slice none 0 0))⟩, rfl⟩ ?_
    clear hK K
    iterate 2 (refine mix_two ?_; intro K hK; go_simp; refine hK _ _ ?_; clear hK K)
    simp only [wpMix]
    go_wp2_with fail
    have hz := st2_heap HZZ.out (.slice none 0 0) (.slice none 0 0)
    have huz := st2_upd wz b0 (.slice none 0 0) (.slice none 0 0)
    have hq := st2_heap (huz.heap HPZ.out (by omega)) (.int .i64 (tl)) (.int .i64 (tc))
    have huq := st2_upd (((wz).setCell ⟨b0, 0, none⟩ (.slice none 0 0)).setCell ⟨b0, 1, none⟩ (.slice none 0 0)) (b0 + 1) (.int .i64 (tl)) (.int .i64 (tc))
    have hz2 := huq.heap hz (by omega)
    have e0 := cellRow hz2 0 _ rfl
    have e1 := cellRow hz2 1 _ rfl
    have e3 := cellRow hq 0 _ rfl
    have e4 := cellRow hq 1 _ rfl
    refine bodyPost_ret (v := .tuple #[.agg #[.slice none 0 0, .slice none 0 0], .agg #[.int .i64 (tl), .int .i64 (tc)], .int .i64 (er)]) (by simp [results, Tryz.results20, go_sem, e0, e1, e3, e4]) rfl ?_
    rw [HV.out]
    exact ⟨.agg #[.slice none 0 0, .slice none 0 0], rfl, nulG_r _ _, (HEE.out.trans' huz (fun k hk e => by omega)).trans' huq (fun k hk e => by omega)⟩
  | ok g j =>
    have hjl : j < l.length := hjl
    have hv := HRR.out
    dsimp only at hv
    go_wp2_with fail
    refine HPD.out.mono ?_
    rintro e w4 ⟨v0, v1, rfl, hsg, hg1, hg2, hg3, h4⟩
    obtain ⟨sa, sc, oa, oc, hvv, hsg1, hsg2⟩ := hsg
    injection hvv with hvv
    obtain ⟨rfl, rfl⟩ : v0 = .slice sa g.1.length sc ∧ v1 = .slice oa g.2.length oc := by simpa using hvv
    have HSG : Hid (SgR (fun k => w3.heap.size ≤ k ∧ k < w4.heap.size) w4 g (.agg #[.slice sa g.1.length sc, .slice oa g.2.length oc])) := Lib.hid ⟨sa, sc, oa, oc, rfl, hsg1, hsg2⟩
    have h5 := h4.alloc (.cells #[.slice sa g.1.length sc, .slice oa g.2.length oc] 42)
    have HA5 := Lib.hid ((Upd.refl (fun _ => False) w4).alloc (.cells #[.slice sa g.1.length sc, .slice oa g.2.length oc] 42))
    have HO5 := Lib.hid (alloc0 w4 (.cells #[.slice sa g.1.length sc, .slice oa g.2.length oc] 42))
    have HZ := Lib.hid (h5.heap HZ3.out (fun h => h))
    have HP := Lib.hid (h5.heap HQ3.out (fun h => h))
    have HE := Lib.hid (HE3.out.trans h5)
    have H5 := Lib.hid h5
    have hs4 := h4.size
    have hs5 := h5.size
    have hs5' := HA5.out.size
    clear h4 h5 HPD hsg1 hsg2 hvv
    go_upto_region 5 with fail
    obtain ⟨nt, hnt⟩ : ∃ x, w4.heap.size = x := ⟨_, rfl⟩
    rw [hnt] at HO5
    try rw [hnt]
    generalize w4.alloc (.cells #[.slice sa g.1.length sc, .slice oa g.2.length oc] 42) = w5 at *
    have HT5 := Lib.hid (SgR.ext HSG.out HA5.out)
    obtain ⟨q0, q1, q2, q3, q4⟩ := HAT.out w5 H5.out j hjl
    obtain ⟨⟨kd, tx, tn, tl, tc⟩, ht⟩ : ∃ t, tk l j = t := ⟨_, rfl⟩
    rw [ht] at q0 q1 q2 q3 q4 hv
    dsimp only at q0 q1 q2 q3 q4 hv
    have j0 : (0 : Int) ≤ (j : Int) := by omega
    have j1 : (j : Int) < (l.length : Int) := by omega
    clear ht HRR HSG HA5
    by_cases hk5 : kd = 5
    case neg =>
      rw [if_pos hk5] at hv
      obtain ⟨er, her⟩ : ∃ er : Int, er = 7 := ⟨_, rfl⟩
      have HER : Hid ((if kd = 5 then (8 : Int) else 7) = er) := Lib.hid (by rw [if_neg hk5, her])
      rw [← her] at hv
      have HV : Hid (R = (nulG, (tl, tc), er)) := Lib.hid hv.symm
      have t1 : ((kd : Int) == 5) = false := beq_eq_false_iff_ne.2 (by omega)
      have t2 : ((kd : Int) != 5) = true := bne_iff_ne.2 (by omega)
      clear hv her hk5
      go_upto_region 6 with fail
      have X0 : ∀ x : XF (fun k => k = b0) w5, x.val.cell? ⟨gg, off + j * 5, none⟩ = some (.int .i64 (kd : Int)) := fun x => x.upd.cell q0 hgb
      have X1 : ∀ x : XF (fun k => k = b0) w5, x.val.cell? ⟨gg, off + j * 5 + 1, none⟩ = some (.string tx) := fun x => x.upd.cell q1 hgb
      have X2 : ∀ x : XF (fun k => k = b0) w5, x.val.cell? ⟨gg, off + j * 5 + 2, none⟩ = some (.int .i64 tn) := fun x => x.upd.cell q2 hgb
      have X3 : ∀ x : XF (fun k => k = b0) w5, x.val.cell? ⟨gg, off + j * 5 + 3, none⟩ = some (.int .i64 tl) := fun x => x.upd.cell q3 hgb
      have X4 : ∀ x : XF (fun k => k = b0) w5, x.val.cell? ⟨gg, off + j * 5 + 4, none⟩ = some (.int .i64 tc) := fun x => x.upd.cell q4 hgb
      have hq0 := q0
      clear q0 q1 q2 q3 q4
      refine wp_region_mix [(0, 0), (1, 0), (2, 0), (3, 0), (4, 0), (5, 0), (6, 0), (7, 0), (8, 0), (9, 0), (10, 1), (11, 1), (12, 2), (13, 2)] 12 (fun W => ∃ x : XF (fun k => k = b0) w5, W = x.val) (by kernel_rfl) (by kernel_rfl) (fun _ _ d _ _ h => by cases d <;> exact h) ⟨⟨_, (Upd.refl _ w5).drew⟩, rfl⟩ ?_
      simp only [pickO, List.getElem?_cons_zero, List.getElem?_cons_succ]
      have HS0 : Hid (∃ x : XF (fun k => k = b0) w5, w5.drew = x.val) := Lib.hid ⟨⟨_, (Upd.refl _ w5).drew⟩, rfl⟩
      iterate 10 (refine mix_take ?_; intro K hK; go_simp; refine hK _ ?_; clear hK K)
      refine mix_one ?_ HS0.out
      intro K hK _
      go_simp
      refine (rWrong_x ⟨kd, tx, tn, tl, tc⟩ w5.drew).mono ?_
      rintro e wz ⟨he, h⟩
      rw [HER.out] at he
      subst he
      have HEZ := Lib.hid (((Upd.refl (fun _ => False) w5).drew).trans h)
      refine hK _ _ ⟨⟨_, ((Upd.refl (fun _ => False) w5).drew.trans h).mono (fun _ _ h => h.elim)⟩, rfl⟩ ?_
      clear hK K h X0 X1 X2 X3 X4
      have HZZ := Lib.hid (HEZ.out.heap HZ.out (fun h => h))
      have HPZ := Lib.hid (HEZ.out.heap HP.out (fun h => h))
      have HEE := Lib.hid (HE.out.trans HEZ.out)
      have z0 := cellRow HZZ.out 0 (.slice none 0 0) rfl
      have z1 := cellRow HZZ.out 1 (.slice none 0 0) rfl
      have p0 := cellRow HPZ.out 0 (.int .i64 0) rfl
      have p1 := cellRow HPZ.out 1 (.int .i64 0) rfl
      have fz := fun j => frozenRow HZZ.out j
      have fp := fun j => frozenRow HPZ.out j
      have HS1 : Hid (∃ x : XF (fun k => k = b0) w5, wz = x.val) := Lib.hid ⟨⟨wz, HEZ.out.mono (fun _ _ h => h.elim)⟩, rfl⟩
      refine mix_one ?_ HS1.out
      intro K hK _
      go_simp
      refine hK _ _ ⟨⟨_, (HEZ.out.mono (fun _ _ h => h.elim)).trans (st2_upd wz b0 (.slice none 0 0) (.slice none 0 0))⟩, rfl⟩ ?_
      clear hK K
      iterate 2 (refine mix_two ?_; intro K hK; go_simp; refine hK _ _ ?_; clear hK K)
      simp only [wpMix]
      go_wp2_with fail
      have hz := st2_heap HZZ.out (.slice none 0 0) (.slice none 0 0)
      have huz := st2_upd wz b0 (.slice none 0 0) (.slice none 0 0)
      have hq := st2_heap (huz.heap HPZ.out (by omega)) (.int .i64 (tl)) (.int .i64 (tc))
      have huq := st2_upd (((wz).setCell ⟨b0, 0, none⟩ (.slice none 0 0)).setCell ⟨b0, 1, none⟩ (.slice none 0 0)) (b0 + 1) (.int .i64 (tl)) (.int .i64 (tc))
      have hz2 := huq.heap hz (by omega)
      have e0 := cellRow hz2 0 _ rfl
      have e1 := cellRow hz2 1 _ rfl
      have e3 := cellRow hq 0 _ rfl
      have e4 := cellRow hq 1 _ rfl
      refine bodyPost_ret (v := .tuple #[.agg #[.slice none 0 0, .slice none 0 0], .agg #[.int .i64 (tl), .int .i64 (tc)], .int .i64 (er)]) (by simp [results, Tryz.results20, go_sem, e0, e1, e3, e4]) rfl ?_
      rw [HV.out]
      exact ⟨.agg #[.slice none 0 0, .slice none 0 0], rfl, nulG_r _ _, (HEE.out.trans' huz (fun k hk e => by omega)).trans' huq (fun k hk e => by omega)⟩
    subst hk5
    rw [if_neg (fun h => h rfl)] at hv
    have HVS := Lib.hid (vsig_x g _ _ w5 HT5.out (by omega) (by omega))
    obtain ⟨vb, hvb⟩ : ∃ c, vsgB nmB g = c := ⟨_, rfl⟩
    rw [hvb] at HVS hv
    have HV0 := Lib.hid hv
    have g0 := cellRow HO5.out 0 (.slice sa g.1.length sc) rfl
    have g1 := cellRow HO5.out 1 (.slice oa g.2.length oc) rfl
    clear hvb hv q1 q2 q3 q4
    go_wp2_with fail
    refine HVS.out.mono ?_
    rintro e w6 ⟨rfl, h6⟩
    have HZ6 := Lib.hid (h6.heap HZ.out (fun h => h))
    have HP6 := Lib.hid (h6.heap HP.out (fun h => h))
    have HE6 := Lib.hid (HE.out.trans h6)
    have HO6 := Lib.hid (h6.heap HO5.out (fun h => h))
    have HT6 := Lib.hid (SgR.ext HT5.out h6)
    have hs6 := h6.size
    clear h6 HVS g0 g1 q0 HZ HP HE HO5 HT5
    cases vb
    · have HV2 : Hid (R = (nulG, (0, 0), 1)) := Lib.hid (by rw [← HV0.out, if_neg (by decide)])
      clear HV0
      have z0 := cellRow HZ6.out 0 (.slice none 0 0) rfl
      have z1 := cellRow HZ6.out 1 (.slice none 0 0) rfl
      have p0 := cellRow HP6.out 0 (.int .i64 0) rfl
      have p1 := cellRow HP6.out 1 (.int .i64 0) rfl
      have fz := fun j => frozenRow HZ6.out j
      have fp := fun j => frozenRow HP6.out j
      go_wp2_with fail
      have hz := st2_heap HZ6.out (.slice none 0 0) (.slice none 0 0)
      have huz := st2_upd w6 b0 (.slice none 0 0) (.slice none 0 0)
      have hq := st2_heap (huz.heap HP6.out (by omega)) (.int .i64 (0)) (.int .i64 (0))
      have huq := st2_upd (((w6).setCell ⟨b0, 0, none⟩ (.slice none 0 0)).setCell ⟨b0, 1, none⟩ (.slice none 0 0)) (b0 + 1) (.int .i64 (0)) (.int .i64 (0))
      have hz2 := huq.heap hz (by omega)
      have e0 := cellRow hz2 0 _ rfl
      have e1 := cellRow hz2 1 _ rfl
      have e3 := cellRow hq 0 _ rfl
      have e4 := cellRow hq 1 _ rfl
      refine bodyPost_ret (v := .tuple #[.agg #[.slice none 0 0, .slice none 0 0], .agg #[.int .i64 (0), .int .i64 (0)], .int .i64 (1)]) (by simp [results, Tryz.results20, go_sem, e0, e1, e3, e4]) rfl ?_
      rw [HV2.out]
      exact ⟨.agg #[.slice none 0 0, .slice none 0 0], rfl, nulG_r _ _, (HE6.out.trans' huz (fun k hk e => by omega)).trans' huq (fun k hk e => by omega)⟩
    · have HV2 : Hid (R = (g, (0, 0), 0)) := Lib.hid (by rw [← HV0.out, if_pos rfl])
      clear HV0
      have g0 := cellRow HO6.out 0 (.slice sa g.1.length sc) rfl
      have g1 := cellRow HO6.out 1 (.slice oa g.2.length oc) rfl
      have z0 := cellRow HZ6.out 0 (.slice none 0 0) rfl
      have z1 := cellRow HZ6.out 1 (.slice none 0 0) rfl
      have p0 := cellRow HP6.out 0 (.int .i64 0) rfl
      have p1 := cellRow HP6.out 1 (.int .i64 0) rfl
      have fz := fun j => frozenRow HZ6.out j
      have fp := fun j => frozenRow HP6.out j
      go_wp2_with fail
      have hz := st2_heap HZ6.out (.slice sa g.1.length sc) (.slice oa g.2.length oc)
      have huz := st2_upd w6 b0 (.slice sa g.1.length sc) (.slice oa g.2.length oc)
      have hq := st2_heap (huz.heap HP6.out (by omega)) (.int .i64 (0)) (.int .i64 (0))
      have huq := st2_upd (((w6).setCell ⟨b0, 0, none⟩ (.slice sa g.1.length sc)).setCell ⟨b0, 1, none⟩ (.slice oa g.2.length oc)) (b0 + 1) (.int .i64 (0)) (.int .i64 (0))
      have hz2 := huq.heap hz (by omega)
      have e0 := cellRow hz2 0 _ rfl
      have e1 := cellRow hz2 1 _ rfl
      have e3 := cellRow hq 0 _ rfl
      have e4 := cellRow hq 1 _ rfl
      refine bodyPost_ret (v := .tuple #[.agg #[.slice sa g.1.length sc, .slice oa g.2.length oc], .agg #[.int .i64 (0), .int .i64 (0)], .int .i64 (0)]) (by simp [results, Tryz.results20, go_sem, e0, e1, e3, e4]) rfl ?_
      have hsa := huz.size
      have hsb := huq.size
      rw [HV2.out]
      have hsg := SgR.kept2 (SgR.kept2 HT6.out huz (fun k hk e => by have := hk.1; omega)) huq (fun k hk e => by have := hk.1; omega)
      exact ⟨_, rfl, SgR.wk hsg (fun k hk => ⟨by have := hk.1; omega, by have := hk.2; omega⟩), (HE6.out.trans' huz (fun k hk e => by omega)).trans' huq (fun k hk e => by omega)⟩

end Go.Proofs.YtjjaknmnhhfjeaaGreatDoor
