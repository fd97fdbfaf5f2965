/- The law BytecodeWalks. -/
import Derived.Test.YtlbnilhbfiidmaaDoorP6
import Derived.Test.YtlbnilhbfiidmaaDoorB24
namespace Go.Proofs.YtlbnilhbfiidmaaDoor
open Go.RowKit Go.Hw
set_option linter.unusedVariables false
set_option linter.unusedSimpArgs false

set_option maxRecDepth 100000 in
set_option maxHeartbeats 4000000 in
/-- The law BytecodeWalks. -/
theorem walks_law (a fv : Value) (c : Cd) (w : World) (h : CdR w a fv c) (htab : AscT w) (hT : ∀ W, Ext w W → TabAt 0 Lib.deBruijn64tab W) (nf : Nat) (hnf : nf < 256) (bv : Value) (ch : List Nat) (hb : SlR Any1 w 1 bv ch.length (ch.map fun (m : Nat) => Value.int .u8 (m : Int))) (hu8 : ∀ m ∈ ch, m < 256) : Calls Tryd.prog 4 #[.agg #[a, .int .i64 c.glob, fv], .int .u8 (nf : Int), bv] w fun e w' => e = .returned (.bool true) ∧ Ext w w' := by
  obtain ⟨⟨xa, ca, rfl⟩, xf, cf, rfl⟩ := h.shapes
  have HN := Lib.hid h
  have HX : Hid (∀ W, Ext (w.alloc (.cells #[.slice xa c.fields.length ca, .int .i64 c.glob, .slice xf c.funcs.length cf] 25)) W → W.heap[w.heap.size]? = some (.cells #[.slice xa c.fields.length ca, .int .i64 c.glob, .slice xf c.funcs.length cf] 25)) := fun W hW => hW.heap (alloc0 w _) (fun h => h)
  have HE0 : Hid (Ext w (w.alloc (.cells #[.slice xa c.fields.length ca, .int .i64 c.glob, .slice xf c.funcs.length cf] 25))) := (Upd.refl _ w).alloc _
  have hl1 := h.l1
  have hl2 := h.l2
  clear h
  have CA : Hid (∀ W, Ext w W → Calls Tryd.prog 5 #[] W fun e w' => e = .returned (.bool true) ∧ Ext W w') := fun W hW => awake_x W (asc_ext htab hW) (fun V hV => hT V (hW.ext hV))
  have CG : Hid (∀ W, Ext w W → Calls Tryd.prog 6 #[.agg #[.slice xa c.fields.length ca, .int .i64 c.glob, .slice xf c.funcs.length cf]] W (GreatP c W)) := fun W hW => great_x _ _ c W (HN.out.kept hW)
  have CK : Hid (∀ W, Ext w W → Calls Tryd.prog 7 #[.agg #[.slice xa c.fields.length ca, .int .i64 c.glob, .slice xf c.funcs.length cf]] W fun e w' => e = .returned (.tuple #[.int .i64 (ckP c).1, .int .i64 (ckP c).2.1, .int .i64 (ckP c).2.2]) ∧ Ext W w') := fun W hW => check_x _ _ c W (HN.out.kept hW) (asc_ext htab hW) (fun V hV => hT V (hW.ext hV))
  have CHG : Hid (∀ (i : Int) W, Ext w W → Calls Tryd.prog 9 #[.agg #[.slice xa c.fields.length ca, .int .i64 c.glob, .slice xf c.funcs.length cf], .int .i64 i] W (HgtP c i W)) := fun i W hW => hgt_x _ _ c W (HN.out.kept hW) (asc_ext htab hW) (fun V hV => hT V (hW.ext hV)) i
  have CF : Hid (∀ W, Ext w W → Calls Tryd.prog 11 #[.agg #[.slice xa c.fields.length ca, .int .i64 c.glob, .slice xf c.funcs.length cf]] W fun e w' => e = .returned (.bool (formB c)) ∧ Ext W w') := fun W hW => rformed_x _ _ c W (HN.out.kept hW)
  have HCH := Lib.hid hb
  have HU8 := Lib.hid hu8
  obtain ⟨xb, cb, rfl⟩ := hb.shape
  clear htab hT hb hu8
  unfold GreatP at CG
  unfold HgtP at CHG
  obtain ⟨x1, hx1⟩ : ∃ x, (ckP c).1 = x := ⟨_, rfl⟩
  obtain ⟨x2, hx2⟩ : ∃ x, (ckP c).2.1 = x := ⟨_, rfl⟩
  obtain ⟨x3, hx3⟩ : ∃ x, (ckP c).2.2 = x := ⟨_, rfl⟩
  rw [hx1, hx2, hx3] at CK
  have HX3 := Lib.hid hx3
  clear hx1 hx2 hx3
  have hz := HX.out (w.alloc (.cells #[.slice xa c.fields.length ca, .int .i64 c.glob, .slice xf c.funcs.length cf] 25)) (Upd.refl _ _)
  have k0 := cellRow hz 0 _ rfl
  have k1 := cellRow hz 1 _ rfl
  have k2 := cellRow hz 2 _ rfl
  clear hz
  go_enter Tryd.func4, Tryd.ntmps4
  go_wp2_with fail
  refine (CA.out _ HE0.out).mono ?_
  rintro e w3 ⟨rfl, h3⟩
  have H3 := Lib.hid h3
  clear h3 k0 k1 k2
  have hz := HX.out w3 H3.out
  have k0 := cellRow hz 0 _ rfl
  have k1 := cellRow hz 1 _ rfl
  have k2 := cellRow hz 2 _ rfl
  clear hz
  go_wp2_with fail
  refine (CG.out _ (HE0.out.ext H3.out)).mono ?_
  rintro e w4 ⟨b, rfl, _, h4⟩
  have H4 := Lib.hid (H3.out.ext h4)
  clear h4 k0 k1 k2
  have hz := HX.out w4 H4.out
  have k0 := cellRow hz 0 _ rfl
  have k1 := cellRow hz 1 _ rfl
  have k2 := cellRow hz 2 _ rfl
  clear hz
  cases b with
  | true =>
    go_wp2_with fail
    go_ret
    exact ⟨rfl, HE0.out.ext H4.out⟩
  | false =>
    by_cases z1 : c.funcs.length = 0
    · have z2 : ((c.funcs.length : Int) == 0) = true := by rw [z1]; rfl
      go_wp2_with fail
      go_ret
      exact ⟨rfl, HE0.out.ext H4.out⟩
    · have z2 : ((c.funcs.length : Int) == 0) = false := beq_eq_false_iff_ne.2 (by omega)
      by_cases z3 : 300 < ch.length
      · have z3' : (300 : Int) < (ch.length : Int) := by omega
        go_wp2_with fail
        go_ret
        exact ⟨rfl, HE0.out.ext H4.out⟩
      · have z3' : ¬ ((300 : Int) < (ch.length : Int)) := by omega
        go_wp2_with fail
        refine (CK.out _ (HE0.out.ext H4.out)).mono ?_
        rintro e w5 ⟨rfl, h5⟩
        have H5 := Lib.hid (H4.out.ext h5)
        clear h5 k0 k1 k2
        have hz := HX.out w5 H5.out
        have k0 := cellRow hz 0 _ rfl
        have k1 := cellRow hz 1 _ rfl
        have k2 := cellRow hz 2 _ rfl
        clear hz
        by_cases z4 : x3 = 0
        · subst z4
          obtain ⟨hform, hz0⟩ := ckP_zero HX3.out
          rw [hform] at CF
          have HFO := Lib.hid hform
          have HZ0 := Lib.hid hz0
          clear hform hz0
          go_wp2_with fail
          refine (CF.out _ (HE0.out.ext H5.out)).mono ?_
          rintro e w6 ⟨rfl, h6⟩
          have H6 := Lib.hid (H5.out.ext h6)
          clear h6 k0 k1 k2
          have hz := HX.out w6 H6.out
          have k0 := cellRow hz 0 _ rfl
          have k1 := cellRow hz 1 _ rfl
          have k2 := cellRow hz 2 _ rfl
          clear hz
          obtain ⟨j, hj⟩ : ∃ j, nf % c.funcs.length = j := ⟨_, rfl⟩
          have hlt : j < c.funcs.length := by rw [← hj]; exact Nat.mod_lt _ (by omega)
          have hmod : Int.tmod (nf : Int) (c.funcs.length : Int) = (j : Int) := by rw [Int.tmod_eq_emod_of_nonneg (by omega), ← hj]; rfl
          have zw : IntKind.i64.wrap (nf : Int) = nf := IntWalk.i64_in _ (by omega)
          obtain ⟨f0, hf0⟩ : ∃ f0, (c.funcs.getD j default) = f0 := ⟨_, rfl⟩
          have hmem : f0 ∈ c.funcs := by rw [← hf0]; exact fn_mem hlt
          have h00 := HZ0.out j hlt
          rw [hf0] at h00
          obtain ⟨hhead, _⟩ := formed_parts HFO.out
          obtain ⟨_, _, _, _, _, hL1, hL2⟩ := fn1_parts (head_fn hhead hmem)
          obtain ⟨s1, s2, s3⟩ := hP_sound HFO.out hmem h00
          have hq : hgP c (j : Int) = ((hP c f0).1, 0) := by
            unfold hgP
            rw [if_neg (by rw [hhead]; decide), if_neg (by rw [HFO.out]; decide), if_neg (by omega), Int.toNat_natCast, hf0, h00]
          obtain ⟨nh, hnh⟩ : ∃ nh, (hP c f0).1 = nh := ⟨_, rfl⟩
          rw [hnh] at hq s1 s2 s3
          have HH0 := Lib.hid s2
          have HOK := Lib.hid s3
          have HRT : Hid (∀ k, k < f0.code.length → rightB c f0 (f0.code.getD k (0, 0)).1 (f0.code.getD k (0, 0)).2 = true) := fun k hk => formed_right HFO.out hmem hk
          have HMB : Hid (∀ op x, rightB c f0 op x = true → 0 ≤ (mvP c f0 op x).1 ∧ (mvP c f0 op x).1 ≤ 6 ∧ 0 ≤ (mvP c f0 op x).2 ∧ (mvP c f0 op x).2 ≤ 2) := fun op x hr => mv_bd hhead f0 op x hr
          have CH2 := Lib.hid (fun W (hW : Ext w W) => CHG.out (j : Int) W hW)
          rw [hq] at CH2
          have HF := (HN.out.kept HE0.out).at hlt
          rw [hf0] at HF
          obtain ⟨g, off, cap', hv, hcap, c0, c1, c2, c3, c4, hfr⟩ := HF
          injection hv with e1 e2 e3
          subst e1; subst e3
          obtain ⟨g2, off2, cap2, hv2, hc2, _, _⟩ := hfr.at hL1
          have CM : Hid (∀ W, Ext (w.alloc (.cells #[.slice xa c.fields.length ca, .int .i64 c.glob, .slice (some ⟨g, off, none⟩) c.funcs.length cf] 25)) W → ∀ op x, rightB c f0 op x = true → Calls Tryd.prog 14 #[.agg #[.slice xa c.fields.length ca, .int .i64 c.glob, .slice (some ⟨g, off, none⟩) c.funcs.length cf], .agg #[.string f0.name, .int .i64 f0.params, .int .i64 f0.locals, .bool f0.result, .slice (some ⟨g2, off2, none⟩) f0.code.length cap2], .agg #[.int .i64 op, .int .i64 x]] W fun e w' => e = .returned (.tuple #[.int .i64 (mvP c f0 op x).1, .int .i64 (mvP c f0 op x).2]) ∧ Ext W w') := fun W hW op x hr => by
            have := rmoves_x _ _ c f0 op x W (HN.out.kept (HE0.out.ext hW)) (hfr.kept hW) hr
            rw [hv2] at this
            exact this
          rw [hv2] at c4
          have HCELL : Hid (∀ W, Ext (w.alloc (.cells #[.slice xa c.fields.length ca, .int .i64 c.glob, .slice (some ⟨g, off, none⟩) c.funcs.length cf] 25)) W → W.cell? ⟨g, off + j * 5, none⟩ = some (.string f0.name) ∧ W.cell? ⟨g, off + j * 5 + 1, none⟩ = some (.int .i64 f0.params) ∧ W.cell? ⟨g, off + j * 5 + 2, none⟩ = some (.int .i64 f0.locals) ∧ W.cell? ⟨g, off + j * 5 + 3, none⟩ = some (.bool f0.result) ∧ W.cell? ⟨g, off + j * 5 + 4, none⟩ = some (.slice (some ⟨g2, off2, none⟩) f0.code.length cap2)) := fun W hW =>
            ⟨hW.cell c0 (fun h => h), hW.cell c1 (fun h => h), hW.cell c2 (fun h => h), hW.cell c3 (fun h => h), hW.cell c4 (fun h => h)⟩
          have HINS : Hid (∀ W, Ext (w.alloc (.cells #[.slice xa c.fields.length ca, .int .i64 c.glob, .slice (some ⟨g, off, none⟩) c.funcs.length cf] 25)) W → ∀ k, k < f0.code.length → W.cell? ⟨g2, off2 + k * 2, none⟩ = some (.int .i64 (f0.code.getD k (0, 0)).1) ∧ W.cell? ⟨g2, off2 + k * 2 + 1, none⟩ = some (.int .i64 (f0.code.getD k (0, 0)).2)) := fun W hW k hk => by
            obtain ⟨g3, off3, cap3, hv3, _, d0, d1⟩ := (hfr.kept hW).at hk
            rw [hv2] at hv3
            injection hv3 with e1 e2 e3
            injection e1 with e1
            injection e1 with e4 e5
            subst e4; subst e5
            exact ⟨d0, d1⟩
          clear hj hhead hmem h00 s2 s3 hq hnh hf0 hv2 hc2 hcap c0 c1 c2 c3 c4 hfr e2
          have i0' : (0 : Int) ≤ (j : Int) := by omega
          have i1' : (j : Int) < (c.funcs.length : Int) := by omega
          go_wp2_with fail
          refine (CH2.out _ (HE0.out.ext H6.out)).mono ?_
          rintro e w7 ⟨v, rfl, hs, h7⟩
          have HS7 := Lib.hid hs
          have H7 := Lib.hid (H6.out.ext h7)
          obtain ⟨va, vc, hv⟩ := hs.shape
          subst hv
          clear h7 k0 k1 k2 i0' i1'
          have hz := HX.out w7 H7.out
          have k0 := cellRow hz 0 _ rfl
          have k1 := cellRow hz 1 _ rfl
          have k2 := cellRow hz 2 _ rfl
          clear hz
          obtain ⟨c0, c1, c2, c3, c4⟩ := HCELL.out w7 H7.out
          have i0' : (0 : Int) ≤ (j : Int) := by omega
          have i1' : (j : Int) < (c.funcs.length : Int) := by omega
          obtain ⟨ga, oa, cva, hva, _, _, _⟩ := hs.pos (by omega)
          injection hva with e1 e2 e3
          subst e1; subst e3
          have HSN : Hid (SlR Any1 w7 1 (.slice (some ⟨ga, oa, none⟩) nh.length vc) nh.length (ints nh)) := hs
          have q6 : ((nh.length : Int) == (f0.code.length : Int)) = true := beq_iff_eq.2 (by omega)
          have q7 : ((nh.length : Int) != (f0.code.length : Int)) = false := by rw [bne, q6]; rfl
          clear hs HS7 e2
          go_wp2_with fail
          clear k0 k1 k2 c0 c1 c2 c3 c4 q6 q7 hmod zw i0' i1'
          go_loopg [14, 15, 17, 18, 19, 20, 80] ch.length (fun gk s14 s15 _ _ _ _ s80 wr => ∃ (i k : Nat) (n : Int), s14 = .int .i64 k ∧ s15 = .int .i64 n ∧ s80 = .int .i64 i ∧ gk = ch.length - i ∧ i ≤ ch.length ∧ k < f0.code.length ∧ 0 ≤ n ∧ n ≤ 2 * (i : Int) ∧ Hid (nh.getD k (-1) = n) ∧ Hid (Ext (w.alloc (.cells #[.slice xa c.fields.length ca, .int .i64 c.glob, .slice (some ⟨g, off, none⟩) c.funcs.length cf] 25)) wr) ∧ Hid (Ext w7 wr))
          case atStart => exact ⟨0, 0, 0, rfl, rfl, rfl, rfl, Nat.zero_le _, by omega, Int.le_refl _, Int.le_refl _, HH0, H7, Upd.refl _ _⟩
          case round =>
            obtain ⟨i, k, n, rfl, rfl, rfl, rfl, hi, hk, hn0, hn1, HNK, HE, HE7⟩ := hrel
            have hz := HX.out wr HE.out
            have k0 := cellRow hz 0 _ rfl
            have k1 := cellRow hz 1 _ rfl
            have k2 := cellRow hz 2 _ rfl
            clear hz
            by_cases hil : i < ch.length
            · obtain ⟨gb, ob, cb', hvb, hcb, _, hjb⟩ := (HCH.out.kept (HE0.out.ext HE.out) (fun _ _ h => h)).pos (by omega)
              injection hvb with q1 q2 q3
              subst q1; subst q3
              obtain ⟨nb, hnb⟩ : ∃ nb, ch.getD i 0 = nb := ⟨_, rfl⟩
              have hnb2 : nb < 256 := by
                rw [← hnb]; exact HU8.out _ (by simp [hil])
              have b0 := hjb i (by omega)
              have eb : (ch.map fun (m : Nat) => Value.int .u8 (m : Int))[i]? = some (.int .u8 (nb : Int)) := by rw [← hnb]; simp [hil]
              rw [eb] at b0
              obtain ⟨c0, c1, c2, c3, c4⟩ := HCELL.out wr HE.out
              obtain ⟨d0, d1⟩ := HINS.out wr HE.out k hk
              obtain ⟨⟨op, x⟩, hop⟩ : ∃ ox, f0.code.getD k (0, 0) = ox := ⟨_, rfl⟩
              have hrt := HRT.out k hk
              have hok := HOK.out k hk (by rw [HNK.out]; exact hn0)
              unfold okAt at hok
              rw [hop] at d0 d1 hrt hok
              dsimp only at d0 d1 hrt hok
              obtain ⟨hm0, hm1, hm2, hm3⟩ := HMB.out op x hrt
              obtain ⟨⟨p, q⟩, hpq⟩ : ∃ pq, mvP c f0 op x = pq := ⟨_, rfl⟩
              have HRET : Hid (op = 10 → q = 0) := fun e => by
                subst e
                have : (mvP c f0 10 x).2 = 0 := by unfold mvP; simp
                rw [hpq] at this; exact this
              rw [hpq, HNK.out] at hok
              rw [hpq] at hm0 hm1 hm2 hm3
              dsimp only at hok hm0 hm1 hm2 hm3
              obtain ⟨ok1, ok2, ok3⟩ := hok
              have HOK2 := Lib.hid ok2
              have HOK3 := Lib.hid ok3
              have HRR := Lib.hid hrt
              have HCALL : Hid (∀ y : XW wr, Calls Tryd.prog 14 #[.agg #[.slice xa c.fields.length ca, .int .i64 c.glob, .slice (some ⟨g, off, none⟩) c.funcs.length cf], .agg #[.string f0.name, .int .i64 f0.params, .int .i64 f0.locals, .bool f0.result, .slice (some ⟨g2, off2, none⟩) f0.code.length cap2], .agg #[.int .i64 op, .int .i64 x]] y.val fun e w' => e = .returned (.tuple #[.int .i64 p, .int .i64 q]) ∧ Ext y.val w') := fun y => by
                have := CM.out y.val (HE.out.ext y.ext) op x HRR.out
                rw [hpq] at this
                exact this
              have i0' : (0 : Int) ≤ (j : Int) := by omega
              have i1' : (j : Int) < (c.funcs.length : Int) := by omega
              have j0' : (0 : Int) ≤ (k : Int) := by omega
              have j1' : (k : Int) < (f0.code.length : Int) := by omega
              have j2' : (k : Int) < (nh.length : Int) := by omega
              have u0' : (0 : Int) ≤ (i : Int) := by omega
              have u1' : (i : Int) < (ch.length : Int) := by omega
              have HB0 := Lib.hid hop
              have hX0 : ∀ x : XW wr, x.val.cell? ⟨w.heap.size, 0, none⟩ = some (.slice xa c.fields.length ca) := fun x => x.ext.cell k0 (fun h => h)
              have hX1 : ∀ x : XW wr, x.val.cell? ⟨w.heap.size, 1, none⟩ = some (.int .i64 c.glob) := fun x => x.ext.cell k1 (fun h => h)
              have hX2 : ∀ x : XW wr, x.val.cell? ⟨w.heap.size, 2, none⟩ = some (.slice (some ⟨g, off, none⟩) c.funcs.length cf) := fun x => x.ext.cell k2 (fun h => h)
              have hY0 : ∀ x : XW wr, x.val.cell? ⟨g, off + j * 5, none⟩ = some (.string f0.name) := fun x => x.ext.cell c0 (fun h => h)
              have hY1 : ∀ x : XW wr, x.val.cell? ⟨g, off + j * 5 + 1, none⟩ = some (.int .i64 f0.params) := fun x => x.ext.cell c1 (fun h => h)
              have hY2 : ∀ x : XW wr, x.val.cell? ⟨g, off + j * 5 + 2, none⟩ = some (.int .i64 f0.locals) := fun x => x.ext.cell c2 (fun h => h)
              have hY3 : ∀ x : XW wr, x.val.cell? ⟨g, off + j * 5 + 3, none⟩ = some (.bool f0.result) := fun x => x.ext.cell c3 (fun h => h)
              have hY4 : ∀ x : XW wr, x.val.cell? ⟨g, off + j * 5 + 4, none⟩ = some (.slice (some ⟨g2, off2, none⟩) f0.code.length cap2) := fun x => x.ext.cell c4 (fun h => h)
              have hZ0 : ∀ y : XW wr, y.val.cell? ⟨g2, off2 + k * 2, none⟩ = some (.int .i64 op) := fun y => y.ext.cell d0 (fun h => h)
              have hZ1 : ∀ y : XW wr, y.val.cell? ⟨g2, off2 + k * 2 + 1, none⟩ = some (.int .i64 x) := fun y => y.ext.cell d1 (fun h => h)
              have hrf : Ext wr wr := Upd.refl _ _
              clear hjb q2 hnb hop hpq hrt ok2 ok3 eb hcb
              go_wp2_with fail
              refine wp_region_ext wr (by assumption) (by kernel_rfl) (by kernel_rfl) ?_
              repeat (first | go_big_quiet_skip | (go_big_quiet_want; go_big_quiet_op; first | go_big_quiet_on | (apply Exists.intro; refine ⟨fun x => ?_, ?_⟩; ((go_at_call 14; exact XW.call (HCALL.out _))); go_big_quiet_on)))
              refine wpQuiet_nil ?_
              rintro w8 ⟨⟨_, hyw8⟩, rfl⟩
              try dsimp only
              have HE8 := Lib.hid (HE.out.ext hyw8)
              have HE78 := Lib.hid (HE7.out.ext hyw8)
              have a0 := (HSN.out.kept HE78.out (fun _ _ h => h)).cellAt (j := k) rfl (by omega)
              rw [ints_get nh k (by omega), HNK.out] at a0
              obtain ⟨d0, d1⟩ := HINS.out w8 HE8.out k hk
              rw [HB0.out] at d0 d1
              dsimp only at d0 d1
              have q1 : (n == n) = true := beq_iff_eq.2 rfl
              have q2 : (n != n) = false := by rw [bne, q1]; rfl
              have b0 := hyw8.cell b0 (fun h => h)
              clear hyw8 hrf hX0 hX1 hX2 hY0 hY1 hY2 hY3 hY4 hZ0 hZ1 HCALL k0 k1 k2 c0 c1 c2 c3 c4
              go_wp2_with fail
              refine (rnext_x op x k _ (by omega)).mono ?_
              rintro e w9 ⟨nv, rfl, hns, h9⟩
              obtain ⟨nl, hnl⟩ : ∃ nl, nxt op x k = nl := ⟨_, rfl⟩
              have hn2 := nxt_len op x k
              rw [hnl] at hns hn2
              obtain ⟨nA, nC, hnv⟩ := hns.shape
              subst hnv
              have HK3 : Hid (∀ t ∈ nl, 0 ≤ t ∧ t < nh.length ∧ nh.getD t.toNat (-1) = n - p + q) := fun t ht => by
                rw [← hnl] at ht
                exact ⟨nxt_nn HRR.out t ht, HOK3.out t ht⟩
              have HE9 := Lib.hid (HE8.out.ext ((Upd.refl _ _).trans h9))
              have HNS := Lib.hid hns
              have H79 := Lib.hid (HE78.out.ext ((Upd.refl _ _).trans h9))
              by_cases hnl0 : nl.length = 0
              · have e10 : op = 10 := by
                  rw [← hnl] at hnl0
                  unfold nxt at hnl0
                  by_cases z : op = 10
                  · exact z
                  · rw [if_neg z] at hnl0
                    (repeat' split at hnl0) <;> simp at hnl0
                have e11 := HOK2.out e10
                have e12 := HRET.out e10
                have q4 : ((nl.length : Int) == 0) = true := by rw [hnl0]; rfl
                have q5 : (n + (q - p) == 0) = true := beq_iff_eq.2 (by omega)
                clear hns h9 hnl e10 e11 e12 hnl0
                go_wp2_with fail
                go_ret
                exact ⟨rfl, HE0.out.ext HE9.out⟩
              · obtain ⟨m, hm⟩ : ∃ m, nb % nl.length = m := ⟨_, rfl⟩
                have hml : m < nl.length := by rw [← hm]; exact Nat.mod_lt _ (by omega)
                have hmod : Int.tmod (nb : Int) (nl.length : Int) = (m : Int) := by rw [Int.tmod_eq_emod_of_nonneg (by omega), ← hm]; rfl
                obtain ⟨gx, ox, cx, hvx, hcx, _, hjx⟩ := HNS.out.pos (by omega)
                injection hvx with q1' q2' q3'
                subst q1'; subst q3'
                obtain ⟨t, ht⟩ : ∃ t, nl.getD m (-1) = t := ⟨_, rfl⟩
                have x0 := hjx m (by omega)
                have ex : (nl.map (Value.int .i64))[m]? = some (.int .i64 t) := by rw [← ht]; simp [hml]
                rw [ex] at x0
                obtain ⟨t0, t1, t2⟩ := HK3.out t (by rw [← ht]; simp [hml])
                have q4 : ((nl.length : Int) == 0) = false := beq_eq_false_iff_ne.2 (by omega)
                obtain ⟨t', rfl⟩ : ∃ t' : Nat, t = t' := ⟨t.toNat, by omega⟩
                have m0' : (0 : Int) ≤ (m : Int) := by omega
                have m1' : (m : Int) < (nl.length : Int) := by omega
                have t3 : ¬ ((t' : Int) < 0) := by omega
                have t4 : (t' : Int) < (f0.code.length : Int) := by omega
                have zw : IntKind.i64.wrap (nb : Int) = nb := IntWalk.i64_in _ (by omega)
                clear hns h9 hnl hjx ex hm ht q2'
                go_wp2_with fail
                go_roundg (ch.length - (i + 1))
                case measure => omega
                case rel => exact ⟨i + 1, t', n - p + q, rfl, by go_num, by go_num, rfl, by omega, by omega, by omega, by omega, t2, HE9, H79⟩
            · go_wp2_with fail
              go_ret
              exact ⟨rfl, HE0.out.ext HE.out⟩
        · have z5 : (x3 == 0) = false := beq_eq_false_iff_ne.2 z4
          have z6 : (x3 != 0) = true := bne_iff_ne.2 z4
          go_wp2_with fail
          go_ret
          exact ⟨rfl, HE0.out.ext H5.out⟩

end Go.Proofs.YtlbnilhbfiidmaaDoor
