/- The law BytecodeChecks. -/
import Derived.Test.YtlbnilhbfiidmaaDoorB23
import Derived.Test.YtlbnilhbfiidmaaDoorB21
namespace Go.Proofs.YtlbnilhbfiidmaaDoor
open Go.RowKit Go.Hw
set_option linter.unusedVariables false
set_option linter.unusedSimpArgs false

theorem suc_len (n : Int) : ∀ (l h : List Int), (suc n l h).2.length = h.length
  | [], h => rfl
  | k :: ks, h => by
    unfold suc
    split
    · rfl
    · split
      · rfl
      · rw [suc_len n ks]; simp
theorem hts_len (c : Cd) (f : Fn) : ∀ (g : Nat) (h : List Int) (d : List Bool), (hts c f g h d).1.length ≤ h.length
  | 0, h, d => Nat.le_refl _
  | g + 1, h, d => by
    rw [hts]
    split
    · exact Nat.le_refl _
    · split
      · simp
      · split
        · simp
        · split
          · refine Nat.le_trans (hts_len c f g _ _) ?_
            rw [suc_len]; exact Nat.le_refl _
          · simp
theorem hP_len {c : Cd} {f : Fn} (h : formB c = true) (hf : f ∈ c.funcs) : (hP c f).1.length ≤ 2000000 := by
  obtain ⟨h1, _⟩ := formed_parts h
  obtain ⟨_, _, _, _, _, _, h2⟩ := fn1_parts (head_fn h1 hf)
  have := hts_len c f (f.code.length + 1) ((List.replicate f.code.length (-1)).set 0 0) (List.replicate f.code.length false)
  unfold hP
  simp at this ⊢
  omega

set_option maxRecDepth 100000 in
set_option maxHeartbeats 4000000 in
/-- The law BytecodeChecks. -/
theorem checks_law (a fv : Value) (c : Cd) (w : World) (h : CdR w a fv c) (htab : AscT w) (hT : ∀ W, Ext w W → TabAt 0 Lib.deBruijn64tab W) (i : Int) : Calls Tryd.prog 3 #[.agg #[a, .int .i64 c.glob, fv], .int .i64 i] w fun e w' => e = .returned (.bool true) ∧ Ext w w' := by
  obtain ⟨⟨xa, ca, rfl⟩, xf, cf, rfl⟩ := h.shapes
  have HN := Lib.hid h
  have HX : Hid (∀ W, Ext (w.alloc (.cells #[.slice xa c.fields.length ca, .int .i64 c.glob, .slice xf c.funcs.length cf] 25)) W → W.heap[w.heap.size]? = some (.cells #[.slice xa c.fields.length ca, .int .i64 c.glob, .slice xf c.funcs.length cf] 25)) := fun W hW => hW.heap (alloc0 w _) (fun h => h)
  have HE0 : Hid (Ext w (w.alloc (.cells #[.slice xa c.fields.length ca, .int .i64 c.glob, .slice xf c.funcs.length cf] 25))) := (Upd.refl _ w).alloc _
  have hl1 := h.l1
  have hl2 := h.l2
  clear h
  have CA : Hid (∀ W, Ext w W → Calls Tryd.prog 5 #[] W fun e w' => e = .returned (.bool true) ∧ Ext W w') := fun W hW => awake_x W (asc_ext htab hW) (fun V hV => hT V (hW.ext hV))
  have CG : Hid (∀ W, Ext w W → Calls Tryd.prog 6 #[.agg #[.slice xa c.fields.length ca, .int .i64 c.glob, .slice xf c.funcs.length cf]] W (GreatP c W)) := fun W hW => great_x _ _ c W (HN.out.kept hW)
  have CK : Hid (∀ W, Ext w W → Calls Tryd.prog 7 #[.agg #[.slice xa c.fields.length ca, .int .i64 c.glob, .slice xf c.funcs.length cf]] W fun e w' => e = .returned (.tuple #[.int .i64 (ckP c).1, .int .i64 (ckP c).2.1, .int .i64 (ckP c).2.2]) ∧ Ext W w') := fun W hW => check_x _ _ c W (HN.out.kept hW) (asc_ext htab hW) (fun V hV => hT V (hW.ext hV))
  have CR : Hid (∀ W, Ext w W → Calls Tryd.prog 8 #[.agg #[.slice xa c.fields.length ca, .int .i64 c.glob, .slice xf c.funcs.length cf]] W fun e w' => e = .returned (.tuple #[.int .i64 (ckP c).1, .int .i64 (ckP c).2.1, .int .i64 (ckP c).2.2]) ∧ Ext W w') := fun W hW => rcheck_x _ _ c W (HN.out.kept hW)
  have CHG : Hid (∀ W, Ext w W → Calls Tryd.prog 9 #[.agg #[.slice xa c.fields.length ca, .int .i64 c.glob, .slice xf c.funcs.length cf], .int .i64 i] W (HgtP c i W)) := fun W hW => hgt_x _ _ c W (HN.out.kept hW) (asc_ext htab hW) (fun V hV => hT V (hW.ext hV)) i
  have CH : Hid (∀ W, Ext w W → Calls Tryd.prog 10 #[.agg #[.slice xa c.fields.length ca, .int .i64 c.glob, .slice xf c.funcs.length cf]] W fun e w' => e = .returned (.bool (headB c)) ∧ Ext W w') := fun W hW => rhead_x _ _ c W (HN.out.kept hW)
  have CF : Hid (∀ W, Ext w W → Calls Tryd.prog 11 #[.agg #[.slice xa c.fields.length ca, .int .i64 c.glob, .slice xf c.funcs.length cf]] W fun e w' => e = .returned (.bool (formB c)) ∧ Ext W w') := fun W hW => rformed_x _ _ c W (HN.out.kept hW)
  have CT : Hid (∀ W, Ext w W → ∀ f, formB c = true → f ∈ c.funcs → FnR W f → Calls Tryd.prog 12 #[.agg #[.slice xa c.fields.length ca, .int .i64 c.glob, .slice xf c.funcs.length cf], .agg #[.string f.name, .int .i64 f.params, .int .i64 f.locals, .bool f.result, f.v]] W (HtsP c f W)) := fun W hW f h1 h2 h3 => rheights_x _ _ c f W (HN.out.kept hW) h3 h1 h2
  clear htab hT
  unfold GreatP at CG
  unfold HgtP at CHG
  obtain ⟨x1, hx1⟩ : ∃ x, (ckP c).1 = x := ⟨_, rfl⟩
  obtain ⟨x2, hx2⟩ : ∃ x, (ckP c).2.1 = x := ⟨_, rfl⟩
  obtain ⟨x3, hx3⟩ : ∃ x, (ckP c).2.2 = x := ⟨_, rfl⟩
  rw [hx1, hx2, hx3] at CK CR
  clear hx1 hx2 hx3
  have hz := HX.out (w.alloc (.cells #[.slice xa c.fields.length ca, .int .i64 c.glob, .slice xf c.funcs.length cf] 25)) (Upd.refl _ _)
  have k0 := cellRow hz 0 _ rfl
  have k1 := cellRow hz 1 _ rfl
  have k2 := cellRow hz 2 _ rfl
  clear hz
  cases hh : headB c with
  | false =>
    have hq : hgP c i = ([], 1) := by unfold hgP; rw [if_pos hh]
    rw [hq] at CHG
    rw [hh] at CH
    clear hh hq
    go_enter Tryd.func3, Tryd.ntmps3
    go_wp2_with fail
    refine (CA.out _ HE0.out).mono ?_
    rintro e w3 ⟨rfl, h3⟩
    have H3 := Lib.hid h3
    clear h3 k0 k1 k2
    have hz := HX.out w3 H3.out
    have k0 := cellRow hz 0 _ rfl
    have k1 := cellRow hz 1 _ rfl
    have k2 := cellRow hz 2 _ rfl
    clear hz
    go_wp2_with fail
    refine (CG.out _ (HE0.out.ext H3.out)).mono ?_
    rintro e w4 ⟨b, rfl, _, h4⟩
    have H4 := Lib.hid (H3.out.ext h4)
    clear h4 k0 k1 k2
    have hz := HX.out w4 H4.out
    have k0 := cellRow hz 0 _ rfl
    have k1 := cellRow hz 1 _ rfl
    have k2 := cellRow hz 2 _ rfl
    clear hz
    cases b with
    | true =>
      go_wp2_with fail
      go_ret
      exact ⟨rfl, HE0.out.ext H4.out⟩
    | false =>
      go_wp2_with fail
      refine (CK.out _ (HE0.out.ext H4.out)).mono ?_
      rintro e w5 ⟨rfl, h5⟩
      have H5 := Lib.hid (H4.out.ext h5)
      clear h5 k0 k1 k2
      have hz := HX.out w5 H5.out
      have k0 := cellRow hz 0 _ rfl
      have k1 := cellRow hz 1 _ rfl
      have k2 := cellRow hz 2 _ rfl
      clear hz
      go_wp2_with fail
      refine (CR.out _ (HE0.out.ext H5.out)).mono ?_
      rintro e w6 ⟨rfl, h6⟩
      have H6 := Lib.hid (H5.out.ext h6)
      clear h6 k0 k1 k2
      have hz := HX.out w6 H6.out
      have k0 := cellRow hz 0 _ rfl
      have k1 := cellRow hz 1 _ rfl
      have k2 := cellRow hz 2 _ rfl
      clear hz
      have q1 : (x1 == x1) = true := beq_iff_eq.2 rfl
      have q2 : (x2 == x2) = true := beq_iff_eq.2 rfl
      have q3 : (x3 == x3) = true := beq_iff_eq.2 rfl
      go_wp2_with fail
      refine (CHG.out _ (HE0.out.ext H6.out)).mono ?_
      rintro e w7 ⟨v, rfl, hs, h7⟩
      have HS7 := Lib.hid hs
      have H7 := Lib.hid (H6.out.ext h7)
      obtain ⟨va, vc, hv⟩ := hs.shape
      subst hv
      clear h7 hs k0 k1 k2 q1 q2 q3
      have hz := HX.out w7 H7.out
      have k0 := cellRow hz 0 _ rfl
      have k1 := cellRow hz 1 _ rfl
      have k2 := cellRow hz 2 _ rfl
      clear hz
      go_wp2_with fail
      refine (CH.out _ (HE0.out.ext H7.out)).mono ?_
      rintro e w8 ⟨rfl, h8⟩
      have H8 := Lib.hid (H7.out.ext h8)
      have HS8 := Lib.hid (HS7.out.kept h8 (fun _ _ h => h))
      clear h8 k0 k1 k2
      have hz := HX.out w8 H8.out
      have k0 := cellRow hz 0 _ rfl
      have k1 := cellRow hz 1 _ rfl
      have k2 := cellRow hz 2 _ rfl
      clear hz
      go_wp2_with fail
      go_ret
      exact ⟨rfl, HE0.out.ext H8.out⟩
  | true =>
    rw [hh] at CH
    cases hf : formB c with
    | false =>
      have hq : hgP c i = ([], 7) := by unfold hgP; rw [if_neg (by rw [hh]; decide), if_pos hf]
      rw [hq] at CHG
      rw [hf] at CF
      clear hh hq hf
      go_enter Tryd.func3, Tryd.ntmps3
      go_wp2_with fail
      refine (CA.out _ HE0.out).mono ?_
      rintro e w3 ⟨rfl, h3⟩
      have H3 := Lib.hid h3
      clear h3 k0 k1 k2
      have hz := HX.out w3 H3.out
      have k0 := cellRow hz 0 _ rfl
      have k1 := cellRow hz 1 _ rfl
      have k2 := cellRow hz 2 _ rfl
      clear hz
      go_wp2_with fail
      refine (CG.out _ (HE0.out.ext H3.out)).mono ?_
      rintro e w4 ⟨b, rfl, _, h4⟩
      have H4 := Lib.hid (H3.out.ext h4)
      clear h4 k0 k1 k2
      have hz := HX.out w4 H4.out
      have k0 := cellRow hz 0 _ rfl
      have k1 := cellRow hz 1 _ rfl
      have k2 := cellRow hz 2 _ rfl
      clear hz
      cases b with
      | true =>
        go_wp2_with fail
        go_ret
        exact ⟨rfl, HE0.out.ext H4.out⟩
      | false =>
        go_wp2_with fail
        refine (CK.out _ (HE0.out.ext H4.out)).mono ?_
        rintro e w5 ⟨rfl, h5⟩
        have H5 := Lib.hid (H4.out.ext h5)
        clear h5 k0 k1 k2
        have hz := HX.out w5 H5.out
        have k0 := cellRow hz 0 _ rfl
        have k1 := cellRow hz 1 _ rfl
        have k2 := cellRow hz 2 _ rfl
        clear hz
        go_wp2_with fail
        refine (CR.out _ (HE0.out.ext H5.out)).mono ?_
        rintro e w6 ⟨rfl, h6⟩
        have H6 := Lib.hid (H5.out.ext h6)
        clear h6 k0 k1 k2
        have hz := HX.out w6 H6.out
        have k0 := cellRow hz 0 _ rfl
        have k1 := cellRow hz 1 _ rfl
        have k2 := cellRow hz 2 _ rfl
        clear hz
        have q1 : (x1 == x1) = true := beq_iff_eq.2 rfl
        have q2 : (x2 == x2) = true := beq_iff_eq.2 rfl
        have q3 : (x3 == x3) = true := beq_iff_eq.2 rfl
        go_wp2_with fail
        refine (CHG.out _ (HE0.out.ext H6.out)).mono ?_
        rintro e w7 ⟨v, rfl, hs, h7⟩
        have HS7 := Lib.hid hs
        have H7 := Lib.hid (H6.out.ext h7)
        obtain ⟨va, vc, hv⟩ := hs.shape
        subst hv
        clear h7 hs k0 k1 k2 q1 q2 q3
        have hz := HX.out w7 H7.out
        have k0 := cellRow hz 0 _ rfl
        have k1 := cellRow hz 1 _ rfl
        have k2 := cellRow hz 2 _ rfl
        clear hz
        go_wp2_with fail
        refine (CH.out _ (HE0.out.ext H7.out)).mono ?_
        rintro e w8 ⟨rfl, h8⟩
        have H8 := Lib.hid (H7.out.ext h8)
        have HS8 := Lib.hid (HS7.out.kept h8 (fun _ _ h => h))
        clear h8 k0 k1 k2
        have hz := HX.out w8 H8.out
        have k0 := cellRow hz 0 _ rfl
        have k1 := cellRow hz 1 _ rfl
        have k2 := cellRow hz 2 _ rfl
        clear hz
        go_wp2_with fail
        refine (CF.out _ (HE0.out.ext H8.out)).mono ?_
        rintro e w9 ⟨rfl, h9⟩
        have H9 := Lib.hid (H8.out.ext h9)
        have HS9 := Lib.hid (HS8.out.kept h9 (fun _ _ h => h))
        clear h9 k0 k1 k2
        have hz := HX.out w9 H9.out
        have k0 := cellRow hz 0 _ rfl
        have k1 := cellRow hz 1 _ rfl
        have k2 := cellRow hz 2 _ rfl
        clear hz
        go_wp2_with fail
        go_ret
        exact ⟨rfl, HE0.out.ext H9.out⟩
    | true =>
      rw [hf] at CF
      have HQ := Lib.hid hf
      by_cases p1 : i < 0
      · have hq : hgP c i = ([], 2) := by unfold hgP; rw [if_neg (by rw [hh]; decide), if_neg (by rw [hf]; decide), if_pos (.inl p1)]
        rw [hq] at CHG
        clear hh hq hf
        go_enter Tryd.func3, Tryd.ntmps3
        go_wp2_with fail
        refine (CA.out _ HE0.out).mono ?_
        rintro e w3 ⟨rfl, h3⟩
        have H3 := Lib.hid h3
        clear h3 k0 k1 k2
        have hz := HX.out w3 H3.out
        have k0 := cellRow hz 0 _ rfl
        have k1 := cellRow hz 1 _ rfl
        have k2 := cellRow hz 2 _ rfl
        clear hz
        go_wp2_with fail
        refine (CG.out _ (HE0.out.ext H3.out)).mono ?_
        rintro e w4 ⟨b, rfl, _, h4⟩
        have H4 := Lib.hid (H3.out.ext h4)
        clear h4 k0 k1 k2
        have hz := HX.out w4 H4.out
        have k0 := cellRow hz 0 _ rfl
        have k1 := cellRow hz 1 _ rfl
        have k2 := cellRow hz 2 _ rfl
        clear hz
        cases b with
        | true =>
          go_wp2_with fail
          go_ret
          exact ⟨rfl, HE0.out.ext H4.out⟩
        | false =>
          go_wp2_with fail
          refine (CK.out _ (HE0.out.ext H4.out)).mono ?_
          rintro e w5 ⟨rfl, h5⟩
          have H5 := Lib.hid (H4.out.ext h5)
          clear h5 k0 k1 k2
          have hz := HX.out w5 H5.out
          have k0 := cellRow hz 0 _ rfl
          have k1 := cellRow hz 1 _ rfl
          have k2 := cellRow hz 2 _ rfl
          clear hz
          go_wp2_with fail
          refine (CR.out _ (HE0.out.ext H5.out)).mono ?_
          rintro e w6 ⟨rfl, h6⟩
          have H6 := Lib.hid (H5.out.ext h6)
          clear h6 k0 k1 k2
          have hz := HX.out w6 H6.out
          have k0 := cellRow hz 0 _ rfl
          have k1 := cellRow hz 1 _ rfl
          have k2 := cellRow hz 2 _ rfl
          clear hz
          have q1 : (x1 == x1) = true := beq_iff_eq.2 rfl
          have q2 : (x2 == x2) = true := beq_iff_eq.2 rfl
          have q3 : (x3 == x3) = true := beq_iff_eq.2 rfl
          go_wp2_with fail
          refine (CHG.out _ (HE0.out.ext H6.out)).mono ?_
          rintro e w7 ⟨v, rfl, hs, h7⟩
          have HS7 := Lib.hid hs
          have H7 := Lib.hid (H6.out.ext h7)
          obtain ⟨va, vc, hv⟩ := hs.shape
          subst hv
          clear h7 hs k0 k1 k2 q1 q2 q3
          have hz := HX.out w7 H7.out
          have k0 := cellRow hz 0 _ rfl
          have k1 := cellRow hz 1 _ rfl
          have k2 := cellRow hz 2 _ rfl
          clear hz
          go_wp2_with fail
          refine (CH.out _ (HE0.out.ext H7.out)).mono ?_
          rintro e w8 ⟨rfl, h8⟩
          have H8 := Lib.hid (H7.out.ext h8)
          have HS8 := Lib.hid (HS7.out.kept h8 (fun _ _ h => h))
          clear h8 k0 k1 k2
          have hz := HX.out w8 H8.out
          have k0 := cellRow hz 0 _ rfl
          have k1 := cellRow hz 1 _ rfl
          have k2 := cellRow hz 2 _ rfl
          clear hz
          go_wp2_with fail
          refine (CF.out _ (HE0.out.ext H8.out)).mono ?_
          rintro e w9 ⟨rfl, h9⟩
          have H9 := Lib.hid (H8.out.ext h9)
          have HS9 := Lib.hid (HS8.out.kept h9 (fun _ _ h => h))
          clear h9 k0 k1 k2
          have hz := HX.out w9 H9.out
          have k0 := cellRow hz 0 _ rfl
          have k1 := cellRow hz 1 _ rfl
          have k2 := cellRow hz 2 _ rfl
          clear hz
          go_wp2_with fail
          go_ret
          exact ⟨rfl, HE0.out.ext H9.out⟩
      · by_cases p2 : (c.funcs.length : Int) ≤ i
        · have hq : hgP c i = ([], 2) := by unfold hgP; rw [if_neg (by rw [hh]; decide), if_neg (by rw [hf]; decide), if_pos (.inr p2)]
          rw [hq] at CHG
          clear hh hq hf
          go_enter Tryd.func3, Tryd.ntmps3
          go_wp2_with fail
          refine (CA.out _ HE0.out).mono ?_
          rintro e w3 ⟨rfl, h3⟩
          have H3 := Lib.hid h3
          clear h3 k0 k1 k2
          have hz := HX.out w3 H3.out
          have k0 := cellRow hz 0 _ rfl
          have k1 := cellRow hz 1 _ rfl
          have k2 := cellRow hz 2 _ rfl
          clear hz
          go_wp2_with fail
          refine (CG.out _ (HE0.out.ext H3.out)).mono ?_
          rintro e w4 ⟨b, rfl, _, h4⟩
          have H4 := Lib.hid (H3.out.ext h4)
          clear h4 k0 k1 k2
          have hz := HX.out w4 H4.out
          have k0 := cellRow hz 0 _ rfl
          have k1 := cellRow hz 1 _ rfl
          have k2 := cellRow hz 2 _ rfl
          clear hz
          cases b with
          | true =>
            go_wp2_with fail
            go_ret
            exact ⟨rfl, HE0.out.ext H4.out⟩
          | false =>
            go_wp2_with fail
            refine (CK.out _ (HE0.out.ext H4.out)).mono ?_
            rintro e w5 ⟨rfl, h5⟩
            have H5 := Lib.hid (H4.out.ext h5)
            clear h5 k0 k1 k2
            have hz := HX.out w5 H5.out
            have k0 := cellRow hz 0 _ rfl
            have k1 := cellRow hz 1 _ rfl
            have k2 := cellRow hz 2 _ rfl
            clear hz
            go_wp2_with fail
            refine (CR.out _ (HE0.out.ext H5.out)).mono ?_
            rintro e w6 ⟨rfl, h6⟩
            have H6 := Lib.hid (H5.out.ext h6)
            clear h6 k0 k1 k2
            have hz := HX.out w6 H6.out
            have k0 := cellRow hz 0 _ rfl
            have k1 := cellRow hz 1 _ rfl
            have k2 := cellRow hz 2 _ rfl
            clear hz
            have q1 : (x1 == x1) = true := beq_iff_eq.2 rfl
            have q2 : (x2 == x2) = true := beq_iff_eq.2 rfl
            have q3 : (x3 == x3) = true := beq_iff_eq.2 rfl
            go_wp2_with fail
            refine (CHG.out _ (HE0.out.ext H6.out)).mono ?_
            rintro e w7 ⟨v, rfl, hs, h7⟩
            have HS7 := Lib.hid hs
            have H7 := Lib.hid (H6.out.ext h7)
            obtain ⟨va, vc, hv⟩ := hs.shape
            subst hv
            clear h7 hs k0 k1 k2 q1 q2 q3
            have hz := HX.out w7 H7.out
            have k0 := cellRow hz 0 _ rfl
            have k1 := cellRow hz 1 _ rfl
            have k2 := cellRow hz 2 _ rfl
            clear hz
            go_wp2_with fail
            refine (CH.out _ (HE0.out.ext H7.out)).mono ?_
            rintro e w8 ⟨rfl, h8⟩
            have H8 := Lib.hid (H7.out.ext h8)
            have HS8 := Lib.hid (HS7.out.kept h8 (fun _ _ h => h))
            clear h8 k0 k1 k2
            have hz := HX.out w8 H8.out
            have k0 := cellRow hz 0 _ rfl
            have k1 := cellRow hz 1 _ rfl
            have k2 := cellRow hz 2 _ rfl
            clear hz
            go_wp2_with fail
            refine (CF.out _ (HE0.out.ext H8.out)).mono ?_
            rintro e w9 ⟨rfl, h9⟩
            have H9 := Lib.hid (H8.out.ext h9)
            have HS9 := Lib.hid (HS8.out.kept h9 (fun _ _ h => h))
            clear h9 k0 k1 k2
            have hz := HX.out w9 H9.out
            have k0 := cellRow hz 0 _ rfl
            have k1 := cellRow hz 1 _ rfl
            have k2 := cellRow hz 2 _ rfl
            clear hz
            go_wp2_with fail
            go_ret
            exact ⟨rfl, HE0.out.ext H9.out⟩
        · obtain ⟨j, rfl⟩ : ∃ j : Nat, i = j := ⟨i.toNat, by omega⟩
          have hlt : j < c.funcs.length := by omega
          have hq : hgP c (j : Int) = ((hP c (c.funcs.getD j default)).1, (hP c (c.funcs.getD j default)).2.2) := by unfold hgP; rw [if_neg (by rw [hh]; decide), if_neg (by rw [hf]; decide), if_neg (by omega)]; rfl
          obtain ⟨f0, hf0⟩ : ∃ f0, (c.funcs.getD j default) = f0 := ⟨_, rfl⟩
          obtain ⟨nh, hnh⟩ : ∃ nh, (hP c f0).1 = nh := ⟨_, rfl⟩
          obtain ⟨y1, hy1⟩ : ∃ y, (hP c f0).2.1 = y := ⟨_, rfl⟩
          obtain ⟨y2, hy2⟩ : ∃ y, (hP c f0).2.2 = y := ⟨_, rfl⟩
          rw [hf0, hnh, hy2] at hq
          rw [hq] at CHG
          have hlen : nh.length ≤ 2000000 := by
            rw [← hnh]
            exact hP_len hf (by rw [← hf0]; exact fn_mem hlt)
          have HLN := Lib.hid hlen
          clear hh hq hf hlen
          have HNM := Lib.hid (And.intro hf0 (And.intro hnh (And.intro hy1 hy2)))
          clear hf0 hnh hy1 hy2
          go_enter Tryd.func3, Tryd.ntmps3
          go_wp2_with fail
          refine (CA.out _ HE0.out).mono ?_
          rintro e w3 ⟨rfl, h3⟩
          have H3 := Lib.hid h3
          clear h3 k0 k1 k2
          have hz := HX.out w3 H3.out
          have k0 := cellRow hz 0 _ rfl
          have k1 := cellRow hz 1 _ rfl
          have k2 := cellRow hz 2 _ rfl
          clear hz
          go_wp2_with fail
          refine (CG.out _ (HE0.out.ext H3.out)).mono ?_
          rintro e w4 ⟨b, rfl, _, h4⟩
          have H4 := Lib.hid (H3.out.ext h4)
          clear h4 k0 k1 k2
          have hz := HX.out w4 H4.out
          have k0 := cellRow hz 0 _ rfl
          have k1 := cellRow hz 1 _ rfl
          have k2 := cellRow hz 2 _ rfl
          clear hz
          cases b with
          | true =>
            go_wp2_with fail
            go_ret
            exact ⟨rfl, HE0.out.ext H4.out⟩
          | false =>
            go_wp2_with fail
            refine (CK.out _ (HE0.out.ext H4.out)).mono ?_
            rintro e w5 ⟨rfl, h5⟩
            have H5 := Lib.hid (H4.out.ext h5)
            clear h5 k0 k1 k2
            have hz := HX.out w5 H5.out
            have k0 := cellRow hz 0 _ rfl
            have k1 := cellRow hz 1 _ rfl
            have k2 := cellRow hz 2 _ rfl
            clear hz
            go_wp2_with fail
            refine (CR.out _ (HE0.out.ext H5.out)).mono ?_
            rintro e w6 ⟨rfl, h6⟩
            have H6 := Lib.hid (H5.out.ext h6)
            clear h6 k0 k1 k2
            have hz := HX.out w6 H6.out
            have k0 := cellRow hz 0 _ rfl
            have k1 := cellRow hz 1 _ rfl
            have k2 := cellRow hz 2 _ rfl
            clear hz
            have q1 : (x1 == x1) = true := beq_iff_eq.2 rfl
            have q2 : (x2 == x2) = true := beq_iff_eq.2 rfl
            have q3 : (x3 == x3) = true := beq_iff_eq.2 rfl
            go_wp2_with fail
            refine (CHG.out _ (HE0.out.ext H6.out)).mono ?_
            rintro e w7 ⟨v, rfl, hs, h7⟩
            have HS7 := Lib.hid hs
            have H7 := Lib.hid (H6.out.ext h7)
            obtain ⟨va, vc, hv⟩ := hs.shape
            subst hv
            clear h7 hs k0 k1 k2 q1 q2 q3
            have hz := HX.out w7 H7.out
            have k0 := cellRow hz 0 _ rfl
            have k1 := cellRow hz 1 _ rfl
            have k2 := cellRow hz 2 _ rfl
            clear hz
            go_wp2_with fail
            refine (CH.out _ (HE0.out.ext H7.out)).mono ?_
            rintro e w8 ⟨rfl, h8⟩
            have H8 := Lib.hid (H7.out.ext h8)
            have HS8 := Lib.hid (HS7.out.kept h8 (fun _ _ h => h))
            clear h8 k0 k1 k2
            have hz := HX.out w8 H8.out
            have k0 := cellRow hz 0 _ rfl
            have k1 := cellRow hz 1 _ rfl
            have k2 := cellRow hz 2 _ rfl
            clear hz
            go_wp2_with fail
            refine (CF.out _ (HE0.out.ext H8.out)).mono ?_
            rintro e w9 ⟨rfl, h9⟩
            have H9 := Lib.hid (H8.out.ext h9)
            have HS9 := Lib.hid (HS8.out.kept h9 (fun _ _ h => h))
            clear h9 k0 k1 k2
            have hz := HX.out w9 H9.out
            have k0 := cellRow hz 0 _ rfl
            have k1 := cellRow hz 1 _ rfl
            have k2 := cellRow hz 2 _ rfl
            clear hz
            have HE := H9
            obtain ⟨hf0, hnh, hy1, hy2⟩ := HNM.out
            have HF := (HN.out.kept (HE0.out.ext HE.out)).at hlt
            rw [hf0] at HF
            obtain ⟨g, off, cap', hv, hcap, c0, c1, c2, c3, c4, hf⟩ := HF
            have hmem : f0 ∈ c.funcs := by rw [← hf0]; exact fn_mem hlt
            injection hv with e1 e2 e3
            subst e1; subst e3
            obtain ⟨x2', cap2, hv2⟩ := hf.shape
            have hl3 := hf.len
            have i0' : (0 : Int) ≤ (j : Int) := by omega
            have i1' : (j : Int) < (c.funcs.length : Int) := by omega
            clear e2
            have HC := Lib.hid (fun W (hW : Ext w9 W) => CT.out W (HE0.out.ext (HE.out.ext hW)) f0 HQ.out hmem (hf.kept hW))
            unfold HtsP at HC
            rw [hy1, hy2, hnh] at HC
            rw [hv2] at c4 HC
            have hX0 : ∀ x : XW w9, x.val.cell? ⟨w.heap.size, 0, none⟩ = some (.slice xa c.fields.length ca) := fun x => x.ext.cell k0 (fun h => h)
            have hX1 : ∀ x : XW w9, x.val.cell? ⟨w.heap.size, 1, none⟩ = some (.int .i64 c.glob) := fun x => x.ext.cell k1 (fun h => h)
            have hX2 : ∀ x : XW w9, x.val.cell? ⟨w.heap.size, 2, none⟩ = some (.slice (some ⟨g, off, none⟩) c.funcs.length cf) := fun x => x.ext.cell k2 (fun h => h)
            have hY0 : ∀ x : XW w9, x.val.cell? ⟨g, off + j * 5, none⟩ = some (.string f0.name) := fun x => x.ext.cell c0 (fun h => h)
            have hY1 : ∀ x : XW w9, x.val.cell? ⟨g, off + j * 5 + 1, none⟩ = some (.int .i64 f0.params) := fun x => x.ext.cell c1 (fun h => h)
            have hY2 : ∀ x : XW w9, x.val.cell? ⟨g, off + j * 5 + 2, none⟩ = some (.int .i64 f0.locals) := fun x => x.ext.cell c2 (fun h => h)
            have hY3 : ∀ x : XW w9, x.val.cell? ⟨g, off + j * 5 + 3, none⟩ = some (.bool f0.result) := fun x => x.ext.cell c3 (fun h => h)
            have hY4 : ∀ x : XW w9, x.val.cell? ⟨g, off + j * 5 + 4, none⟩ = some (.slice x2' f0.code.length cap2) := fun x => x.ext.cell c4 (fun h => h)
            clear hf hy1 hy2 hv2 hf0 hmem hnh
            generalize f0.name = NM at *
            generalize f0.params = PA at *
            generalize f0.locals = LO at *
            generalize f0.result = RE at *
            go_wp2_with fail
            refine wp_region_par (α := Option Addr × Nat) 14 [] [[], [], [1], [], [1, 2, 3], [1, 2, 3, 4], [0, 1, 2, 3, 4, 5], [0, 1, 2, 3, 4, 5, 6], [0, 1, 2, 3, 4, 5, 6, 7], [0, 1, 2, 3, 4, 5, 6, 7], [0, 1, 2, 3, 4, 5, 6, 7], [0, 1, 2, 3, 4, 5, 6, 7, 8], [0, 1, 2, 3, 4, 5, 6, 7, 8, 9, 11], [0, 1, 2, 3, 4, 5, 6, 7, 8, 9, 10, 11, 12]]
              [none, none, none, none, none, none, some ⟨fun x => .tuple #[.slice x.1 nh.length x.2, .int .i64 y1, .int .i64 y2], fun x W => SlR Any1 W 1 (.slice x.1 nh.length x.2) nh.length (ints nh), fun x W W' h hE => h.kept hE (fun _ _ h => h)⟩, none, none, none, none, none, none, none] [false, false, false, false, false, false, true, false, false, false, false, false, false, false] (by kernel_rfl) (by kernel_rfl) rfl (fun _ _ d _ _ h => by cases d <;> exact h) ?_
            simp only [List.take_succ_cons, List.take_zero, pickO, List.getElem?_cons_zero, List.getElem?_cons_succ]
            iterate 6 (refine can_pure0 rfl (fun K hK => ?_); go_simp; refine hK _ ?_; clear hK K)
            refine can_mem _ rfl (by go_simp) (fun W hW hG K hK => ?_) (fun K xx hK => ?_)
            · go_simp
              refine (HC.out W hW).mono ?_
              rintro e w' ⟨vv, rfl, hsl, h⟩
              obtain ⟨va, vc, hvv⟩ := hsl.shape
              subst hvv
              exact hK (va, vc) w' h hsl
            refine hK _ ?_; clear hK K
            obtain ⟨va, vc⟩ := xx
            dsimp only
            iterate 7 (refine can_pure0 rfl (fun K hK => ?_); go_simp; refine hK _ ?_; clear hK K)
            refine can_end (fun w10 hx6 hG => ?_)
            have hs6 := hG _ (List.mem_append_right _ (List.mem_singleton.2 rfl))
            dsimp only at hs6
            clear hG
            have H10 := Lib.hid (HE.out.ext hx6)
            have HEQ := Lib.hid (equal_x Any1 Any1 _ _ nh nh w10 (HS9.out.kept hx6 (fun _ _ h => h)) hs6 HLN.out HLN.out)
            rw [decide_eq_true rfl] at HEQ
            clear hX0 hX1 hX2 hY0 hY1 hY2 hY3 hY4 hs6 hx6 HC
            simp only [wpMix]
            go_wp2_with fail
            refine HEQ.out.mono ?_
            rintro e w11 ⟨rfl, h11⟩
            have H11 := Lib.hid (H10.out.ext h11)
            clear h11
            have q2 : (y2 == y2) = true := beq_iff_eq.2 rfl
            go_wp2_with fail
            go_ret
            exact ⟨rfl, HE0.out.ext H11.out⟩

end Go.Proofs.YtlbnilhbfiidmaaDoor
