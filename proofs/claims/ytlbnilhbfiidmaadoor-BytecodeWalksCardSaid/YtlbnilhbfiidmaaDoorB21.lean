/- ref.Check. -/
import Derived.Test.YtlbnilhbfiidmaaDoorB9
import Derived.Test.YtlbnilhbfiidmaaDoorP5
import Derived.Test.YtlbnilhbfiidmaaDoorL4
namespace Go.Proofs.YtlbnilhbfiidmaaDoor
open Go.RowKit Go.Hw
set_option linter.unusedVariables false
set_option linter.unusedSimpArgs false

set_option maxRecDepth 100000 in
set_option maxHeartbeats 4000000 in
theorem rcheck_x (a fv : Value) (c : Cd) (w : World) (h : CdR w a fv c) : Calls Tryd.prog 8 #[.agg #[a, .int .i64 c.glob, fv]] w fun e w' => e = .returned (.tuple #[.int .i64 (ckP c).1, .int .i64 (ckP c).2.1, .int .i64 (ckP c).2.2]) ∧ Ext w w' := by
  obtain ⟨⟨xa, ca, rfl⟩, xf, cf, rfl⟩ := h.shapes
  have HN := Lib.hid h
  have HX : Hid (∀ W, Ext (w.alloc (.cells #[.slice xa c.fields.length ca, .int .i64 c.glob, .slice xf c.funcs.length cf] 25)) W → W.heap[w.heap.size]? = some (.cells #[.slice xa c.fields.length ca, .int .i64 c.glob, .slice xf c.funcs.length cf] 25)) := fun W hW => hW.heap (alloc0 w _) (fun h => h)
  have HE0 : Hid (Ext w (w.alloc (.cells #[.slice xa c.fields.length ca, .int .i64 c.glob, .slice xf c.funcs.length cf] 25))) := (Upd.refl _ w).alloc _
  have hl1 := h.l1
  have hl2 := h.l2
  clear h
  have CH : Hid (∀ W, Ext w W → Calls Tryd.prog 10 #[.agg #[.slice xa c.fields.length ca, .int .i64 c.glob, .slice xf c.funcs.length cf]] W fun e w' => e = .returned (.bool (headB c)) ∧ Ext W w') := fun W hW => rhead_x _ _ c W (HN.out.kept hW)
  have CW : Hid (∀ W, Ext w W → Calls Tryd.prog 19 #[.agg #[.slice xa c.fields.length ca, .int .i64 c.glob, .slice xf c.funcs.length cf]] W fun e w' => e = .returned (.tuple #[.int .i64 (wrP c).1, .int .i64 (wrP c).2.1, .bool (wrP c).2.2]) ∧ Ext W w') := fun W hW => rwrong_x _ _ c W (HN.out.kept hW)
  have CT : Hid (∀ W, Ext w W → ∀ f, formB c = true → f ∈ c.funcs → FnR W f → Calls Tryd.prog 12 #[.agg #[.slice xa c.fields.length ca, .int .i64 c.glob, .slice xf c.funcs.length cf], .agg #[.string f.name, .int .i64 f.params, .int .i64 f.locals, .bool f.result, f.v]] W (HtsP c f W)) := fun W hW f h1 h2 h3 => rheights_x _ _ c f W (HN.out.kept hW) h3 h1 h2
  skip
  obtain ⟨⟨x1, x2, x3⟩, hX⟩ : ∃ X, wrP c = X := ⟨_, rfl⟩
  have hq : formB c = (headB c && !x3) := by unfold formB; rw [hX]
  have hk : ckP c = if headB c = false then (0, 0, 1) else if x3 = true then (x1, x2, 7) else ckF c c.funcs.length 0 := by unfold ckP; rw [hX]
  rw [hX] at CW
  dsimp only at CW
  rw [hk]
  clear hX hk
  have hz := HX.out (w.alloc (.cells #[.slice xa c.fields.length ca, .int .i64 c.glob, .slice xf c.funcs.length cf] 25)) (Upd.refl _ _)
  have k0 := cellRow hz 0 _ rfl
  have k1 := cellRow hz 1 _ rfl
  have k2 := cellRow hz 2 _ rfl
  clear hz
  cases hh : headB c with
  | false =>
    rw [hh] at CH
    rw [if_pos rfl]
    clear hh hq
    go_enter Tryd.func8, Tryd.ntmps8
    go_wp2_with fail
    refine (CH.out _ HE0.out).mono ?_
    rintro e w3 ⟨rfl, h3⟩
    have H3 := Lib.hid h3
    clear h3
    go_wp2_with fail
    exact bodyPost_ret (v := .tuple #[.int .i64 0, .int .i64 0, .int .i64 1]) (by simp [results, Tryd.results8, go_sem]) rfl ⟨rfl, HE0.out.ext H3.out⟩
  | true =>
    rw [hh] at CH hq
    rw [if_neg (by decide)]
    cases x3 with
    | true =>
      rw [if_pos rfl]
      clear hh hq
      go_enter Tryd.func8, Tryd.ntmps8
      go_wp2_with fail
      refine (CH.out _ HE0.out).mono ?_
      rintro e w3 ⟨rfl, h3⟩
      have H3 := Lib.hid h3
      clear h3 k0 k1 k2
      have hz := HX.out w3 H3.out
      have k0 := cellRow hz 0 _ rfl
      have k1 := cellRow hz 1 _ rfl
      have k2 := cellRow hz 2 _ rfl
      clear hz
      go_wp2_with fail
      refine (CW.out _ (HE0.out.ext H3.out)).mono ?_
      rintro e w4 ⟨rfl, h4⟩
      have H4 := Lib.hid (H3.out.ext h4)
      clear h4 k0 k1 k2
      go_wp2_with fail
      exact bodyPost_ret (v := .tuple #[.int .i64 x1, .int .i64 x2, .int .i64 7]) (by simp [results, Tryd.results8, go_sem]) rfl ⟨rfl, HE0.out.ext H4.out⟩
    | false =>
      rw [if_neg (by decide)]
      have HQ : Hid (formB c = true) := hq
      obtain ⟨⟨r1, r2, r3⟩, hR⟩ : ∃ R, ckF c c.funcs.length 0 = R := ⟨_, rfl⟩
      rw [hR]
      have HR0 : Hid (ckF c c.funcs.length 0 = (r1, r2, r3)) := hR
      dsimp only
      clear hh hq hR
      go_enter Tryd.func8, Tryd.ntmps8
      go_wp2_with fail
      refine (CH.out _ HE0.out).mono ?_
      rintro e w3 ⟨rfl, h3⟩
      have H3 := Lib.hid h3
      clear h3 k0 k1 k2
      have hz := HX.out w3 H3.out
      have k0 := cellRow hz 0 _ rfl
      have k1 := cellRow hz 1 _ rfl
      have k2 := cellRow hz 2 _ rfl
      clear hz
      go_wp2_with fail
      refine (CW.out _ (HE0.out.ext H3.out)).mono ?_
      rintro e w4 ⟨rfl, h4⟩
      have H4 := Lib.hid (H3.out.ext h4)
      clear h4 k0 k1 k2
      have hz := HX.out w4 H4.out
      have k0 := cellRow hz 0 _ rfl
      have k1 := cellRow hz 1 _ rfl
      have k2 := cellRow hz 2 _ rfl
      clear hz
      go_wp2_with fail
      clear k0 k1 k2
      go_loopg [8, 9, 10, 11] c.funcs.length (fun gk s28 _ _ _ wr => ∃ i : Nat, s28 = .int .i64 i ∧ gk = c.funcs.length - i ∧ i ≤ c.funcs.length ∧ Hid (ckF c gk i = (r1, r2, r3)) ∧ Hid (Ext (w.alloc (.cells #[.slice xa c.fields.length ca, .int .i64 c.glob, .slice xf c.funcs.length cf] 25)) wr))
      case atStart => exact ⟨0, rfl, rfl, Nat.zero_le _, HR0, H4⟩
      case round =>
        obtain ⟨i, rfl, rfl, hi, HK, HE⟩ := hrel
        have hz := HX.out wr HE.out
        have k0 := cellRow hz 0 _ rfl
        have k1 := cellRow hz 1 _ rfl
        have k2 := cellRow hz 2 _ rfl
        clear hz
        by_cases hlt : i < c.funcs.length
        · have hK := HK.out
          rw [sub_succ' hlt] at hK
          unfold ckF at hK
          obtain ⟨f0, hf0⟩ : ∃ f0, (c.funcs.getD i default) = f0 := ⟨_, rfl⟩
          have HF := (HN.out.kept (HE0.out.ext HE.out)).at hlt
          rw [hf0] at HF
          obtain ⟨g, off, cap', hv, hcap, c0, c1, c2, c3, c4, hf⟩ := HF
          have hmem : f0 ∈ c.funcs := by rw [← hf0]; exact fn_mem hlt
          injection hv with e1 e2 e3
          subst e1; subst e3
          obtain ⟨x2', cap2, hv2⟩ := hf.shape
          have hl3 := hf.len
          have i0' : (0 : Int) ≤ (i : Int) := by omega
          have i1' : (i : Int) < (c.funcs.length : Int) := by omega
          clear e2
          rw [hf0] at hK
          obtain ⟨y1, hy1⟩ : ∃ y, (hP c f0).2.1 = y := ⟨_, rfl⟩
          obtain ⟨y2, hy2⟩ : ∃ y, (hP c f0).2.2 = y := ⟨_, rfl⟩
          rw [hy1, hy2] at hK
          obtain ⟨nh, hnh⟩ : ∃ nh, (hP c f0).1 = nh := ⟨_, rfl⟩
          have HC := Lib.hid (fun W (hW : Ext wr W) => CT.out W (HE0.out.ext (HE.out.ext hW)) f0 HQ.out hmem (hf.kept hW))
          unfold HtsP at HC
          rw [hy1, hy2, hnh] at HC
          rw [hv2] at c4 HC
          have hX0 : ∀ x : XW wr, x.val.cell? ⟨w.heap.size, 0, none⟩ = some (.slice xa c.fields.length ca) := fun x => x.ext.cell k0 (fun h => h)
          have hX1 : ∀ x : XW wr, x.val.cell? ⟨w.heap.size, 1, none⟩ = some (.int .i64 c.glob) := fun x => x.ext.cell k1 (fun h => h)
          have hX2 : ∀ x : XW wr, x.val.cell? ⟨w.heap.size, 2, none⟩ = some (.slice (some ⟨g, off, none⟩) c.funcs.length cf) := fun x => x.ext.cell k2 (fun h => h)
          have hY0 : ∀ x : XW wr, x.val.cell? ⟨g, off + i * 5, none⟩ = some (.string f0.name) := fun x => x.ext.cell c0 (fun h => h)
          have hY1 : ∀ x : XW wr, x.val.cell? ⟨g, off + i * 5 + 1, none⟩ = some (.int .i64 f0.params) := fun x => x.ext.cell c1 (fun h => h)
          have hY2 : ∀ x : XW wr, x.val.cell? ⟨g, off + i * 5 + 2, none⟩ = some (.int .i64 f0.locals) := fun x => x.ext.cell c2 (fun h => h)
          have hY3 : ∀ x : XW wr, x.val.cell? ⟨g, off + i * 5 + 3, none⟩ = some (.bool f0.result) := fun x => x.ext.cell c3 (fun h => h)
          have hY4 : ∀ x : XW wr, x.val.cell? ⟨g, off + i * 5 + 4, none⟩ = some (.slice x2' f0.code.length cap2) := fun x => x.ext.cell c4 (fun h => h)
          clear hf hy1 hy2 hv2 hf0 hmem hnh
          by_cases hz0 : y2 = 0
          · rw [if_pos hz0] at hK
            have HK2 := Lib.hid hK
            have e0 : (y2 == 0) = true := beq_iff_eq.2 hz0
            have e0' : (y2 != 0) = false := by rw [hz0]; rfl
            clear hK HK hz0
            generalize f0.name = NM at *
            generalize f0.params = PA at *
            generalize f0.locals = LO at *
            generalize f0.result = RE at *
            go_wp2_with fail
            refine wp_region_par (α := Option Addr × Nat) 14 [] [[], [], [1], [], [1, 2, 3], [1, 2, 3, 4], [0, 1, 2, 3, 4, 5], [0, 1, 2, 3, 4, 5, 6], [0, 1, 2, 3, 4, 5, 6, 7], [0, 1, 2, 3, 4, 5, 6, 7], [0, 1, 2, 3, 4, 5, 6, 7], [0, 1, 2, 3, 4, 5, 6, 7, 8], [0, 1, 2, 3, 4, 5, 6, 7, 8, 9, 11], [0, 1, 2, 3, 4, 5, 6, 7, 8, 9, 10, 11, 12]]
              [none, none, none, none, none, none, some ⟨fun x => .tuple #[.slice x.1 nh.length x.2, .int .i64 y1, .int .i64 y2], fun x W => SlR Any1 W 1 (.slice x.1 nh.length x.2) nh.length (ints nh), fun x W W' h hE => h.kept hE (fun _ _ h => h)⟩, none, none, none, none, none, none, none] [false, false, false, false, false, false, true, false, false, false, false, false, false, false] (by kernel_rfl) (by kernel_rfl) rfl (fun _ _ d _ _ h => by cases d <;> exact h) ?_
            simp only [List.take_succ_cons, List.take_zero, pickO, List.getElem?_cons_zero, List.getElem?_cons_succ]
            iterate 6 (refine can_pure0 rfl (fun K hK => ?_); go_simp; refine hK _ ?_; clear hK K)
            refine can_mem _ rfl (by go_simp) (fun W hW hG K hK => ?_) (fun K xx hK => ?_)
            · go_simp
              refine (HC.out W hW).mono ?_
              rintro e w' ⟨vv, rfl, hsl, h⟩
              obtain ⟨va, vc, hvv⟩ := hsl.shape
              subst hvv
              exact hK (va, vc) w' h hsl
            refine hK _ ?_; clear hK K
            obtain ⟨va, vc⟩ := xx
            dsimp only
            iterate 7 (refine can_pure0 rfl (fun K hK => ?_); go_simp; refine hK _ ?_; clear hK K)
            refine can_end (fun w6 hx6 hG => ?_)
            have hs6 := hG _ (List.mem_append_right _ (List.mem_singleton.2 rfl))
            dsimp only at hs6
            clear hG
            have H6 := Lib.hid (HE.out.ext hx6)
            clear hX0 hX1 hX2 hY0 hY1 hY2 hY3 hY4 hs6 hx6 HC
            simp only [wpMix]
            go_wp2_with fail
            go_roundg (c.funcs.length - (i + 1))
            case measure => omega
            case rel => exact ⟨i + 1, by go_num, rfl, by omega, HK2, H6⟩
          · rw [if_neg hz0] at hK
            injection hK with q1 q2
            injection q2 with q2 q3
            subst q1; subst q2; subst q3
            have e0 : (y2 == 0) = false := beq_eq_false_iff_ne.2 hz0
            have e0' : (y2 != 0) = true := bne_iff_ne.2 hz0
            clear HK HR0
            generalize f0.name = NM at *
            generalize f0.params = PA at *
            generalize f0.locals = LO at *
            generalize f0.result = RE at *
            go_wp2_with fail
            refine wp_region_par (α := Option Addr × Nat) 14 [] [[], [], [1], [], [1, 2, 3], [1, 2, 3, 4], [0, 1, 2, 3, 4, 5], [0, 1, 2, 3, 4, 5, 6], [0, 1, 2, 3, 4, 5, 6, 7], [0, 1, 2, 3, 4, 5, 6, 7], [0, 1, 2, 3, 4, 5, 6, 7], [0, 1, 2, 3, 4, 5, 6, 7, 8], [0, 1, 2, 3, 4, 5, 6, 7, 8, 9, 11], [0, 1, 2, 3, 4, 5, 6, 7, 8, 9, 10, 11, 12]]
              [none, none, none, none, none, none, some ⟨fun x => .tuple #[.slice x.1 nh.length x.2, .int .i64 y1, .int .i64 y2], fun x W => SlR Any1 W 1 (.slice x.1 nh.length x.2) nh.length (ints nh), fun x W W' h hE => h.kept hE (fun _ _ h => h)⟩, none, none, none, none, none, none, none] [false, false, false, false, false, false, true, false, false, false, false, false, false, false] (by kernel_rfl) (by kernel_rfl) rfl (fun _ _ d _ _ h => by cases d <;> exact h) ?_
            simp only [List.take_succ_cons, List.take_zero, pickO, List.getElem?_cons_zero, List.getElem?_cons_succ]
            iterate 6 (refine can_pure0 rfl (fun K hK => ?_); go_simp; refine hK _ ?_; clear hK K)
            refine can_mem _ rfl (by go_simp) (fun W hW hG K hK => ?_) (fun K xx hK => ?_)
            · go_simp
              refine (HC.out W hW).mono ?_
              rintro e w' ⟨vv, rfl, hsl, h⟩
              obtain ⟨va, vc, hvv⟩ := hsl.shape
              subst hvv
              exact hK (va, vc) w' h hsl
            refine hK _ ?_; clear hK K
            obtain ⟨va, vc⟩ := xx
            dsimp only
            iterate 7 (refine can_pure0 rfl (fun K hK => ?_); go_simp; refine hK _ ?_; clear hK K)
            refine can_end (fun w6 hx6 hG => ?_)
            have hs6 := hG _ (List.mem_append_right _ (List.mem_singleton.2 rfl))
            dsimp only at hs6
            clear hG
            have H6 := Lib.hid (HE.out.ext hx6)
            clear hX0 hX1 hX2 hY0 hY1 hY2 hY3 hY4 hs6 hx6 HC
            simp only [wpMix]
            go_wp2_with fail
            exact bodyPost_ret (v := .tuple #[.int .i64 i, .int .i64 y1, .int .i64 y2]) (by simp [results, Tryd.results8, go_sem]) rfl ⟨rfl, HE0.out.ext H6.out⟩

        · have hK := HK.out
          rw [show c.funcs.length - i = 0 by omega] at hK
          unfold ckF at hK
          injection hK with q1 q2
          injection q2 with q2 q3
          subst q1; subst q2; subst q3
          clear HK HR0
          go_wp2_with fail
          exact bodyPost_ret (v := .tuple #[.int .i64 0, .int .i64 0, .int .i64 0]) (by simp [results, Tryd.results8, go_sem]) rfl ⟨rfl, HE0.out.ext HE.out⟩

end Go.Proofs.YtlbnilhbfiidmaaDoor
