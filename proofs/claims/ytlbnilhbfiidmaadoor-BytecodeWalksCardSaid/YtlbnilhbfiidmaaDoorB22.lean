/- Heights, Equal. -/
import Derived.Test.YtlbnilhbfiidmaaDoorB20
import Derived.Test.YtlbnilhbfiidmaaDoorL4
namespace Go.Proofs.YtlbnilhbfiidmaaDoor
open Go.RowKit Go.Hw
set_option linter.unusedVariables false
set_option linter.unusedSimpArgs false

set_option maxRecDepth 100000 in
set_option maxHeartbeats 4000000 in
/-- Heights -/
theorem hgt_x (a fv : Value) (c : Cd) (w : World) (h : CdR w a fv c) (htab : AscT w) (hT : ∀ W, Ext w W → TabAt 0 Lib.deBruijn64tab W) (i : Int) : Calls Tryd.prog 9 #[.agg #[a, .int .i64 c.glob, fv], .int .i64 i] w (HgtP c i w) := by
  obtain ⟨⟨xa, ca, rfl⟩, xf, cf, rfl⟩ := h.shapes
  have HN := Lib.hid h
  have HX : Hid (∀ W, Ext (w.alloc (.cells #[.slice xa c.fields.length ca, .int .i64 c.glob, .slice xf c.funcs.length cf] 25)) W → W.heap[w.heap.size]? = some (.cells #[.slice xa c.fields.length ca, .int .i64 c.glob, .slice xf c.funcs.length cf] 25)) := fun W hW => hW.heap (alloc0 w _) (fun h => h)
  have HE0 : Hid (Ext w (w.alloc (.cells #[.slice xa c.fields.length ca, .int .i64 c.glob, .slice xf c.funcs.length cf] 25))) := (Upd.refl _ w).alloc _
  have hl1 := h.l1
  have hl2 := h.l2
  clear h
  have CH : Hid (∀ W, Ext w W → Calls Tryd.prog 16 #[.agg #[.slice xa c.fields.length ca, .int .i64 c.glob, .slice xf c.funcs.length cf]] W fun e w' => e = .returned (.bool (headB c)) ∧ Ext W w') := fun W hW => head_x _ _ c W (HN.out.kept hW) (asc_ext htab hW)
  have CF : Hid (∀ W, Ext w W → Calls Tryd.prog 20 #[.agg #[.slice xa c.fields.length ca, .int .i64 c.glob, .slice xf c.funcs.length cf]] W fun e w' => e = .returned (.bool (formB c)) ∧ Ext W w') := fun W hW => formed_x _ _ c W (HN.out.kept hW) (asc_ext htab hW)
  have CT : Hid (∀ W, Ext w W → ∀ f, formB c = true → f ∈ c.funcs → FnR W f → Calls Tryd.prog 18 #[.agg #[.slice xa c.fields.length ca, .int .i64 c.glob, .slice xf c.funcs.length cf], .agg #[.string f.name, .int .i64 f.params, .int .i64 f.locals, .bool f.result, f.v]] W (HtsP c f W)) := fun W hW f h1 h2 h3 => heights_x _ _ c f W (HN.out.kept hW) h3 h1 h2 (fun V hV => hT V (hW.ext hV))
  clear htab hT
  have hz := HX.out (w.alloc (.cells #[.slice xa c.fields.length ca, .int .i64 c.glob, .slice xf c.funcs.length cf] 25)) (Upd.refl _ _)
  have k0 := cellRow hz 0 _ rfl
  have k1 := cellRow hz 1 _ rfl
  have k2 := cellRow hz 2 _ rfl
  clear hz
  unfold HgtP
  cases hh : headB c with
  | false =>
    have hq : hgP c i = ([], 1) := by unfold hgP; rw [if_pos hh]
    rw [hq]
    rw [hh] at CH
    clear hh hq
    go_enter Tryd.func9, Tryd.ntmps9
    go_wp2_with fail
    refine (CH.out _ HE0.out).mono ?_
    rintro e w3 ⟨rfl, h3⟩
    have H3 := Lib.hid (h3)
    clear h3 k0 k1 k2
    have hz := HX.out w3 H3.out
    have k0 := cellRow hz 0 _ rfl
    have k1 := cellRow hz 1 _ rfl
    have k2 := cellRow hz 2 _ rfl
    clear hz
    go_wp2_with fail
    exact bodyPost_ret (v := .tuple #[.slice none 0 0, .int .i64 1]) (by simp [results, Tryd.results9, go_sem]) rfl ⟨_, rfl, SlR.nil _ _ _, HE0.out.ext H3.out⟩
  | true =>
    rw [hh] at CH
    cases hf : formB c with
    | false =>
      have hq : hgP c i = ([], 7) := by unfold hgP; rw [if_neg (by rw [hh]; decide), if_pos hf]
      rw [hq]
      rw [hf] at CF
      clear hh hq hf
      go_enter Tryd.func9, Tryd.ntmps9
      go_wp2_with fail
      refine (CH.out _ HE0.out).mono ?_
      rintro e w3 ⟨rfl, h3⟩
      have H3 := Lib.hid (h3)
      clear h3 k0 k1 k2
      have hz := HX.out w3 H3.out
      have k0 := cellRow hz 0 _ rfl
      have k1 := cellRow hz 1 _ rfl
      have k2 := cellRow hz 2 _ rfl
      clear hz
      go_wp2_with fail
      refine (CF.out _ (HE0.out.ext H3.out)).mono ?_
      rintro e w4 ⟨rfl, h4⟩
      have H4 := Lib.hid (H3.out.ext h4)
      clear h4 k0 k1 k2
      have hz := HX.out w4 H4.out
      have k0 := cellRow hz 0 _ rfl
      have k1 := cellRow hz 1 _ rfl
      have k2 := cellRow hz 2 _ rfl
      clear hz
      go_wp2_with fail
      exact bodyPost_ret (v := .tuple #[.slice none 0 0, .int .i64 7]) (by simp [results, Tryd.results9, go_sem]) rfl ⟨_, rfl, SlR.nil _ _ _, HE0.out.ext H4.out⟩
    | true =>
      rw [hf] at CF
      have HQ := Lib.hid hf
      by_cases p1 : i < 0
      · have hq : hgP c i = ([], 2) := by unfold hgP; rw [if_neg (by rw [hh]; decide), if_neg (by rw [hf]; decide), if_pos (.inl p1)]
        rw [hq]
        clear hh hq hf
        go_enter Tryd.func9, Tryd.ntmps9
        go_wp2_with fail
        refine (CH.out _ HE0.out).mono ?_
        rintro e w3 ⟨rfl, h3⟩
        have H3 := Lib.hid (h3)
        clear h3 k0 k1 k2
        have hz := HX.out w3 H3.out
        have k0 := cellRow hz 0 _ rfl
        have k1 := cellRow hz 1 _ rfl
        have k2 := cellRow hz 2 _ rfl
        clear hz
        go_wp2_with fail
        refine (CF.out _ (HE0.out.ext H3.out)).mono ?_
        rintro e w4 ⟨rfl, h4⟩
        have H4 := Lib.hid (H3.out.ext h4)
        clear h4 k0 k1 k2
        have hz := HX.out w4 H4.out
        have k0 := cellRow hz 0 _ rfl
        have k1 := cellRow hz 1 _ rfl
        have k2 := cellRow hz 2 _ rfl
        clear hz
        go_wp2_with fail
        exact bodyPost_ret (v := .tuple #[.slice none 0 0, .int .i64 2]) (by simp [results, Tryd.results9, go_sem]) rfl ⟨_, rfl, SlR.nil _ _ _, HE0.out.ext H4.out⟩
      · by_cases p2 : (c.funcs.length : Int) ≤ i
        · have hq : hgP c i = ([], 2) := by unfold hgP; rw [if_neg (by rw [hh]; decide), if_neg (by rw [hf]; decide), if_pos (.inr p2)]
          rw [hq]
          clear hh hq hf
          go_enter Tryd.func9, Tryd.ntmps9
          go_wp2_with fail
          refine (CH.out _ HE0.out).mono ?_
          rintro e w3 ⟨rfl, h3⟩
          have H3 := Lib.hid (h3)
          clear h3 k0 k1 k2
          have hz := HX.out w3 H3.out
          have k0 := cellRow hz 0 _ rfl
          have k1 := cellRow hz 1 _ rfl
          have k2 := cellRow hz 2 _ rfl
          clear hz
          go_wp2_with fail
          refine (CF.out _ (HE0.out.ext H3.out)).mono ?_
          rintro e w4 ⟨rfl, h4⟩
          have H4 := Lib.hid (H3.out.ext h4)
          clear h4 k0 k1 k2
          have hz := HX.out w4 H4.out
          have k0 := cellRow hz 0 _ rfl
          have k1 := cellRow hz 1 _ rfl
          have k2 := cellRow hz 2 _ rfl
          clear hz
          go_wp2_with fail
          exact bodyPost_ret (v := .tuple #[.slice none 0 0, .int .i64 2]) (by simp [results, Tryd.results9, go_sem]) rfl ⟨_, rfl, SlR.nil _ _ _, HE0.out.ext H4.out⟩
        · obtain ⟨j, rfl⟩ : ∃ j : Nat, i = j := ⟨i.toNat, by omega⟩
          have hlt : j < c.funcs.length := by omega
          have hq : hgP c (j : Int) = ((hP c (c.funcs.getD j default)).1, (hP c (c.funcs.getD j default)).2.2) := by unfold hgP; rw [if_neg (by rw [hh]; decide), if_neg (by rw [hf]; decide), if_neg (by omega)]; rfl
          obtain ⟨f0, hf0⟩ : ∃ f0, (c.funcs.getD j default) = f0 := ⟨_, rfl⟩
          obtain ⟨nh, hnh⟩ : ∃ nh, (hP c f0).1 = nh := ⟨_, rfl⟩
          obtain ⟨y1, hy1⟩ : ∃ y, (hP c f0).2.1 = y := ⟨_, rfl⟩
          obtain ⟨y2, hy2⟩ : ∃ y, (hP c f0).2.2 = y := ⟨_, rfl⟩
          rw [hf0, hnh, hy2] at hq
          rw [hq]
          clear hh hq hf
          have HNM := Lib.hid (And.intro hf0 (And.intro hnh (And.intro hy1 hy2)))
          clear hf0 hnh hy1 hy2
          dsimp only
          go_enter Tryd.func9, Tryd.ntmps9
          go_wp2_with fail
          refine (CH.out _ HE0.out).mono ?_
          rintro e w3 ⟨rfl, h3⟩
          have H3 := Lib.hid (h3)
          clear h3 k0 k1 k2
          have hz := HX.out w3 H3.out
          have k0 := cellRow hz 0 _ rfl
          have k1 := cellRow hz 1 _ rfl
          have k2 := cellRow hz 2 _ rfl
          clear hz
          go_wp2_with fail
          refine (CF.out _ (HE0.out.ext H3.out)).mono ?_
          rintro e w4 ⟨rfl, h4⟩
          have H4 := Lib.hid (H3.out.ext h4)
          clear h4 k0 k1 k2
          have hz := HX.out w4 H4.out
          have k0 := cellRow hz 0 _ rfl
          have k1 := cellRow hz 1 _ rfl
          have k2 := cellRow hz 2 _ rfl
          clear hz
          have HE := H4
          obtain ⟨hf0, hnh, hy1, hy2⟩ := HNM.out
          have HF := (HN.out.kept (HE0.out.ext HE.out)).at hlt
          rw [hf0] at HF
          obtain ⟨g, off, cap', hv, hcap, c0, c1, c2, c3, c4, hf⟩ := HF
          have hmem : f0 ∈ c.funcs := by rw [← hf0]; exact fn_mem hlt
          injection hv with e1 e2 e3
          subst e1; subst e3
          obtain ⟨x2', cap2, hv2⟩ := hf.shape
          have hl3 := hf.len
          have i0' : (0 : Int) ≤ (j : Int) := by omega
          have i1' : (j : Int) < (c.funcs.length : Int) := by omega
          clear e2
          have HC := Lib.hid (fun W (hW : Ext w4 W) => CT.out W (HE0.out.ext (HE.out.ext hW)) f0 HQ.out hmem (hf.kept hW))
          unfold HtsP at HC
          rw [hy1, hy2, hnh] at HC
          rw [hv2] at c4 HC
          have hX0 : ∀ x : XW w4, x.val.cell? ⟨w.heap.size, 0, none⟩ = some (.slice xa c.fields.length ca) := fun x => x.ext.cell k0 (fun h => h)
          have hX1 : ∀ x : XW w4, x.val.cell? ⟨w.heap.size, 1, none⟩ = some (.int .i64 c.glob) := fun x => x.ext.cell k1 (fun h => h)
          have hX2 : ∀ x : XW w4, x.val.cell? ⟨w.heap.size, 2, none⟩ = some (.slice (some ⟨g, off, none⟩) c.funcs.length cf) := fun x => x.ext.cell k2 (fun h => h)
          have hY0 : ∀ x : XW w4, x.val.cell? ⟨g, off + j * 5, none⟩ = some (.string f0.name) := fun x => x.ext.cell c0 (fun h => h)
          have hY1 : ∀ x : XW w4, x.val.cell? ⟨g, off + j * 5 + 1, none⟩ = some (.int .i64 f0.params) := fun x => x.ext.cell c1 (fun h => h)
          have hY2 : ∀ x : XW w4, x.val.cell? ⟨g, off + j * 5 + 2, none⟩ = some (.int .i64 f0.locals) := fun x => x.ext.cell c2 (fun h => h)
          have hY3 : ∀ x : XW w4, x.val.cell? ⟨g, off + j * 5 + 3, none⟩ = some (.bool f0.result) := fun x => x.ext.cell c3 (fun h => h)
          have hY4 : ∀ x : XW w4, x.val.cell? ⟨g, off + j * 5 + 4, none⟩ = some (.slice x2' f0.code.length cap2) := fun x => x.ext.cell c4 (fun h => h)
          clear hf hy1 hy2 hv2 hf0 hmem hnh
          generalize f0.name = NM at *
          generalize f0.params = PA at *
          generalize f0.locals = LO at *
          generalize f0.result = RE at *
          go_wp2_with fail
          refine wp_region_par (α := Option Addr × Nat) 14 [] [[], [], [1], [], [1, 2, 3], [1, 2, 3, 4], [0, 1, 2, 3, 4, 5], [0, 1, 2, 3, 4, 5, 6], [0, 1, 2, 3, 4, 5, 6, 7], [0, 1, 2, 3, 4, 5, 6, 7], [0, 1, 2, 3, 4, 5, 6, 7], [0, 1, 2, 3, 4, 5, 6, 7, 8], [0, 1, 2, 3, 4, 5, 6, 7, 8, 9, 11], [0, 1, 2, 3, 4, 5, 6, 7, 8, 9, 10, 11, 12]]
            [none, none, none, none, none, none, some ⟨fun x => .tuple #[.slice x.1 nh.length x.2, .int .i64 y1, .int .i64 y2], fun x W => SlR Any1 W 1 (.slice x.1 nh.length x.2) nh.length (ints nh), fun x W W' h hE => h.kept hE (fun _ _ h => h)⟩, none, none, none, none, none, none, none] [false, false, false, false, false, false, true, false, false, false, false, false, false, false] (by kernel_rfl) (by kernel_rfl) rfl (fun _ _ d _ _ h => by cases d <;> exact h) ?_
          simp only [List.take_succ_cons, List.take_zero, pickO, List.getElem?_cons_zero, List.getElem?_cons_succ]
          iterate 6 (refine can_pure0 rfl (fun K hK => ?_); go_simp; refine hK _ ?_; clear hK K)
          refine can_mem _ rfl (by go_simp) (fun W hW hG K hK => ?_) (fun K xx hK => ?_)
          · go_simp
            refine (HC.out W hW).mono ?_
            rintro e w' ⟨vv, rfl, hsl, h⟩
            obtain ⟨va, vc, hvv⟩ := hsl.shape
            subst hvv
            exact hK (va, vc) w' h hsl
          refine hK _ ?_; clear hK K
          obtain ⟨va, vc⟩ := xx
          dsimp only
          iterate 7 (refine can_pure0 rfl (fun K hK => ?_); go_simp; refine hK _ ?_; clear hK K)
          refine can_end (fun w6 hx6 hG => ?_)
          have hs6 := hG _ (List.mem_append_right _ (List.mem_singleton.2 rfl))
          dsimp only at hs6
          clear hG
          have H6 := Lib.hid (HE.out.ext hx6)
          have HS6 := Lib.hid hs6
          clear hX0 hX1 hX2 hY0 hY1 hY2 hY3 hY4 hs6 hx6 HC
          simp only [wpMix]
          go_wp2_with fail
          exact bodyPost_ret (v := .tuple #[.slice va nh.length vc, .int .i64 y2]) (by simp [results, Tryd.results9, go_sem]) rfl ⟨_, rfl, HS6.out, HE0.out.ext H6.out⟩

/-- slices.Equal -/
theorem equal_x (S T : Nat → Prop) (v1 v2 : Value) (xs ys : List Int) (w : World) (h1 : SlR S w 1 v1 xs.length (ints xs)) (h2 : SlR T w 1 v2 ys.length (ints ys)) (l1 : xs.length ≤ 2000000) (l2 : ys.length ≤ 2000000) :
    Calls Tryd.prog 13 #[v1, v2] w fun e w' => e = .returned (.bool (decide (xs = ys))) ∧ Ext w w' := by
  obtain ⟨a1, c1, e1⟩ := h1.shape
  obtain ⟨a2, c2, e2⟩ := h2.shape
  by_cases hl : xs.length = ys.length
  · rcases Nat.eq_zero_or_pos xs.length with h0 | h0
    · have hx : xs = [] := List.eq_nil_of_length_eq_zero h0
      have hy : ys = [] := List.eq_nil_of_length_eq_zero (by omega)
      rw [e1, e2, hx, hy]
      exact (Tryd.slices_Equal_int_empty a1 a2 c1 0 c2 w (by omega)).mono fun e w' ⟨q1, q2⟩ => ⟨by rw [q1]; simp, q2 ▸ Upd.refl _ _⟩
    · obtain ⟨g1, o1, k1, f1, _, _, j1⟩ := h1.pos h0
      obtain ⟨g2, o2, k2, f2, _, _, j2⟩ := h2.pos (by omega)
      rw [f1, f2]
      have hg : ∀ (zs : List Int) (j : Nat), j < zs.length → (ints zs)[j]? = some (.int .i64 (zs.getD j 0)) := fun zs j hj => by simp [ints, hj]
      refine (Tryd.slices_Equal_int g1 o1 xs.length k1 g2 o2 ys.length k2 xs ys w (Nat.le_refl _) (Nat.le_refl _) (by omega) (by omega) (fun j hj => by rw [j1 j (by omega), hg xs j hj]) (fun j hj => by rw [j2 j (by omega), hg ys j hj])).mono ?_
      rintro e w' ⟨rfl, hq⟩
      refine ⟨?_, ext_drew hq⟩
      rw [List.take_length, List.take_length]
      by_cases q : xs = ys
      · rw [decide_eq_true q, beq_iff_eq.2 q]
      · rw [decide_eq_false q, beq_eq_false_iff_ne.2 q]
  · rw [e1, e2]
    exact (Tryd.slices_Equal_int_lens a1 a2 xs.length c1 ys.length c2 w hl).mono fun e w' ⟨q1, q2⟩ => ⟨by rw [q1, decide_eq_false (fun q => hl (by rw [q]))], q2 ▸ Upd.refl _ _⟩

end Go.Proofs.YtlbnilhbfiidmaaDoor
