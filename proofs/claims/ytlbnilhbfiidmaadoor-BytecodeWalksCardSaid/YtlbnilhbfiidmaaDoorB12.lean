/- moves. -/
import Derived.Test.YtlbnilhbfiidmaaDoorB11
namespace Go.Proofs.YtlbnilhbfiidmaaDoor
open Go.RowKit Go.Hw
set_option linter.unusedVariables false
set_option linter.unusedSimpArgs false
set_option maxRecDepth 100000 in
set_option maxHeartbeats 4000000 in
theorem moves_9 (a fv : Value) (c : Cd) (f : Fn) (x : Int) (w : World) (h : CdR w a fv c) (hf : FnR w f) (hx : 0 ≤ x ∧ x < c.funcs.length) : Calls Tryd.prog 34 #[.agg #[a, .int .i64 c.glob, fv], .agg #[.string f.name, .int .i64 f.params, .int .i64 f.locals, .bool f.result, f.v], .agg #[.int .i64 9, .int .i64 x]] w fun e w' => e = .returned (.tuple #[.int .i64 (mvP c f 9 x).1, .int .i64 (mvP c f 9 x).2]) ∧ Ext w w' := by
  obtain ⟨i, rfl⟩ : ∃ i : Nat, x = i := ⟨x.toNat, by omega⟩
  have hlt : i < c.funcs.length := by omega
  have HN := Lib.hid h
  have HO := Lib.hid (fun (b : Bool) (W : World) => one_x b W)
  obtain ⟨⟨xa, ca, rfl⟩, xf, cf, rfl⟩ := h.shapes
  obtain ⟨xv, cv, hxv⟩ := hf.shape
  rw [hxv]
  have hl1 := h.l1
  have hl2 := h.l2
  have hl3 := hf.len
  have HE3 : Hid (Ext w (((w.alloc (.cells #[.slice xa c.fields.length ca, .int .i64 c.glob, .slice xf c.funcs.length cf] 25)).alloc (.cells #[.string f.name, .int .i64 f.params, .int .i64 f.locals, .bool f.result, .slice xv f.code.length cv] 39)).alloc (.cells #[.int .i64 9, .int .i64 i] 46))) := (((Upd.refl _ w).alloc _).alloc _).alloc _
  have HXA : Hid (∀ W, Ext (((w.alloc (.cells #[.slice xa c.fields.length ca, .int .i64 c.glob, .slice xf c.funcs.length cf] 25)).alloc (.cells #[.string f.name, .int .i64 f.params, .int .i64 f.locals, .bool f.result, .slice xv f.code.length cv] 39)).alloc (.cells #[.int .i64 9, .int .i64 i] 46)) W → W.heap[w.heap.size]? = some (.cells #[.slice xa c.fields.length ca, .int .i64 c.glob, .slice xf c.funcs.length cf] 25)) := fun W hW => hW.heap (allocOld (allocOld (alloc0 w _) _) _) (fun h => h)
  have HXF : Hid (∀ W, Ext (((w.alloc (.cells #[.slice xa c.fields.length ca, .int .i64 c.glob, .slice xf c.funcs.length cf] 25)).alloc (.cells #[.string f.name, .int .i64 f.params, .int .i64 f.locals, .bool f.result, .slice xv f.code.length cv] 39)).alloc (.cells #[.int .i64 9, .int .i64 i] 46)) W → W.heap[w.heap.size + 1]? = some (.cells #[.string f.name, .int .i64 f.params, .int .i64 f.locals, .bool f.result, .slice xv f.code.length cv] 39)) := fun W hW => hW.heap (allocOld (alloc_at (w.alloc (.cells #[.slice xa c.fields.length ca, .int .i64 c.glob, .slice xf c.funcs.length cf] 25)) _ (n := w.heap.size + 1) (by simp)) _) (fun h => h)
  have HXI : Hid (∀ W, Ext (((w.alloc (.cells #[.slice xa c.fields.length ca, .int .i64 c.glob, .slice xf c.funcs.length cf] 25)).alloc (.cells #[.string f.name, .int .i64 f.params, .int .i64 f.locals, .bool f.result, .slice xv f.code.length cv] 39)).alloc (.cells #[.int .i64 9, .int .i64 i] 46)) W → W.heap[w.heap.size + 1 + 1]? = some (.cells #[.int .i64 9, .int .i64 i] 46)) := fun W hW => hW.heap (alloc_at ((w.alloc (.cells #[.slice xa c.fields.length ca, .int .i64 c.glob, .slice xf c.funcs.length cf] 25)).alloc (.cells #[.string f.name, .int .i64 f.params, .int .i64 f.locals, .bool f.result, .slice xv f.code.length cv] 39)) _ (n := w.heap.size + 1 + 1) (by simp)) (fun h => h)
  obtain ⟨f0, hf0⟩ : ∃ f0, (c.funcs.getD i default) = f0 := ⟨_, rfl⟩
  have hm : mvP c f 9 (i : Int) = (f0.params, oneB f0.result) := by rw [← hf0]; rfl
  rw [hm]
  dsimp only
  have HF := h.at hlt
  rw [hf0] at HF
  obtain ⟨g, off, cap', hv, hcap, c0, c1, c2, c3, c4, _⟩ := HF
  injection hv with e1 e2 e3
  subst e1; subst e3
  have i0' : (0 : Int) ≤ (i : Int) := by omega
  have i1' : (i : Int) < (c.funcs.length : Int) := by omega
  have hB : g < w.heap.size := World.block_lt_of_cell? _ _ c0
  have hB1 : ¬ g = w.heap.size := by omega
  have hB2 : ¬ g = w.heap.size + 1 := by omega
  have hB3 : ¬ g = w.heap.size + 1 + 1 := by omega
  have hB4 : ¬ g = w.heap.size + 1 + 1 + 1 := by omega
  clear e2 h hf hxv hm hf0 hx hB
  obtain ⟨C8, hC8⟩ : ∃ C8 : Array Value, C8 = #[.int .i64 0, .int .i64 0, .int .i64 0, .int .i64 1, .int .i64 0, .int .i64 1, .int .i64 1, .int .i64 0, .int .i64 0, .int .i64 1, .int .i64 1, .int .i64 0, .int .i64 1, .int .i64 1, .int .i64 2, .int .i64 0, .int .i64 0, .int .i64 1, .int .i64 0, .int .i64 0, .int .i64 0, .int .i64 0, .int .i64 0, .int .i64 0, .int .i64 1, .int .i64 0, .int .i64 0, .int .i64 0, .int .i64 1, .int .i64 1, .int .i64 0, .int .i64 0, .int .i64 0, .int .i64 0, .int .i64 0, .int .i64 0, .int .i64 0, .int .i64 0, .int .i64 0, .int .i64 0, .int .i64 0, .int .i64 0, .int .i64 0, .int .i64 0, .int .i64 0, .int .i64 0, .int .i64 0, .int .i64 0, .int .i64 0, .int .i64 0, .int .i64 0, .int .i64 0, .int .i64 1, .int .i64 1, .int .i64 0, .int .i64 0, .int .i64 0, .int .i64 0, .int .i64 1, .int .i64 1, .int .i64 1, .int .i64 0, .int .i64 1, .int .i64 2] := ⟨_, rfl⟩
  have hs8 : C8.size = 64 := by rw [hC8]; rfl
  have ho8 : C8.all (·.oneCell') = true := by rw [hC8]; kernel_rfl
  have hst : Sem.run Tryd.prog (storeCells ⟨w.heap.size + 1 + 1 + 1, 0, none⟩ C8.toList 0) ((((w.alloc (.cells #[.slice xa c.fields.length ca, .int .i64 c.glob, .slice (some ⟨g, off, none⟩) c.funcs.length cf] 25)).alloc (.cells #[.string f.name, .int .i64 f.params, .int .i64 f.locals, .bool f.result, .slice xv f.code.length cv] 39)).alloc (.cells #[.int .i64 9, .int .i64 i] 46)).alloc (.cells #[.int .i64 0, .int .i64 0, .int .i64 0, .int .i64 0, .int .i64 0, .int .i64 0, .int .i64 0, .int .i64 0, .int .i64 0, .int .i64 0, .int .i64 0, .int .i64 0, .int .i64 0, .int .i64 0, .int .i64 0, .int .i64 0, .int .i64 0, .int .i64 0, .int .i64 0, .int .i64 0, .int .i64 0, .int .i64 0, .int .i64 0, .int .i64 0, .int .i64 0, .int .i64 0, .int .i64 0, .int .i64 0, .int .i64 0, .int .i64 0, .int .i64 0, .int .i64 0, .int .i64 0, .int .i64 0, .int .i64 0, .int .i64 0, .int .i64 0, .int .i64 0, .int .i64 0, .int .i64 0, .int .i64 0, .int .i64 0, .int .i64 0, .int .i64 0, .int .i64 0, .int .i64 0, .int .i64 0, .int .i64 0, .int .i64 0, .int .i64 0, .int .i64 0, .int .i64 0, .int .i64 0, .int .i64 0, .int .i64 0, .int .i64 0, .int .i64 0, .int .i64 0, .int .i64 0, .int .i64 0, .int .i64 0, .int .i64 0, .int .i64 0, .int .i64 0] 80)) = .ok () ((((w.alloc (.cells #[.slice xa c.fields.length ca, .int .i64 c.glob, .slice (some ⟨g, off, none⟩) c.funcs.length cf] 25)).alloc (.cells #[.string f.name, .int .i64 f.params, .int .i64 f.locals, .bool f.result, .slice xv f.code.length cv] 39)).alloc (.cells #[.int .i64 9, .int .i64 i] 46)).alloc (.cells C8 80)) := by
    have q := run_storeCells_new (P := Tryd.prog) (((w.alloc (.cells #[.slice xa c.fields.length ca, .int .i64 c.glob, .slice (some ⟨g, off, none⟩) c.funcs.length cf] 25)).alloc (.cells #[.string f.name, .int .i64 f.params, .int .i64 f.locals, .bool f.result, .slice xv f.code.length cv] 39)).alloc (.cells #[.int .i64 9, .int .i64 i] 46)) 80 #[.int .i64 0, .int .i64 0, .int .i64 0, .int .i64 0, .int .i64 0, .int .i64 0, .int .i64 0, .int .i64 0, .int .i64 0, .int .i64 0, .int .i64 0, .int .i64 0, .int .i64 0, .int .i64 0, .int .i64 0, .int .i64 0, .int .i64 0, .int .i64 0, .int .i64 0, .int .i64 0, .int .i64 0, .int .i64 0, .int .i64 0, .int .i64 0, .int .i64 0, .int .i64 0, .int .i64 0, .int .i64 0, .int .i64 0, .int .i64 0, .int .i64 0, .int .i64 0, .int .i64 0, .int .i64 0, .int .i64 0, .int .i64 0, .int .i64 0, .int .i64 0, .int .i64 0, .int .i64 0, .int .i64 0, .int .i64 0, .int .i64 0, .int .i64 0, .int .i64 0, .int .i64 0, .int .i64 0, .int .i64 0, .int .i64 0, .int .i64 0, .int .i64 0, .int .i64 0, .int .i64 0, .int .i64 0, .int .i64 0, .int .i64 0, .int .i64 0, .int .i64 0, .int .i64 0, .int .i64 0, .int .i64 0, .int .i64 0, .int .i64 0, .int .i64 0] C8 (by rw [hs8]; kernel_rfl) (by rw [hs8]; rfl) ho8
    simp only [alloc_size] at q
    exact q
  have HC8 := Lib.hid hC8
  clear hC8 ho8
  generalize f0.params = PP at *
  generalize f0.result = RR at *
  generalize f0.v = VV at *
  have HO1 := Lib.hid (HO.out RR)
  clear HO
  have HEQ : Hid (Ext (((w.alloc (.cells #[.slice xa c.fields.length ca, .int .i64 c.glob, .slice (some ⟨g, off, none⟩) c.funcs.length cf] 25)).alloc (.cells #[.string f.name, .int .i64 f.params, .int .i64 f.locals, .bool f.result, .slice xv f.code.length cv] 39)).alloc (.cells #[.int .i64 9, .int .i64 i] 46)) ((((w.alloc (.cells #[.slice xa c.fields.length ca, .int .i64 c.glob, .slice (some ⟨g, off, none⟩) c.funcs.length cf] 25)).alloc (.cells #[.string f.name, .int .i64 f.params, .int .i64 f.locals, .bool f.result, .slice xv f.code.length cv] 39)).alloc (.cells #[.int .i64 9, .int .i64 i] 46)).alloc (.cells C8 80))) := by first | exact Upd.refl _ _ | exact (Upd.refl _ _).alloc _
  have hX0 : ∀ x : XW ((((w.alloc (.cells #[.slice xa c.fields.length ca, .int .i64 c.glob, .slice (some ⟨g, off, none⟩) c.funcs.length cf] 25)).alloc (.cells #[.string f.name, .int .i64 f.params, .int .i64 f.locals, .bool f.result, .slice xv f.code.length cv] 39)).alloc (.cells #[.int .i64 9, .int .i64 i] 46)).alloc (.cells C8 80)), x.val.cell? ⟨w.heap.size, 0, none⟩ = some (.slice xa c.fields.length ca) := fun x => cellRow (HXA.out _ (HEQ.out.ext x.ext)) 0 _ rfl
  have hX1 : ∀ x : XW ((((w.alloc (.cells #[.slice xa c.fields.length ca, .int .i64 c.glob, .slice (some ⟨g, off, none⟩) c.funcs.length cf] 25)).alloc (.cells #[.string f.name, .int .i64 f.params, .int .i64 f.locals, .bool f.result, .slice xv f.code.length cv] 39)).alloc (.cells #[.int .i64 9, .int .i64 i] 46)).alloc (.cells C8 80)), x.val.cell? ⟨w.heap.size, 1, none⟩ = some (.int .i64 c.glob) := fun x => cellRow (HXA.out _ (HEQ.out.ext x.ext)) 1 _ rfl
  have hX2 : ∀ x : XW ((((w.alloc (.cells #[.slice xa c.fields.length ca, .int .i64 c.glob, .slice (some ⟨g, off, none⟩) c.funcs.length cf] 25)).alloc (.cells #[.string f.name, .int .i64 f.params, .int .i64 f.locals, .bool f.result, .slice xv f.code.length cv] 39)).alloc (.cells #[.int .i64 9, .int .i64 i] 46)).alloc (.cells C8 80)), x.val.cell? ⟨w.heap.size, 2, none⟩ = some (.slice (some ⟨g, off, none⟩) c.funcs.length cf) := fun x => cellRow (HXA.out _ (HEQ.out.ext x.ext)) 2 _ rfl
  have hI1 : ∀ x : XW ((((w.alloc (.cells #[.slice xa c.fields.length ca, .int .i64 c.glob, .slice (some ⟨g, off, none⟩) c.funcs.length cf] 25)).alloc (.cells #[.string f.name, .int .i64 f.params, .int .i64 f.locals, .bool f.result, .slice xv f.code.length cv] 39)).alloc (.cells #[.int .i64 9, .int .i64 i] 46)).alloc (.cells C8 80)), x.val.cell? ⟨w.heap.size + 1 + 1, 1, none⟩ = some (.int .i64 i) := fun x => cellRow (HXI.out _ (HEQ.out.ext x.ext)) 1 _ rfl
  have hY1 : ∀ x : XW ((((w.alloc (.cells #[.slice xa c.fields.length ca, .int .i64 c.glob, .slice (some ⟨g, off, none⟩) c.funcs.length cf] 25)).alloc (.cells #[.string f.name, .int .i64 f.params, .int .i64 f.locals, .bool f.result, .slice xv f.code.length cv] 39)).alloc (.cells #[.int .i64 9, .int .i64 i] 46)).alloc (.cells C8 80)), x.val.cell? ⟨g, off + i * 5 + 1, none⟩ = some (.int .i64 PP) := fun x => (HE3.out.ext (HEQ.out.ext x.ext)).cell c1 (fun h => h)
  have hY3 : ∀ x : XW ((((w.alloc (.cells #[.slice xa c.fields.length ca, .int .i64 c.glob, .slice (some ⟨g, off, none⟩) c.funcs.length cf] 25)).alloc (.cells #[.string f.name, .int .i64 f.params, .int .i64 f.locals, .bool f.result, .slice xv f.code.length cv] 39)).alloc (.cells #[.int .i64 9, .int .i64 i] 46)).alloc (.cells C8 80)), x.val.cell? ⟨g, off + i * 5 + 3, none⟩ = some (.bool RR) := fun x => (HE3.out.ext (HEQ.out.ext x.ext)).cell c3 (fun h => h)
  have hrf : Ext ((((w.alloc (.cells #[.slice xa c.fields.length ca, .int .i64 c.glob, .slice (some ⟨g, off, none⟩) c.funcs.length cf] 25)).alloc (.cells #[.string f.name, .int .i64 f.params, .int .i64 f.locals, .bool f.result, .slice xv f.code.length cv] 39)).alloc (.cells #[.int .i64 9, .int .i64 i] 46)).alloc (.cells C8 80)) ((((w.alloc (.cells #[.slice xa c.fields.length ca, .int .i64 c.glob, .slice (some ⟨g, off, none⟩) c.funcs.length cf] 25)).alloc (.cells #[.string f.name, .int .i64 f.params, .int .i64 f.locals, .bool f.result, .slice xv f.code.length cv] 39)).alloc (.cells #[.int .i64 9, .int .i64 i] 46)).alloc (.cells C8 80)) := Upd.refl _ _
  clear c0 c1 c2 c3 c4
  go_enter Tryd.func34, Tryd.ntmps34
  go_wp2_with (with_reducible (refine stop_at (o := ⟨some 25, _, _, _, _, _⟩) ?_))
  refine Stop.go ?_
  refine wpList_run rfl (v := .agg C8) ?_ ?_
  · rw [HC8.out]; kernel_rfl
  go_wp2_with fail
  refine wp_region_ext _ (by assumption) (by kernel_rfl) (by kernel_rfl) ?_
  repeat (first | go_big_quiet_skip | (go_big_quiet_want; go_big_quiet_op; first | go_big_quiet_on | (apply Exists.intro; refine ⟨fun x => ?_, ?_⟩; ((go_at_call 45; exact XW.call ((HO1.out _).mono fun _ _ ⟨h1, h2⟩ => ⟨h1, h2 ▸ Upd.refl _ _⟩))); go_big_quiet_on)))
  refine wpQuiet_nil ?_
  rintro w6 ⟨⟨_, hyw6⟩, rfl⟩
  try dsimp only
  have HE6 := Lib.hid (HEQ.out.ext hyw6)
  clear hX0 hX1 hX2 hI1 hY1 hY3 hrf hyw6
  go_wp2_with fail
  go_ret2
  exact ⟨rfl, HE3.out.ext HE6.out⟩

set_option maxRecDepth 100000 in
set_option maxHeartbeats 4000000 in
theorem moves_10 (a fv : Value) (c : Cd) (f : Fn) (x : Int) (w : World) (h : CdR w a fv c) (hf : FnR w f) : Calls Tryd.prog 34 #[.agg #[a, .int .i64 c.glob, fv], .agg #[.string f.name, .int .i64 f.params, .int .i64 f.locals, .bool f.result, f.v], .agg #[.int .i64 10, .int .i64 x]] w fun e w' => e = .returned (.tuple #[.int .i64 (mvP c f 10 x).1, .int .i64 (mvP c f 10 x).2]) ∧ Ext w w' := by
  have HO := Lib.hid (fun (b : Bool) (W : World) => one_x b W)
  obtain ⟨⟨xa, ca, rfl⟩, xf, cf, rfl⟩ := h.shapes
  obtain ⟨xv, cv, hxv⟩ := hf.shape
  rw [hxv]
  have hl1 := h.l1
  have hl2 := h.l2
  have hl3 := hf.len
  have HE3 : Hid (Ext w (((w.alloc (.cells #[.slice xa c.fields.length ca, .int .i64 c.glob, .slice xf c.funcs.length cf] 25)).alloc (.cells #[.string f.name, .int .i64 f.params, .int .i64 f.locals, .bool f.result, .slice xv f.code.length cv] 39)).alloc (.cells #[.int .i64 10, .int .i64 x] 46))) := (((Upd.refl _ w).alloc _).alloc _).alloc _
  have HXA : Hid (∀ W, Ext (((w.alloc (.cells #[.slice xa c.fields.length ca, .int .i64 c.glob, .slice xf c.funcs.length cf] 25)).alloc (.cells #[.string f.name, .int .i64 f.params, .int .i64 f.locals, .bool f.result, .slice xv f.code.length cv] 39)).alloc (.cells #[.int .i64 10, .int .i64 x] 46)) W → W.heap[w.heap.size]? = some (.cells #[.slice xa c.fields.length ca, .int .i64 c.glob, .slice xf c.funcs.length cf] 25)) := fun W hW => hW.heap (allocOld (allocOld (alloc0 w _) _) _) (fun h => h)
  have HXF : Hid (∀ W, Ext (((w.alloc (.cells #[.slice xa c.fields.length ca, .int .i64 c.glob, .slice xf c.funcs.length cf] 25)).alloc (.cells #[.string f.name, .int .i64 f.params, .int .i64 f.locals, .bool f.result, .slice xv f.code.length cv] 39)).alloc (.cells #[.int .i64 10, .int .i64 x] 46)) W → W.heap[w.heap.size + 1]? = some (.cells #[.string f.name, .int .i64 f.params, .int .i64 f.locals, .bool f.result, .slice xv f.code.length cv] 39)) := fun W hW => hW.heap (allocOld (alloc_at (w.alloc (.cells #[.slice xa c.fields.length ca, .int .i64 c.glob, .slice xf c.funcs.length cf] 25)) _ (n := w.heap.size + 1) (by simp)) _) (fun h => h)
  have HXI : Hid (∀ W, Ext (((w.alloc (.cells #[.slice xa c.fields.length ca, .int .i64 c.glob, .slice xf c.funcs.length cf] 25)).alloc (.cells #[.string f.name, .int .i64 f.params, .int .i64 f.locals, .bool f.result, .slice xv f.code.length cv] 39)).alloc (.cells #[.int .i64 10, .int .i64 x] 46)) W → W.heap[w.heap.size + 1 + 1]? = some (.cells #[.int .i64 10, .int .i64 x] 46)) := fun W hW => hW.heap (alloc_at ((w.alloc (.cells #[.slice xa c.fields.length ca, .int .i64 c.glob, .slice xf c.funcs.length cf] 25)).alloc (.cells #[.string f.name, .int .i64 f.params, .int .i64 f.locals, .bool f.result, .slice xv f.code.length cv] 39)) _ (n := w.heap.size + 1 + 1) (by simp)) (fun h => h)
  obtain ⟨C8, hC8⟩ : ∃ C8 : Array Value, C8 = #[.int .i64 0, .int .i64 0, .int .i64 0, .int .i64 1, .int .i64 0, .int .i64 1, .int .i64 1, .int .i64 0, .int .i64 0, .int .i64 1, .int .i64 1, .int .i64 0, .int .i64 1, .int .i64 1, .int .i64 2, .int .i64 0, .int .i64 0, .int .i64 1, .int .i64 0, .int .i64 0, .int .i64 0, .int .i64 0, .int .i64 0, .int .i64 0, .int .i64 1, .int .i64 0, .int .i64 0, .int .i64 0, .int .i64 1, .int .i64 1, .int .i64 0, .int .i64 0, .int .i64 0, .int .i64 0, .int .i64 0, .int .i64 0, .int .i64 0, .int .i64 0, .int .i64 0, .int .i64 0, .int .i64 0, .int .i64 0, .int .i64 0, .int .i64 0, .int .i64 0, .int .i64 0, .int .i64 0, .int .i64 0, .int .i64 0, .int .i64 0, .int .i64 0, .int .i64 0, .int .i64 1, .int .i64 1, .int .i64 0, .int .i64 0, .int .i64 0, .int .i64 0, .int .i64 1, .int .i64 1, .int .i64 1, .int .i64 0, .int .i64 1, .int .i64 2] := ⟨_, rfl⟩
  have hs8 : C8.size = 64 := by rw [hC8]; rfl
  have ho8 : C8.all (·.oneCell') = true := by rw [hC8]; kernel_rfl
  have hst : Sem.run Tryd.prog (storeCells ⟨w.heap.size + 1 + 1 + 1, 0, none⟩ C8.toList 0) ((((w.alloc (.cells #[.slice xa c.fields.length ca, .int .i64 c.glob, .slice xf c.funcs.length cf] 25)).alloc (.cells #[.string f.name, .int .i64 f.params, .int .i64 f.locals, .bool f.result, .slice xv f.code.length cv] 39)).alloc (.cells #[.int .i64 10, .int .i64 x] 46)).alloc (.cells #[.int .i64 0, .int .i64 0, .int .i64 0, .int .i64 0, .int .i64 0, .int .i64 0, .int .i64 0, .int .i64 0, .int .i64 0, .int .i64 0, .int .i64 0, .int .i64 0, .int .i64 0, .int .i64 0, .int .i64 0, .int .i64 0, .int .i64 0, .int .i64 0, .int .i64 0, .int .i64 0, .int .i64 0, .int .i64 0, .int .i64 0, .int .i64 0, .int .i64 0, .int .i64 0, .int .i64 0, .int .i64 0, .int .i64 0, .int .i64 0, .int .i64 0, .int .i64 0, .int .i64 0, .int .i64 0, .int .i64 0, .int .i64 0, .int .i64 0, .int .i64 0, .int .i64 0, .int .i64 0, .int .i64 0, .int .i64 0, .int .i64 0, .int .i64 0, .int .i64 0, .int .i64 0, .int .i64 0, .int .i64 0, .int .i64 0, .int .i64 0, .int .i64 0, .int .i64 0, .int .i64 0, .int .i64 0, .int .i64 0, .int .i64 0, .int .i64 0, .int .i64 0, .int .i64 0, .int .i64 0, .int .i64 0, .int .i64 0, .int .i64 0, .int .i64 0] 80)) = .ok () ((((w.alloc (.cells #[.slice xa c.fields.length ca, .int .i64 c.glob, .slice xf c.funcs.length cf] 25)).alloc (.cells #[.string f.name, .int .i64 f.params, .int .i64 f.locals, .bool f.result, .slice xv f.code.length cv] 39)).alloc (.cells #[.int .i64 10, .int .i64 x] 46)).alloc (.cells C8 80)) := by
    have q := run_storeCells_new (P := Tryd.prog) (((w.alloc (.cells #[.slice xa c.fields.length ca, .int .i64 c.glob, .slice xf c.funcs.length cf] 25)).alloc (.cells #[.string f.name, .int .i64 f.params, .int .i64 f.locals, .bool f.result, .slice xv f.code.length cv] 39)).alloc (.cells #[.int .i64 10, .int .i64 x] 46)) 80 #[.int .i64 0, .int .i64 0, .int .i64 0, .int .i64 0, .int .i64 0, .int .i64 0, .int .i64 0, .int .i64 0, .int .i64 0, .int .i64 0, .int .i64 0, .int .i64 0, .int .i64 0, .int .i64 0, .int .i64 0, .int .i64 0, .int .i64 0, .int .i64 0, .int .i64 0, .int .i64 0, .int .i64 0, .int .i64 0, .int .i64 0, .int .i64 0, .int .i64 0, .int .i64 0, .int .i64 0, .int .i64 0, .int .i64 0, .int .i64 0, .int .i64 0, .int .i64 0, .int .i64 0, .int .i64 0, .int .i64 0, .int .i64 0, .int .i64 0, .int .i64 0, .int .i64 0, .int .i64 0, .int .i64 0, .int .i64 0, .int .i64 0, .int .i64 0, .int .i64 0, .int .i64 0, .int .i64 0, .int .i64 0, .int .i64 0, .int .i64 0, .int .i64 0, .int .i64 0, .int .i64 0, .int .i64 0, .int .i64 0, .int .i64 0, .int .i64 0, .int .i64 0, .int .i64 0, .int .i64 0, .int .i64 0, .int .i64 0, .int .i64 0, .int .i64 0] C8 (by rw [hs8]; kernel_rfl) (by rw [hs8]; rfl) ho8
    simp only [alloc_size] at q
    exact q
  have HC8 := Lib.hid hC8
  clear hC8 ho8
  have hm : mvP c f 10 x = (oneB f.result, 0) := rfl
  rw [hm]
  dsimp only
  clear h hf hxv hm
  generalize f.result = RR at *
  have HO1 := Lib.hid (HO.out RR)
  clear HO
  go_enter Tryd.func34, Tryd.ntmps34
  go_wp2_with (with_reducible (refine stop_at (o := ⟨some 25, _, _, _, _, _⟩) ?_))
  refine Stop.go ?_
  refine wpList_run rfl (v := .agg C8) ?_ ?_
  · rw [HC8.out]; kernel_rfl
  go_wp2_with fail
  refine (HO1.out _).mono ?_
  rintro e w' ⟨rfl, rfl⟩
  go_wp2_with fail
  go_ret2
  exact ⟨rfl, by first | exact HE3.out.ext HE6.out | exact HE3.out.alloc _⟩

set_option maxRecDepth 100000 in
set_option maxHeartbeats 4000000 in
theorem moves_11 (a fv : Value) (c : Cd) (f : Fn) (x : Int) (w : World) (h : CdR w a fv c) (hf : FnR w f) : Calls Tryd.prog 34 #[.agg #[a, .int .i64 c.glob, fv], .agg #[.string f.name, .int .i64 f.params, .int .i64 f.locals, .bool f.result, f.v], .agg #[.int .i64 11, .int .i64 x]] w fun e w' => e = .returned (.tuple #[.int .i64 (mvP c f 11 x).1, .int .i64 (mvP c f 11 x).2]) ∧ Ext w w' := by
  obtain ⟨⟨xa, ca, rfl⟩, xf, cf, rfl⟩ := h.shapes
  obtain ⟨xv, cv, hxv⟩ := hf.shape
  rw [hxv]
  have hl1 := h.l1
  have hl2 := h.l2
  have hl3 := hf.len
  have HE3 : Hid (Ext w (((w.alloc (.cells #[.slice xa c.fields.length ca, .int .i64 c.glob, .slice xf c.funcs.length cf] 25)).alloc (.cells #[.string f.name, .int .i64 f.params, .int .i64 f.locals, .bool f.result, .slice xv f.code.length cv] 39)).alloc (.cells #[.int .i64 11, .int .i64 x] 46))) := (((Upd.refl _ w).alloc _).alloc _).alloc _
  have HXA : Hid (∀ W, Ext (((w.alloc (.cells #[.slice xa c.fields.length ca, .int .i64 c.glob, .slice xf c.funcs.length cf] 25)).alloc (.cells #[.string f.name, .int .i64 f.params, .int .i64 f.locals, .bool f.result, .slice xv f.code.length cv] 39)).alloc (.cells #[.int .i64 11, .int .i64 x] 46)) W → W.heap[w.heap.size]? = some (.cells #[.slice xa c.fields.length ca, .int .i64 c.glob, .slice xf c.funcs.length cf] 25)) := fun W hW => hW.heap (allocOld (allocOld (alloc0 w _) _) _) (fun h => h)
  have HXF : Hid (∀ W, Ext (((w.alloc (.cells #[.slice xa c.fields.length ca, .int .i64 c.glob, .slice xf c.funcs.length cf] 25)).alloc (.cells #[.string f.name, .int .i64 f.params, .int .i64 f.locals, .bool f.result, .slice xv f.code.length cv] 39)).alloc (.cells #[.int .i64 11, .int .i64 x] 46)) W → W.heap[w.heap.size + 1]? = some (.cells #[.string f.name, .int .i64 f.params, .int .i64 f.locals, .bool f.result, .slice xv f.code.length cv] 39)) := fun W hW => hW.heap (allocOld (alloc_at (w.alloc (.cells #[.slice xa c.fields.length ca, .int .i64 c.glob, .slice xf c.funcs.length cf] 25)) _ (n := w.heap.size + 1) (by simp)) _) (fun h => h)
  have HXI : Hid (∀ W, Ext (((w.alloc (.cells #[.slice xa c.fields.length ca, .int .i64 c.glob, .slice xf c.funcs.length cf] 25)).alloc (.cells #[.string f.name, .int .i64 f.params, .int .i64 f.locals, .bool f.result, .slice xv f.code.length cv] 39)).alloc (.cells #[.int .i64 11, .int .i64 x] 46)) W → W.heap[w.heap.size + 1 + 1]? = some (.cells #[.int .i64 11, .int .i64 x] 46)) := fun W hW => hW.heap (alloc_at ((w.alloc (.cells #[.slice xa c.fields.length ca, .int .i64 c.glob, .slice xf c.funcs.length cf] 25)).alloc (.cells #[.string f.name, .int .i64 f.params, .int .i64 f.locals, .bool f.result, .slice xv f.code.length cv] 39)) _ (n := w.heap.size + 1 + 1) (by simp)) (fun h => h)
  obtain ⟨C8, hC8⟩ : ∃ C8 : Array Value, C8 = #[.int .i64 0, .int .i64 0, .int .i64 0, .int .i64 1, .int .i64 0, .int .i64 1, .int .i64 1, .int .i64 0, .int .i64 0, .int .i64 1, .int .i64 1, .int .i64 0, .int .i64 1, .int .i64 1, .int .i64 2, .int .i64 0, .int .i64 0, .int .i64 1, .int .i64 0, .int .i64 0, .int .i64 0, .int .i64 0, .int .i64 0, .int .i64 0, .int .i64 1, .int .i64 0, .int .i64 0, .int .i64 0, .int .i64 1, .int .i64 1, .int .i64 0, .int .i64 0, .int .i64 0, .int .i64 0, .int .i64 0, .int .i64 0, .int .i64 0, .int .i64 0, .int .i64 0, .int .i64 0, .int .i64 0, .int .i64 0, .int .i64 0, .int .i64 0, .int .i64 0, .int .i64 0, .int .i64 0, .int .i64 0, .int .i64 0, .int .i64 0, .int .i64 0, .int .i64 0, .int .i64 1, .int .i64 1, .int .i64 0, .int .i64 0, .int .i64 0, .int .i64 0, .int .i64 1, .int .i64 1, .int .i64 1, .int .i64 0, .int .i64 1, .int .i64 2] := ⟨_, rfl⟩
  have hs8 : C8.size = 64 := by rw [hC8]; rfl
  have ho8 : C8.all (·.oneCell') = true := by rw [hC8]; kernel_rfl
  have ha8 : C8[22]? = some (.int .i64 0) := by rw [hC8]; rfl
  have hb8 : C8[23]? = some (.int .i64 0) := by rw [hC8]; rfl
  have HEQ : Hid (Ext (((w.alloc (.cells #[.slice xa c.fields.length ca, .int .i64 c.glob, .slice xf c.funcs.length cf] 25)).alloc (.cells #[.string f.name, .int .i64 f.params, .int .i64 f.locals, .bool f.result, .slice xv f.code.length cv] 39)).alloc (.cells #[.int .i64 11, .int .i64 x] 46)) ((((w.alloc (.cells #[.slice xa c.fields.length ca, .int .i64 c.glob, .slice xf c.funcs.length cf] 25)).alloc (.cells #[.string f.name, .int .i64 f.params, .int .i64 f.locals, .bool f.result, .slice xv f.code.length cv] 39)).alloc (.cells #[.int .i64 11, .int .i64 x] 46)).alloc (.cells C8 80))) := (Upd.refl _ _).alloc _
  have hA0 : ∀ y : XW ((((w.alloc (.cells #[.slice xa c.fields.length ca, .int .i64 c.glob, .slice xf c.funcs.length cf] 25)).alloc (.cells #[.string f.name, .int .i64 f.params, .int .i64 f.locals, .bool f.result, .slice xv f.code.length cv] 39)).alloc (.cells #[.int .i64 11, .int .i64 x] 46)).alloc (.cells C8 80)), y.val.cell? ⟨w.heap.size + 1 + 1 + 1, 22, none⟩ = some (.int .i64 0) := fun y => cellRow (ext_heap8 y.ext (alloc_at (((w.alloc (.cells #[.slice xa c.fields.length ca, .int .i64 c.glob, .slice xf c.funcs.length cf] 25)).alloc (.cells #[.string f.name, .int .i64 f.params, .int .i64 f.locals, .bool f.result, .slice xv f.code.length cv] 39)).alloc (.cells #[.int .i64 11, .int .i64 x] 46)) _ (by simp))) _ _ ha8
  have hA1 : ∀ y : XW ((((w.alloc (.cells #[.slice xa c.fields.length ca, .int .i64 c.glob, .slice xf c.funcs.length cf] 25)).alloc (.cells #[.string f.name, .int .i64 f.params, .int .i64 f.locals, .bool f.result, .slice xv f.code.length cv] 39)).alloc (.cells #[.int .i64 11, .int .i64 x] 46)).alloc (.cells C8 80)), y.val.cell? ⟨w.heap.size + 1 + 1 + 1, 23, none⟩ = some (.int .i64 0) := fun y => cellRow (ext_heap8 y.ext (alloc_at (((w.alloc (.cells #[.slice xa c.fields.length ca, .int .i64 c.glob, .slice xf c.funcs.length cf] 25)).alloc (.cells #[.string f.name, .int .i64 f.params, .int .i64 f.locals, .bool f.result, .slice xv f.code.length cv] 39)).alloc (.cells #[.int .i64 11, .int .i64 x] 46)) _ (by simp))) _ _ hb8
  have hI0 : ∀ y : XW ((((w.alloc (.cells #[.slice xa c.fields.length ca, .int .i64 c.glob, .slice xf c.funcs.length cf] 25)).alloc (.cells #[.string f.name, .int .i64 f.params, .int .i64 f.locals, .bool f.result, .slice xv f.code.length cv] 39)).alloc (.cells #[.int .i64 11, .int .i64 x] 46)).alloc (.cells C8 80)), y.val.cell? ⟨w.heap.size + 1 + 1, 0, none⟩ = some (.int .i64 11) := fun y => cellRow (HXI.out _ (HEQ.out.ext y.ext)) 0 _ rfl
  have hrf : Ext ((((w.alloc (.cells #[.slice xa c.fields.length ca, .int .i64 c.glob, .slice xf c.funcs.length cf] 25)).alloc (.cells #[.string f.name, .int .i64 f.params, .int .i64 f.locals, .bool f.result, .slice xv f.code.length cv] 39)).alloc (.cells #[.int .i64 11, .int .i64 x] 46)).alloc (.cells C8 80)) ((((w.alloc (.cells #[.slice xa c.fields.length ca, .int .i64 c.glob, .slice xf c.funcs.length cf] 25)).alloc (.cells #[.string f.name, .int .i64 f.params, .int .i64 f.locals, .bool f.result, .slice xv f.code.length cv] 39)).alloc (.cells #[.int .i64 11, .int .i64 x] 46)).alloc (.cells C8 80)) := Upd.refl _ _
  clear ha8 hb8
  have hst : Sem.run Tryd.prog (storeCells ⟨w.heap.size + 1 + 1 + 1, 0, none⟩ C8.toList 0) ((((w.alloc (.cells #[.slice xa c.fields.length ca, .int .i64 c.glob, .slice xf c.funcs.length cf] 25)).alloc (.cells #[.string f.name, .int .i64 f.params, .int .i64 f.locals, .bool f.result, .slice xv f.code.length cv] 39)).alloc (.cells #[.int .i64 11, .int .i64 x] 46)).alloc (.cells #[.int .i64 0, .int .i64 0, .int .i64 0, .int .i64 0, .int .i64 0, .int .i64 0, .int .i64 0, .int .i64 0, .int .i64 0, .int .i64 0, .int .i64 0, .int .i64 0, .int .i64 0, .int .i64 0, .int .i64 0, .int .i64 0, .int .i64 0, .int .i64 0, .int .i64 0, .int .i64 0, .int .i64 0, .int .i64 0, .int .i64 0, .int .i64 0, .int .i64 0, .int .i64 0, .int .i64 0, .int .i64 0, .int .i64 0, .int .i64 0, .int .i64 0, .int .i64 0, .int .i64 0, .int .i64 0, .int .i64 0, .int .i64 0, .int .i64 0, .int .i64 0, .int .i64 0, .int .i64 0, .int .i64 0, .int .i64 0, .int .i64 0, .int .i64 0, .int .i64 0, .int .i64 0, .int .i64 0, .int .i64 0, .int .i64 0, .int .i64 0, .int .i64 0, .int .i64 0, .int .i64 0, .int .i64 0, .int .i64 0, .int .i64 0, .int .i64 0, .int .i64 0, .int .i64 0, .int .i64 0, .int .i64 0, .int .i64 0, .int .i64 0, .int .i64 0] 80)) = .ok () ((((w.alloc (.cells #[.slice xa c.fields.length ca, .int .i64 c.glob, .slice xf c.funcs.length cf] 25)).alloc (.cells #[.string f.name, .int .i64 f.params, .int .i64 f.locals, .bool f.result, .slice xv f.code.length cv] 39)).alloc (.cells #[.int .i64 11, .int .i64 x] 46)).alloc (.cells C8 80)) := by
    have q := run_storeCells_new (P := Tryd.prog) (((w.alloc (.cells #[.slice xa c.fields.length ca, .int .i64 c.glob, .slice xf c.funcs.length cf] 25)).alloc (.cells #[.string f.name, .int .i64 f.params, .int .i64 f.locals, .bool f.result, .slice xv f.code.length cv] 39)).alloc (.cells #[.int .i64 11, .int .i64 x] 46)) 80 #[.int .i64 0, .int .i64 0, .int .i64 0, .int .i64 0, .int .i64 0, .int .i64 0, .int .i64 0, .int .i64 0, .int .i64 0, .int .i64 0, .int .i64 0, .int .i64 0, .int .i64 0, .int .i64 0, .int .i64 0, .int .i64 0, .int .i64 0, .int .i64 0, .int .i64 0, .int .i64 0, .int .i64 0, .int .i64 0, .int .i64 0, .int .i64 0, .int .i64 0, .int .i64 0, .int .i64 0, .int .i64 0, .int .i64 0, .int .i64 0, .int .i64 0, .int .i64 0, .int .i64 0, .int .i64 0, .int .i64 0, .int .i64 0, .int .i64 0, .int .i64 0, .int .i64 0, .int .i64 0, .int .i64 0, .int .i64 0, .int .i64 0, .int .i64 0, .int .i64 0, .int .i64 0, .int .i64 0, .int .i64 0, .int .i64 0, .int .i64 0, .int .i64 0, .int .i64 0, .int .i64 0, .int .i64 0, .int .i64 0, .int .i64 0, .int .i64 0, .int .i64 0, .int .i64 0, .int .i64 0, .int .i64 0, .int .i64 0, .int .i64 0, .int .i64 0] C8 (by rw [hs8]; kernel_rfl) (by rw [hs8]; rfl) ho8
    simp only [alloc_size] at q
    exact q
  have HC8 := Lib.hid hC8
  clear hC8 ho8
  have hm : mvP c f 11 x = (0, 0) := by unfold mvP; simp
  rw [hm]
  dsimp only
  clear h hf hxv hm
  go_enter Tryd.func34, Tryd.ntmps34
  go_wp2_with (with_reducible (refine stop_at (o := ⟨some 25, _, _, _, _, _⟩) ?_))
  refine Stop.go ?_
  refine wpList_run rfl (v := .agg C8) ?_ ?_
  · rw [HC8.out]; kernel_rfl
  go_wp2_with fail
  refine wp_region_ext _ (by assumption) (by kernel_rfl) (by kernel_rfl) ?_
  repeat (first | go_big_quiet_skip | (go_big_quiet_want; go_big_quiet_op; first | go_big_quiet_on | (apply Exists.intro; refine ⟨fun x => ?_, ?_⟩; (fail); go_big_quiet_on)))
  refine wpQuiet_nil ?_
  rintro w6 ⟨⟨_, hyw6⟩, rfl⟩
  try dsimp only
  have HE6 := Lib.hid (HEQ.out.ext hyw6)
  clear hrf hyw6
  go_wp2_with fail
  go_ret2
  exact ⟨rfl, by first | exact HE3.out.ext HE6.out | exact HE3.out.alloc _⟩

set_option maxRecDepth 100000 in
set_option maxHeartbeats 4000000 in
theorem moves_12 (a fv : Value) (c : Cd) (f : Fn) (x : Int) (w : World) (h : CdR w a fv c) (hf : FnR w f) : Calls Tryd.prog 34 #[.agg #[a, .int .i64 c.glob, fv], .agg #[.string f.name, .int .i64 f.params, .int .i64 f.locals, .bool f.result, f.v], .agg #[.int .i64 12, .int .i64 x]] w fun e w' => e = .returned (.tuple #[.int .i64 (mvP c f 12 x).1, .int .i64 (mvP c f 12 x).2]) ∧ Ext w w' := by
  obtain ⟨⟨xa, ca, rfl⟩, xf, cf, rfl⟩ := h.shapes
  obtain ⟨xv, cv, hxv⟩ := hf.shape
  rw [hxv]
  have hl1 := h.l1
  have hl2 := h.l2
  have hl3 := hf.len
  have HE3 : Hid (Ext w (((w.alloc (.cells #[.slice xa c.fields.length ca, .int .i64 c.glob, .slice xf c.funcs.length cf] 25)).alloc (.cells #[.string f.name, .int .i64 f.params, .int .i64 f.locals, .bool f.result, .slice xv f.code.length cv] 39)).alloc (.cells #[.int .i64 12, .int .i64 x] 46))) := (((Upd.refl _ w).alloc _).alloc _).alloc _
  have HXA : Hid (∀ W, Ext (((w.alloc (.cells #[.slice xa c.fields.length ca, .int .i64 c.glob, .slice xf c.funcs.length cf] 25)).alloc (.cells #[.string f.name, .int .i64 f.params, .int .i64 f.locals, .bool f.result, .slice xv f.code.length cv] 39)).alloc (.cells #[.int .i64 12, .int .i64 x] 46)) W → W.heap[w.heap.size]? = some (.cells #[.slice xa c.fields.length ca, .int .i64 c.glob, .slice xf c.funcs.length cf] 25)) := fun W hW => hW.heap (allocOld (allocOld (alloc0 w _) _) _) (fun h => h)
  have HXF : Hid (∀ W, Ext (((w.alloc (.cells #[.slice xa c.fields.length ca, .int .i64 c.glob, .slice xf c.funcs.length cf] 25)).alloc (.cells #[.string f.name, .int .i64 f.params, .int .i64 f.locals, .bool f.result, .slice xv f.code.length cv] 39)).alloc (.cells #[.int .i64 12, .int .i64 x] 46)) W → W.heap[w.heap.size + 1]? = some (.cells #[.string f.name, .int .i64 f.params, .int .i64 f.locals, .bool f.result, .slice xv f.code.length cv] 39)) := fun W hW => hW.heap (allocOld (alloc_at (w.alloc (.cells #[.slice xa c.fields.length ca, .int .i64 c.glob, .slice xf c.funcs.length cf] 25)) _ (n := w.heap.size + 1) (by simp)) _) (fun h => h)
  have HXI : Hid (∀ W, Ext (((w.alloc (.cells #[.slice xa c.fields.length ca, .int .i64 c.glob, .slice xf c.funcs.length cf] 25)).alloc (.cells #[.string f.name, .int .i64 f.params, .int .i64 f.locals, .bool f.result, .slice xv f.code.length cv] 39)).alloc (.cells #[.int .i64 12, .int .i64 x] 46)) W → W.heap[w.heap.size + 1 + 1]? = some (.cells #[.int .i64 12, .int .i64 x] 46)) := fun W hW => hW.heap (alloc_at ((w.alloc (.cells #[.slice xa c.fields.length ca, .int .i64 c.glob, .slice xf c.funcs.length cf] 25)).alloc (.cells #[.string f.name, .int .i64 f.params, .int .i64 f.locals, .bool f.result, .slice xv f.code.length cv] 39)) _ (n := w.heap.size + 1 + 1) (by simp)) (fun h => h)
  obtain ⟨C8, hC8⟩ : ∃ C8 : Array Value, C8 = #[.int .i64 0, .int .i64 0, .int .i64 0, .int .i64 1, .int .i64 0, .int .i64 1, .int .i64 1, .int .i64 0, .int .i64 0, .int .i64 1, .int .i64 1, .int .i64 0, .int .i64 1, .int .i64 1, .int .i64 2, .int .i64 0, .int .i64 0, .int .i64 1, .int .i64 0, .int .i64 0, .int .i64 0, .int .i64 0, .int .i64 0, .int .i64 0, .int .i64 1, .int .i64 0, .int .i64 0, .int .i64 0, .int .i64 1, .int .i64 1, .int .i64 0, .int .i64 0, .int .i64 0, .int .i64 0, .int .i64 0, .int .i64 0, .int .i64 0, .int .i64 0, .int .i64 0, .int .i64 0, .int .i64 0, .int .i64 0, .int .i64 0, .int .i64 0, .int .i64 0, .int .i64 0, .int .i64 0, .int .i64 0, .int .i64 0, .int .i64 0, .int .i64 0, .int .i64 0, .int .i64 1, .int .i64 1, .int .i64 0, .int .i64 0, .int .i64 0, .int .i64 0, .int .i64 1, .int .i64 1, .int .i64 1, .int .i64 0, .int .i64 1, .int .i64 2] := ⟨_, rfl⟩
  have hs8 : C8.size = 64 := by rw [hC8]; rfl
  have ho8 : C8.all (·.oneCell') = true := by rw [hC8]; kernel_rfl
  have ha8 : C8[24]? = some (.int .i64 1) := by rw [hC8]; rfl
  have hb8 : C8[25]? = some (.int .i64 0) := by rw [hC8]; rfl
  have HEQ : Hid (Ext (((w.alloc (.cells #[.slice xa c.fields.length ca, .int .i64 c.glob, .slice xf c.funcs.length cf] 25)).alloc (.cells #[.string f.name, .int .i64 f.params, .int .i64 f.locals, .bool f.result, .slice xv f.code.length cv] 39)).alloc (.cells #[.int .i64 12, .int .i64 x] 46)) ((((w.alloc (.cells #[.slice xa c.fields.length ca, .int .i64 c.glob, .slice xf c.funcs.length cf] 25)).alloc (.cells #[.string f.name, .int .i64 f.params, .int .i64 f.locals, .bool f.result, .slice xv f.code.length cv] 39)).alloc (.cells #[.int .i64 12, .int .i64 x] 46)).alloc (.cells C8 80))) := (Upd.refl _ _).alloc _
  have hA0 : ∀ y : XW ((((w.alloc (.cells #[.slice xa c.fields.length ca, .int .i64 c.glob, .slice xf c.funcs.length cf] 25)).alloc (.cells #[.string f.name, .int .i64 f.params, .int .i64 f.locals, .bool f.result, .slice xv f.code.length cv] 39)).alloc (.cells #[.int .i64 12, .int .i64 x] 46)).alloc (.cells C8 80)), y.val.cell? ⟨w.heap.size + 1 + 1 + 1, 24, none⟩ = some (.int .i64 1) := fun y => cellRow (ext_heap8 y.ext (alloc_at (((w.alloc (.cells #[.slice xa c.fields.length ca, .int .i64 c.glob, .slice xf c.funcs.length cf] 25)).alloc (.cells #[.string f.name, .int .i64 f.params, .int .i64 f.locals, .bool f.result, .slice xv f.code.length cv] 39)).alloc (.cells #[.int .i64 12, .int .i64 x] 46)) _ (by simp))) _ _ ha8
  have hA1 : ∀ y : XW ((((w.alloc (.cells #[.slice xa c.fields.length ca, .int .i64 c.glob, .slice xf c.funcs.length cf] 25)).alloc (.cells #[.string f.name, .int .i64 f.params, .int .i64 f.locals, .bool f.result, .slice xv f.code.length cv] 39)).alloc (.cells #[.int .i64 12, .int .i64 x] 46)).alloc (.cells C8 80)), y.val.cell? ⟨w.heap.size + 1 + 1 + 1, 25, none⟩ = some (.int .i64 0) := fun y => cellRow (ext_heap8 y.ext (alloc_at (((w.alloc (.cells #[.slice xa c.fields.length ca, .int .i64 c.glob, .slice xf c.funcs.length cf] 25)).alloc (.cells #[.string f.name, .int .i64 f.params, .int .i64 f.locals, .bool f.result, .slice xv f.code.length cv] 39)).alloc (.cells #[.int .i64 12, .int .i64 x] 46)) _ (by simp))) _ _ hb8
  have hI0 : ∀ y : XW ((((w.alloc (.cells #[.slice xa c.fields.length ca, .int .i64 c.glob, .slice xf c.funcs.length cf] 25)).alloc (.cells #[.string f.name, .int .i64 f.params, .int .i64 f.locals, .bool f.result, .slice xv f.code.length cv] 39)).alloc (.cells #[.int .i64 12, .int .i64 x] 46)).alloc (.cells C8 80)), y.val.cell? ⟨w.heap.size + 1 + 1, 0, none⟩ = some (.int .i64 12) := fun y => cellRow (HXI.out _ (HEQ.out.ext y.ext)) 0 _ rfl
  have hrf : Ext ((((w.alloc (.cells #[.slice xa c.fields.length ca, .int .i64 c.glob, .slice xf c.funcs.length cf] 25)).alloc (.cells #[.string f.name, .int .i64 f.params, .int .i64 f.locals, .bool f.result, .slice xv f.code.length cv] 39)).alloc (.cells #[.int .i64 12, .int .i64 x] 46)).alloc (.cells C8 80)) ((((w.alloc (.cells #[.slice xa c.fields.length ca, .int .i64 c.glob, .slice xf c.funcs.length cf] 25)).alloc (.cells #[.string f.name, .int .i64 f.params, .int .i64 f.locals, .bool f.result, .slice xv f.code.length cv] 39)).alloc (.cells #[.int .i64 12, .int .i64 x] 46)).alloc (.cells C8 80)) := Upd.refl _ _
  clear ha8 hb8
  have hst : Sem.run Tryd.prog (storeCells ⟨w.heap.size + 1 + 1 + 1, 0, none⟩ C8.toList 0) ((((w.alloc (.cells #[.slice xa c.fields.length ca, .int .i64 c.glob, .slice xf c.funcs.length cf] 25)).alloc (.cells #[.string f.name, .int .i64 f.params, .int .i64 f.locals, .bool f.result, .slice xv f.code.length cv] 39)).alloc (.cells #[.int .i64 12, .int .i64 x] 46)).alloc (.cells #[.int .i64 0, .int .i64 0, .int .i64 0, .int .i64 0, .int .i64 0, .int .i64 0, .int .i64 0, .int .i64 0, .int .i64 0, .int .i64 0, .int .i64 0, .int .i64 0, .int .i64 0, .int .i64 0, .int .i64 0, .int .i64 0, .int .i64 0, .int .i64 0, .int .i64 0, .int .i64 0, .int .i64 0, .int .i64 0, .int .i64 0, .int .i64 0, .int .i64 0, .int .i64 0, .int .i64 0, .int .i64 0, .int .i64 0, .int .i64 0, .int .i64 0, .int .i64 0, .int .i64 0, .int .i64 0, .int .i64 0, .int .i64 0, .int .i64 0, .int .i64 0, .int .i64 0, .int .i64 0, .int .i64 0, .int .i64 0, .int .i64 0, .int .i64 0, .int .i64 0, .int .i64 0, .int .i64 0, .int .i64 0, .int .i64 0, .int .i64 0, .int .i64 0, .int .i64 0, .int .i64 0, .int .i64 0, .int .i64 0, .int .i64 0, .int .i64 0, .int .i64 0, .int .i64 0, .int .i64 0, .int .i64 0, .int .i64 0, .int .i64 0, .int .i64 0] 80)) = .ok () ((((w.alloc (.cells #[.slice xa c.fields.length ca, .int .i64 c.glob, .slice xf c.funcs.length cf] 25)).alloc (.cells #[.string f.name, .int .i64 f.params, .int .i64 f.locals, .bool f.result, .slice xv f.code.length cv] 39)).alloc (.cells #[.int .i64 12, .int .i64 x] 46)).alloc (.cells C8 80)) := by
    have q := run_storeCells_new (P := Tryd.prog) (((w.alloc (.cells #[.slice xa c.fields.length ca, .int .i64 c.glob, .slice xf c.funcs.length cf] 25)).alloc (.cells #[.string f.name, .int .i64 f.params, .int .i64 f.locals, .bool f.result, .slice xv f.code.length cv] 39)).alloc (.cells #[.int .i64 12, .int .i64 x] 46)) 80 #[.int .i64 0, .int .i64 0, .int .i64 0, .int .i64 0, .int .i64 0, .int .i64 0, .int .i64 0, .int .i64 0, .int .i64 0, .int .i64 0, .int .i64 0, .int .i64 0, .int .i64 0, .int .i64 0, .int .i64 0, .int .i64 0, .int .i64 0, .int .i64 0, .int .i64 0, .int .i64 0, .int .i64 0, .int .i64 0, .int .i64 0, .int .i64 0, .int .i64 0, .int .i64 0, .int .i64 0, .int .i64 0, .int .i64 0, .int .i64 0, .int .i64 0, .int .i64 0, .int .i64 0, .int .i64 0, .int .i64 0, .int .i64 0, .int .i64 0, .int .i64 0, .int .i64 0, .int .i64 0, .int .i64 0, .int .i64 0, .int .i64 0, .int .i64 0, .int .i64 0, .int .i64 0, .int .i64 0, .int .i64 0, .int .i64 0, .int .i64 0, .int .i64 0, .int .i64 0, .int .i64 0, .int .i64 0, .int .i64 0, .int .i64 0, .int .i64 0, .int .i64 0, .int .i64 0, .int .i64 0, .int .i64 0, .int .i64 0, .int .i64 0, .int .i64 0] C8 (by rw [hs8]; kernel_rfl) (by rw [hs8]; rfl) ho8
    simp only [alloc_size] at q
    exact q
  have HC8 := Lib.hid hC8
  clear hC8 ho8
  have hm : mvP c f 12 x = (1, 0) := by unfold mvP; simp
  rw [hm]
  dsimp only
  clear h hf hxv hm
  go_enter Tryd.func34, Tryd.ntmps34
  go_wp2_with (with_reducible (refine stop_at (o := ⟨some 25, _, _, _, _, _⟩) ?_))
  refine Stop.go ?_
  refine wpList_run rfl (v := .agg C8) ?_ ?_
  · rw [HC8.out]; kernel_rfl
  go_wp2_with fail
  refine wp_region_ext _ (by assumption) (by kernel_rfl) (by kernel_rfl) ?_
  repeat (first | go_big_quiet_skip | (go_big_quiet_want; go_big_quiet_op; first | go_big_quiet_on | (apply Exists.intro; refine ⟨fun x => ?_, ?_⟩; (fail); go_big_quiet_on)))
  refine wpQuiet_nil ?_
  rintro w6 ⟨⟨_, hyw6⟩, rfl⟩
  try dsimp only
  have HE6 := Lib.hid (HEQ.out.ext hyw6)
  clear hrf hyw6
  go_wp2_with fail
  go_ret2
  exact ⟨rfl, by first | exact HE3.out.ext HE6.out | exact HE3.out.alloc _⟩

set_option maxRecDepth 100000 in
set_option maxHeartbeats 4000000 in
theorem moves_13 (a fv : Value) (c : Cd) (f : Fn) (x : Int) (w : World) (h : CdR w a fv c) (hf : FnR w f) : Calls Tryd.prog 34 #[.agg #[a, .int .i64 c.glob, fv], .agg #[.string f.name, .int .i64 f.params, .int .i64 f.locals, .bool f.result, f.v], .agg #[.int .i64 13, .int .i64 x]] w fun e w' => e = .returned (.tuple #[.int .i64 (mvP c f 13 x).1, .int .i64 (mvP c f 13 x).2]) ∧ Ext w w' := by
  obtain ⟨⟨xa, ca, rfl⟩, xf, cf, rfl⟩ := h.shapes
  obtain ⟨xv, cv, hxv⟩ := hf.shape
  rw [hxv]
  have hl1 := h.l1
  have hl2 := h.l2
  have hl3 := hf.len
  have HE3 : Hid (Ext w (((w.alloc (.cells #[.slice xa c.fields.length ca, .int .i64 c.glob, .slice xf c.funcs.length cf] 25)).alloc (.cells #[.string f.name, .int .i64 f.params, .int .i64 f.locals, .bool f.result, .slice xv f.code.length cv] 39)).alloc (.cells #[.int .i64 13, .int .i64 x] 46))) := (((Upd.refl _ w).alloc _).alloc _).alloc _
  have HXA : Hid (∀ W, Ext (((w.alloc (.cells #[.slice xa c.fields.length ca, .int .i64 c.glob, .slice xf c.funcs.length cf] 25)).alloc (.cells #[.string f.name, .int .i64 f.params, .int .i64 f.locals, .bool f.result, .slice xv f.code.length cv] 39)).alloc (.cells #[.int .i64 13, .int .i64 x] 46)) W → W.heap[w.heap.size]? = some (.cells #[.slice xa c.fields.length ca, .int .i64 c.glob, .slice xf c.funcs.length cf] 25)) := fun W hW => hW.heap (allocOld (allocOld (alloc0 w _) _) _) (fun h => h)
  have HXF : Hid (∀ W, Ext (((w.alloc (.cells #[.slice xa c.fields.length ca, .int .i64 c.glob, .slice xf c.funcs.length cf] 25)).alloc (.cells #[.string f.name, .int .i64 f.params, .int .i64 f.locals, .bool f.result, .slice xv f.code.length cv] 39)).alloc (.cells #[.int .i64 13, .int .i64 x] 46)) W → W.heap[w.heap.size + 1]? = some (.cells #[.string f.name, .int .i64 f.params, .int .i64 f.locals, .bool f.result, .slice xv f.code.length cv] 39)) := fun W hW => hW.heap (allocOld (alloc_at (w.alloc (.cells #[.slice xa c.fields.length ca, .int .i64 c.glob, .slice xf c.funcs.length cf] 25)) _ (n := w.heap.size + 1) (by simp)) _) (fun h => h)
  have HXI : Hid (∀ W, Ext (((w.alloc (.cells #[.slice xa c.fields.length ca, .int .i64 c.glob, .slice xf c.funcs.length cf] 25)).alloc (.cells #[.string f.name, .int .i64 f.params, .int .i64 f.locals, .bool f.result, .slice xv f.code.length cv] 39)).alloc (.cells #[.int .i64 13, .int .i64 x] 46)) W → W.heap[w.heap.size + 1 + 1]? = some (.cells #[.int .i64 13, .int .i64 x] 46)) := fun W hW => hW.heap (alloc_at ((w.alloc (.cells #[.slice xa c.fields.length ca, .int .i64 c.glob, .slice xf c.funcs.length cf] 25)).alloc (.cells #[.string f.name, .int .i64 f.params, .int .i64 f.locals, .bool f.result, .slice xv f.code.length cv] 39)) _ (n := w.heap.size + 1 + 1) (by simp)) (fun h => h)
  obtain ⟨C8, hC8⟩ : ∃ C8 : Array Value, C8 = #[.int .i64 0, .int .i64 0, .int .i64 0, .int .i64 1, .int .i64 0, .int .i64 1, .int .i64 1, .int .i64 0, .int .i64 0, .int .i64 1, .int .i64 1, .int .i64 0, .int .i64 1, .int .i64 1, .int .i64 2, .int .i64 0, .int .i64 0, .int .i64 1, .int .i64 0, .int .i64 0, .int .i64 0, .int .i64 0, .int .i64 0, .int .i64 0, .int .i64 1, .int .i64 0, .int .i64 0, .int .i64 0, .int .i64 1, .int .i64 1, .int .i64 0, .int .i64 0, .int .i64 0, .int .i64 0, .int .i64 0, .int .i64 0, .int .i64 0, .int .i64 0, .int .i64 0, .int .i64 0, .int .i64 0, .int .i64 0, .int .i64 0, .int .i64 0, .int .i64 0, .int .i64 0, .int .i64 0, .int .i64 0, .int .i64 0, .int .i64 0, .int .i64 0, .int .i64 0, .int .i64 1, .int .i64 1, .int .i64 0, .int .i64 0, .int .i64 0, .int .i64 0, .int .i64 1, .int .i64 1, .int .i64 1, .int .i64 0, .int .i64 1, .int .i64 2] := ⟨_, rfl⟩
  have hs8 : C8.size = 64 := by rw [hC8]; rfl
  have ho8 : C8.all (·.oneCell') = true := by rw [hC8]; kernel_rfl
  have ha8 : C8[26]? = some (.int .i64 0) := by rw [hC8]; rfl
  have hb8 : C8[27]? = some (.int .i64 0) := by rw [hC8]; rfl
  have HEQ : Hid (Ext (((w.alloc (.cells #[.slice xa c.fields.length ca, .int .i64 c.glob, .slice xf c.funcs.length cf] 25)).alloc (.cells #[.string f.name, .int .i64 f.params, .int .i64 f.locals, .bool f.result, .slice xv f.code.length cv] 39)).alloc (.cells #[.int .i64 13, .int .i64 x] 46)) ((((w.alloc (.cells #[.slice xa c.fields.length ca, .int .i64 c.glob, .slice xf c.funcs.length cf] 25)).alloc (.cells #[.string f.name, .int .i64 f.params, .int .i64 f.locals, .bool f.result, .slice xv f.code.length cv] 39)).alloc (.cells #[.int .i64 13, .int .i64 x] 46)).alloc (.cells C8 80))) := (Upd.refl _ _).alloc _
  have hA0 : ∀ y : XW ((((w.alloc (.cells #[.slice xa c.fields.length ca, .int .i64 c.glob, .slice xf c.funcs.length cf] 25)).alloc (.cells #[.string f.name, .int .i64 f.params, .int .i64 f.locals, .bool f.result, .slice xv f.code.length cv] 39)).alloc (.cells #[.int .i64 13, .int .i64 x] 46)).alloc (.cells C8 80)), y.val.cell? ⟨w.heap.size + 1 + 1 + 1, 26, none⟩ = some (.int .i64 0) := fun y => cellRow (ext_heap8 y.ext (alloc_at (((w.alloc (.cells #[.slice xa c.fields.length ca, .int .i64 c.glob, .slice xf c.funcs.length cf] 25)).alloc (.cells #[.string f.name, .int .i64 f.params, .int .i64 f.locals, .bool f.result, .slice xv f.code.length cv] 39)).alloc (.cells #[.int .i64 13, .int .i64 x] 46)) _ (by simp))) _ _ ha8
  have hA1 : ∀ y : XW ((((w.alloc (.cells #[.slice xa c.fields.length ca, .int .i64 c.glob, .slice xf c.funcs.length cf] 25)).alloc (.cells #[.string f.name, .int .i64 f.params, .int .i64 f.locals, .bool f.result, .slice xv f.code.length cv] 39)).alloc (.cells #[.int .i64 13, .int .i64 x] 46)).alloc (.cells C8 80)), y.val.cell? ⟨w.heap.size + 1 + 1 + 1, 27, none⟩ = some (.int .i64 0) := fun y => cellRow (ext_heap8 y.ext (alloc_at (((w.alloc (.cells #[.slice xa c.fields.length ca, .int .i64 c.glob, .slice xf c.funcs.length cf] 25)).alloc (.cells #[.string f.name, .int .i64 f.params, .int .i64 f.locals, .bool f.result, .slice xv f.code.length cv] 39)).alloc (.cells #[.int .i64 13, .int .i64 x] 46)) _ (by simp))) _ _ hb8
  have hI0 : ∀ y : XW ((((w.alloc (.cells #[.slice xa c.fields.length ca, .int .i64 c.glob, .slice xf c.funcs.length cf] 25)).alloc (.cells #[.string f.name, .int .i64 f.params, .int .i64 f.locals, .bool f.result, .slice xv f.code.length cv] 39)).alloc (.cells #[.int .i64 13, .int .i64 x] 46)).alloc (.cells C8 80)), y.val.cell? ⟨w.heap.size + 1 + 1, 0, none⟩ = some (.int .i64 13) := fun y => cellRow (HXI.out _ (HEQ.out.ext y.ext)) 0 _ rfl
  have hrf : Ext ((((w.alloc (.cells #[.slice xa c.fields.length ca, .int .i64 c.glob, .slice xf c.funcs.length cf] 25)).alloc (.cells #[.string f.name, .int .i64 f.params, .int .i64 f.locals, .bool f.result, .slice xv f.code.length cv] 39)).alloc (.cells #[.int .i64 13, .int .i64 x] 46)).alloc (.cells C8 80)) ((((w.alloc (.cells #[.slice xa c.fields.length ca, .int .i64 c.glob, .slice xf c.funcs.length cf] 25)).alloc (.cells #[.string f.name, .int .i64 f.params, .int .i64 f.locals, .bool f.result, .slice xv f.code.length cv] 39)).alloc (.cells #[.int .i64 13, .int .i64 x] 46)).alloc (.cells C8 80)) := Upd.refl _ _
  clear ha8 hb8
  have hst : Sem.run Tryd.prog (storeCells ⟨w.heap.size + 1 + 1 + 1, 0, none⟩ C8.toList 0) ((((w.alloc (.cells #[.slice xa c.fields.length ca, .int .i64 c.glob, .slice xf c.funcs.length cf] 25)).alloc (.cells #[.string f.name, .int .i64 f.params, .int .i64 f.locals, .bool f.result, .slice xv f.code.length cv] 39)).alloc (.cells #[.int .i64 13, .int .i64 x] 46)).alloc (.cells #[.int .i64 0, .int .i64 0, .int .i64 0, .int .i64 0, .int .i64 0, .int .i64 0, .int .i64 0, .int .i64 0, .int .i64 0, .int .i64 0, .int .i64 0, .int .i64 0, .int .i64 0, .int .i64 0, .int .i64 0, .int .i64 0, .int .i64 0, .int .i64 0, .int .i64 0, .int .i64 0, .int .i64 0, .int .i64 0, .int .i64 0, .int .i64 0, .int .i64 0, .int .i64 0, .int .i64 0, .int .i64 0, .int .i64 0, .int .i64 0, .int .i64 0, .int .i64 0, .int .i64 0, .int .i64 0, .int .i64 0, .int .i64 0, .int .i64 0, .int .i64 0, .int .i64 0, .int .i64 0, .int .i64 0, .int .i64 0, .int .i64 0, .int .i64 0, .int .i64 0, .int .i64 0, .int .i64 0, .int .i64 0, .int .i64 0, .int .i64 0, .int .i64 0, .int .i64 0, .int .i64 0, .int .i64 0, .int .i64 0, .int .i64 0, .int .i64 0, .int .i64 0, .int .i64 0, .int .i64 0, .int .i64 0, .int .i64 0, .int .i64 0, .int .i64 0] 80)) = .ok () ((((w.alloc (.cells #[.slice xa c.fields.length ca, .int .i64 c.glob, .slice xf c.funcs.length cf] 25)).alloc (.cells #[.string f.name, .int .i64 f.params, .int .i64 f.locals, .bool f.result, .slice xv f.code.length cv] 39)).alloc (.cells #[.int .i64 13, .int .i64 x] 46)).alloc (.cells C8 80)) := by
    have q := run_storeCells_new (P := Tryd.prog) (((w.alloc (.cells #[.slice xa c.fields.length ca, .int .i64 c.glob, .slice xf c.funcs.length cf] 25)).alloc (.cells #[.string f.name, .int .i64 f.params, .int .i64 f.locals, .bool f.result, .slice xv f.code.length cv] 39)).alloc (.cells #[.int .i64 13, .int .i64 x] 46)) 80 #[.int .i64 0, .int .i64 0, .int .i64 0, .int .i64 0, .int .i64 0, .int .i64 0, .int .i64 0, .int .i64 0, .int .i64 0, .int .i64 0, .int .i64 0, .int .i64 0, .int .i64 0, .int .i64 0, .int .i64 0, .int .i64 0, .int .i64 0, .int .i64 0, .int .i64 0, .int .i64 0, .int .i64 0, .int .i64 0, .int .i64 0, .int .i64 0, .int .i64 0, .int .i64 0, .int .i64 0, .int .i64 0, .int .i64 0, .int .i64 0, .int .i64 0, .int .i64 0, .int .i64 0, .int .i64 0, .int .i64 0, .int .i64 0, .int .i64 0, .int .i64 0, .int .i64 0, .int .i64 0, .int .i64 0, .int .i64 0, .int .i64 0, .int .i64 0, .int .i64 0, .int .i64 0, .int .i64 0, .int .i64 0, .int .i64 0, .int .i64 0, .int .i64 0, .int .i64 0, .int .i64 0, .int .i64 0, .int .i64 0, .int .i64 0, .int .i64 0, .int .i64 0, .int .i64 0, .int .i64 0, .int .i64 0, .int .i64 0, .int .i64 0, .int .i64 0] C8 (by rw [hs8]; kernel_rfl) (by rw [hs8]; rfl) ho8
    simp only [alloc_size] at q
    exact q
  have HC8 := Lib.hid hC8
  clear hC8 ho8
  have hm : mvP c f 13 x = (0, 0) := by unfold mvP; simp
  rw [hm]
  dsimp only
  clear h hf hxv hm
  go_enter Tryd.func34, Tryd.ntmps34
  go_wp2_with (with_reducible (refine stop_at (o := ⟨some 25, _, _, _, _, _⟩) ?_))
  refine Stop.go ?_
  refine wpList_run rfl (v := .agg C8) ?_ ?_
  · rw [HC8.out]; kernel_rfl
  go_wp2_with fail
  refine wp_region_ext _ (by assumption) (by kernel_rfl) (by kernel_rfl) ?_
  repeat (first | go_big_quiet_skip | (go_big_quiet_want; go_big_quiet_op; first | go_big_quiet_on | (apply Exists.intro; refine ⟨fun x => ?_, ?_⟩; (fail); go_big_quiet_on)))
  refine wpQuiet_nil ?_
  rintro w6 ⟨⟨_, hyw6⟩, rfl⟩
  try dsimp only
  have HE6 := Lib.hid (HEQ.out.ext hyw6)
  clear hrf hyw6
  go_wp2_with fail
  go_ret2
  exact ⟨rfl, by first | exact HE3.out.ext HE6.out | exact HE3.out.alloc _⟩

set_option maxRecDepth 100000 in
set_option maxHeartbeats 4000000 in
theorem moves_14 (a fv : Value) (c : Cd) (f : Fn) (x : Int) (w : World) (h : CdR w a fv c) (hf : FnR w f) : Calls Tryd.prog 34 #[.agg #[a, .int .i64 c.glob, fv], .agg #[.string f.name, .int .i64 f.params, .int .i64 f.locals, .bool f.result, f.v], .agg #[.int .i64 14, .int .i64 x]] w fun e w' => e = .returned (.tuple #[.int .i64 (mvP c f 14 x).1, .int .i64 (mvP c f 14 x).2]) ∧ Ext w w' := by
  obtain ⟨⟨xa, ca, rfl⟩, xf, cf, rfl⟩ := h.shapes
  obtain ⟨xv, cv, hxv⟩ := hf.shape
  rw [hxv]
  have hl1 := h.l1
  have hl2 := h.l2
  have hl3 := hf.len
  have HE3 : Hid (Ext w (((w.alloc (.cells #[.slice xa c.fields.length ca, .int .i64 c.glob, .slice xf c.funcs.length cf] 25)).alloc (.cells #[.string f.name, .int .i64 f.params, .int .i64 f.locals, .bool f.result, .slice xv f.code.length cv] 39)).alloc (.cells #[.int .i64 14, .int .i64 x] 46))) := (((Upd.refl _ w).alloc _).alloc _).alloc _
  have HXA : Hid (∀ W, Ext (((w.alloc (.cells #[.slice xa c.fields.length ca, .int .i64 c.glob, .slice xf c.funcs.length cf] 25)).alloc (.cells #[.string f.name, .int .i64 f.params, .int .i64 f.locals, .bool f.result, .slice xv f.code.length cv] 39)).alloc (.cells #[.int .i64 14, .int .i64 x] 46)) W → W.heap[w.heap.size]? = some (.cells #[.slice xa c.fields.length ca, .int .i64 c.glob, .slice xf c.funcs.length cf] 25)) := fun W hW => hW.heap (allocOld (allocOld (alloc0 w _) _) _) (fun h => h)
  have HXF : Hid (∀ W, Ext (((w.alloc (.cells #[.slice xa c.fields.length ca, .int .i64 c.glob, .slice xf c.funcs.length cf] 25)).alloc (.cells #[.string f.name, .int .i64 f.params, .int .i64 f.locals, .bool f.result, .slice xv f.code.length cv] 39)).alloc (.cells #[.int .i64 14, .int .i64 x] 46)) W → W.heap[w.heap.size + 1]? = some (.cells #[.string f.name, .int .i64 f.params, .int .i64 f.locals, .bool f.result, .slice xv f.code.length cv] 39)) := fun W hW => hW.heap (allocOld (alloc_at (w.alloc (.cells #[.slice xa c.fields.length ca, .int .i64 c.glob, .slice xf c.funcs.length cf] 25)) _ (n := w.heap.size + 1) (by simp)) _) (fun h => h)
  have HXI : Hid (∀ W, Ext (((w.alloc (.cells #[.slice xa c.fields.length ca, .int .i64 c.glob, .slice xf c.funcs.length cf] 25)).alloc (.cells #[.string f.name, .int .i64 f.params, .int .i64 f.locals, .bool f.result, .slice xv f.code.length cv] 39)).alloc (.cells #[.int .i64 14, .int .i64 x] 46)) W → W.heap[w.heap.size + 1 + 1]? = some (.cells #[.int .i64 14, .int .i64 x] 46)) := fun W hW => hW.heap (alloc_at ((w.alloc (.cells #[.slice xa c.fields.length ca, .int .i64 c.glob, .slice xf c.funcs.length cf] 25)).alloc (.cells #[.string f.name, .int .i64 f.params, .int .i64 f.locals, .bool f.result, .slice xv f.code.length cv] 39)) _ (n := w.heap.size + 1 + 1) (by simp)) (fun h => h)
  obtain ⟨C8, hC8⟩ : ∃ C8 : Array Value, C8 = #[.int .i64 0, .int .i64 0, .int .i64 0, .int .i64 1, .int .i64 0, .int .i64 1, .int .i64 1, .int .i64 0, .int .i64 0, .int .i64 1, .int .i64 1, .int .i64 0, .int .i64 1, .int .i64 1, .int .i64 2, .int .i64 0, .int .i64 0, .int .i64 1, .int .i64 0, .int .i64 0, .int .i64 0, .int .i64 0, .int .i64 0, .int .i64 0, .int .i64 1, .int .i64 0, .int .i64 0, .int .i64 0, .int .i64 1, .int .i64 1, .int .i64 0, .int .i64 0, .int .i64 0, .int .i64 0, .int .i64 0, .int .i64 0, .int .i64 0, .int .i64 0, .int .i64 0, .int .i64 0, .int .i64 0, .int .i64 0, .int .i64 0, .int .i64 0, .int .i64 0, .int .i64 0, .int .i64 0, .int .i64 0, .int .i64 0, .int .i64 0, .int .i64 0, .int .i64 0, .int .i64 1, .int .i64 1, .int .i64 0, .int .i64 0, .int .i64 0, .int .i64 0, .int .i64 1, .int .i64 1, .int .i64 1, .int .i64 0, .int .i64 1, .int .i64 2] := ⟨_, rfl⟩
  have hs8 : C8.size = 64 := by rw [hC8]; rfl
  have ho8 : C8.all (·.oneCell') = true := by rw [hC8]; kernel_rfl
  have ha8 : C8[28]? = some (.int .i64 1) := by rw [hC8]; rfl
  have hb8 : C8[29]? = some (.int .i64 1) := by rw [hC8]; rfl
  have HEQ : Hid (Ext (((w.alloc (.cells #[.slice xa c.fields.length ca, .int .i64 c.glob, .slice xf c.funcs.length cf] 25)).alloc (.cells #[.string f.name, .int .i64 f.params, .int .i64 f.locals, .bool f.result, .slice xv f.code.length cv] 39)).alloc (.cells #[.int .i64 14, .int .i64 x] 46)) ((((w.alloc (.cells #[.slice xa c.fields.length ca, .int .i64 c.glob, .slice xf c.funcs.length cf] 25)).alloc (.cells #[.string f.name, .int .i64 f.params, .int .i64 f.locals, .bool f.result, .slice xv f.code.length cv] 39)).alloc (.cells #[.int .i64 14, .int .i64 x] 46)).alloc (.cells C8 80))) := (Upd.refl _ _).alloc _
  have hA0 : ∀ y : XW ((((w.alloc (.cells #[.slice xa c.fields.length ca, .int .i64 c.glob, .slice xf c.funcs.length cf] 25)).alloc (.cells #[.string f.name, .int .i64 f.params, .int .i64 f.locals, .bool f.result, .slice xv f.code.length cv] 39)).alloc (.cells #[.int .i64 14, .int .i64 x] 46)).alloc (.cells C8 80)), y.val.cell? ⟨w.heap.size + 1 + 1 + 1, 28, none⟩ = some (.int .i64 1) := fun y => cellRow (ext_heap8 y.ext (alloc_at (((w.alloc (.cells #[.slice xa c.fields.length ca, .int .i64 c.glob, .slice xf c.funcs.length cf] 25)).alloc (.cells #[.string f.name, .int .i64 f.params, .int .i64 f.locals, .bool f.result, .slice xv f.code.length cv] 39)).alloc (.cells #[.int .i64 14, .int .i64 x] 46)) _ (by simp))) _ _ ha8
  have hA1 : ∀ y : XW ((((w.alloc (.cells #[.slice xa c.fields.length ca, .int .i64 c.glob, .slice xf c.funcs.length cf] 25)).alloc (.cells #[.string f.name, .int .i64 f.params, .int .i64 f.locals, .bool f.result, .slice xv f.code.length cv] 39)).alloc (.cells #[.int .i64 14, .int .i64 x] 46)).alloc (.cells C8 80)), y.val.cell? ⟨w.heap.size + 1 + 1 + 1, 29, none⟩ = some (.int .i64 1) := fun y => cellRow (ext_heap8 y.ext (alloc_at (((w.alloc (.cells #[.slice xa c.fields.length ca, .int .i64 c.glob, .slice xf c.funcs.length cf] 25)).alloc (.cells #[.string f.name, .int .i64 f.params, .int .i64 f.locals, .bool f.result, .slice xv f.code.length cv] 39)).alloc (.cells #[.int .i64 14, .int .i64 x] 46)) _ (by simp))) _ _ hb8
  have hI0 : ∀ y : XW ((((w.alloc (.cells #[.slice xa c.fields.length ca, .int .i64 c.glob, .slice xf c.funcs.length cf] 25)).alloc (.cells #[.string f.name, .int .i64 f.params, .int .i64 f.locals, .bool f.result, .slice xv f.code.length cv] 39)).alloc (.cells #[.int .i64 14, .int .i64 x] 46)).alloc (.cells C8 80)), y.val.cell? ⟨w.heap.size + 1 + 1, 0, none⟩ = some (.int .i64 14) := fun y => cellRow (HXI.out _ (HEQ.out.ext y.ext)) 0 _ rfl
  have hrf : Ext ((((w.alloc (.cells #[.slice xa c.fields.length ca, .int .i64 c.glob, .slice xf c.funcs.length cf] 25)).alloc (.cells #[.string f.name, .int .i64 f.params, .int .i64 f.locals, .bool f.result, .slice xv f.code.length cv] 39)).alloc (.cells #[.int .i64 14, .int .i64 x] 46)).alloc (.cells C8 80)) ((((w.alloc (.cells #[.slice xa c.fields.length ca, .int .i64 c.glob, .slice xf c.funcs.length cf] 25)).alloc (.cells #[.string f.name, .int .i64 f.params, .int .i64 f.locals, .bool f.result, .slice xv f.code.length cv] 39)).alloc (.cells #[.int .i64 14, .int .i64 x] 46)).alloc (.cells C8 80)) := Upd.refl _ _
  clear ha8 hb8
  have hst : Sem.run Tryd.prog (storeCells ⟨w.heap.size + 1 + 1 + 1, 0, none⟩ C8.toList 0) ((((w.alloc (.cells #[.slice xa c.fields.length ca, .int .i64 c.glob, .slice xf c.funcs.length cf] 25)).alloc (.cells #[.string f.name, .int .i64 f.params, .int .i64 f.locals, .bool f.result, .slice xv f.code.length cv] 39)).alloc (.cells #[.int .i64 14, .int .i64 x] 46)).alloc (.cells #[.int .i64 0, .int .i64 0, .int .i64 0, .int .i64 0, .int .i64 0, .int .i64 0, .int .i64 0, .int .i64 0, .int .i64 0, .int .i64 0, .int .i64 0, .int .i64 0, .int .i64 0, .int .i64 0, .int .i64 0, .int .i64 0, .int .i64 0, .int .i64 0, .int .i64 0, .int .i64 0, .int .i64 0, .int .i64 0, .int .i64 0, .int .i64 0, .int .i64 0, .int .i64 0, .int .i64 0, .int .i64 0, .int .i64 0, .int .i64 0, .int .i64 0, .int .i64 0, .int .i64 0, .int .i64 0, .int .i64 0, .int .i64 0, .int .i64 0, .int .i64 0, .int .i64 0, .int .i64 0, .int .i64 0, .int .i64 0, .int .i64 0, .int .i64 0, .int .i64 0, .int .i64 0, .int .i64 0, .int .i64 0, .int .i64 0, .int .i64 0, .int .i64 0, .int .i64 0, .int .i64 0, .int .i64 0, .int .i64 0, .int .i64 0, .int .i64 0, .int .i64 0, .int .i64 0, .int .i64 0, .int .i64 0, .int .i64 0, .int .i64 0, .int .i64 0] 80)) = .ok () ((((w.alloc (.cells #[.slice xa c.fields.length ca, .int .i64 c.glob, .slice xf c.funcs.length cf] 25)).alloc (.cells #[.string f.name, .int .i64 f.params, .int .i64 f.locals, .bool f.result, .slice xv f.code.length cv] 39)).alloc (.cells #[.int .i64 14, .int .i64 x] 46)).alloc (.cells C8 80)) := by
    have q := run_storeCells_new (P := Tryd.prog) (((w.alloc (.cells #[.slice xa c.fields.length ca, .int .i64 c.glob, .slice xf c.funcs.length cf] 25)).alloc (.cells #[.string f.name, .int .i64 f.params, .int .i64 f.locals, .bool f.result, .slice xv f.code.length cv] 39)).alloc (.cells #[.int .i64 14, .int .i64 x] 46)) 80 #[.int .i64 0, .int .i64 0, .int .i64 0, .int .i64 0, .int .i64 0, .int .i64 0, .int .i64 0, .int .i64 0, .int .i64 0, .int .i64 0, .int .i64 0, .int .i64 0, .int .i64 0, .int .i64 0, .int .i64 0, .int .i64 0, .int .i64 0, .int .i64 0, .int .i64 0, .int .i64 0, .int .i64 0, .int .i64 0, .int .i64 0, .int .i64 0, .int .i64 0, .int .i64 0, .int .i64 0, .int .i64 0, .int .i64 0, .int .i64 0, .int .i64 0, .int .i64 0, .int .i64 0, .int .i64 0, .int .i64 0, .int .i64 0, .int .i64 0, .int .i64 0, .int .i64 0, .int .i64 0, .int .i64 0, .int .i64 0, .int .i64 0, .int .i64 0, .int .i64 0, .int .i64 0, .int .i64 0, .int .i64 0, .int .i64 0, .int .i64 0, .int .i64 0, .int .i64 0, .int .i64 0, .int .i64 0, .int .i64 0, .int .i64 0, .int .i64 0, .int .i64 0, .int .i64 0, .int .i64 0, .int .i64 0, .int .i64 0, .int .i64 0, .int .i64 0] C8 (by rw [hs8]; kernel_rfl) (by rw [hs8]; rfl) ho8
    simp only [alloc_size] at q
    exact q
  have HC8 := Lib.hid hC8
  clear hC8 ho8
  have hm : mvP c f 14 x = (1, 1) := by unfold mvP; simp
  rw [hm]
  dsimp only
  clear h hf hxv hm
  go_enter Tryd.func34, Tryd.ntmps34
  go_wp2_with (with_reducible (refine stop_at (o := ⟨some 25, _, _, _, _, _⟩) ?_))
  refine Stop.go ?_
  refine wpList_run rfl (v := .agg C8) ?_ ?_
  · rw [HC8.out]; kernel_rfl
  go_wp2_with fail
  refine wp_region_ext _ (by assumption) (by kernel_rfl) (by kernel_rfl) ?_
  repeat (first | go_big_quiet_skip | (go_big_quiet_want; go_big_quiet_op; first | go_big_quiet_on | (apply Exists.intro; refine ⟨fun x => ?_, ?_⟩; (fail); go_big_quiet_on)))
  refine wpQuiet_nil ?_
  rintro w6 ⟨⟨_, hyw6⟩, rfl⟩
  try dsimp only
  have HE6 := Lib.hid (HEQ.out.ext hyw6)
  clear hrf hyw6
  go_wp2_with fail
  go_ret2
  exact ⟨rfl, by first | exact HE3.out.ext HE6.out | exact HE3.out.alloc _⟩

set_option maxRecDepth 100000 in
set_option maxHeartbeats 4000000 in
theorem moves_15 (a fv : Value) (c : Cd) (f : Fn) (x : Int) (w : World) (h : CdR w a fv c) (hf : FnR w f) : Calls Tryd.prog 34 #[.agg #[a, .int .i64 c.glob, fv], .agg #[.string f.name, .int .i64 f.params, .int .i64 f.locals, .bool f.result, f.v], .agg #[.int .i64 15, .int .i64 x]] w fun e w' => e = .returned (.tuple #[.int .i64 (mvP c f 15 x).1, .int .i64 (mvP c f 15 x).2]) ∧ Ext w w' := by
  obtain ⟨⟨xa, ca, rfl⟩, xf, cf, rfl⟩ := h.shapes
  obtain ⟨xv, cv, hxv⟩ := hf.shape
  rw [hxv]
  have hl1 := h.l1
  have hl2 := h.l2
  have hl3 := hf.len
  have HE3 : Hid (Ext w (((w.alloc (.cells #[.slice xa c.fields.length ca, .int .i64 c.glob, .slice xf c.funcs.length cf] 25)).alloc (.cells #[.string f.name, .int .i64 f.params, .int .i64 f.locals, .bool f.result, .slice xv f.code.length cv] 39)).alloc (.cells #[.int .i64 15, .int .i64 x] 46))) := (((Upd.refl _ w).alloc _).alloc _).alloc _
  have HXA : Hid (∀ W, Ext (((w.alloc (.cells #[.slice xa c.fields.length ca, .int .i64 c.glob, .slice xf c.funcs.length cf] 25)).alloc (.cells #[.string f.name, .int .i64 f.params, .int .i64 f.locals, .bool f.result, .slice xv f.code.length cv] 39)).alloc (.cells #[.int .i64 15, .int .i64 x] 46)) W → W.heap[w.heap.size]? = some (.cells #[.slice xa c.fields.length ca, .int .i64 c.glob, .slice xf c.funcs.length cf] 25)) := fun W hW => hW.heap (allocOld (allocOld (alloc0 w _) _) _) (fun h => h)
  have HXF : Hid (∀ W, Ext (((w.alloc (.cells #[.slice xa c.fields.length ca, .int .i64 c.glob, .slice xf c.funcs.length cf] 25)).alloc (.cells #[.string f.name, .int .i64 f.params, .int .i64 f.locals, .bool f.result, .slice xv f.code.length cv] 39)).alloc (.cells #[.int .i64 15, .int .i64 x] 46)) W → W.heap[w.heap.size + 1]? = some (.cells #[.string f.name, .int .i64 f.params, .int .i64 f.locals, .bool f.result, .slice xv f.code.length cv] 39)) := fun W hW => hW.heap (allocOld (alloc_at (w.alloc (.cells #[.slice xa c.fields.length ca, .int .i64 c.glob, .slice xf c.funcs.length cf] 25)) _ (n := w.heap.size + 1) (by simp)) _) (fun h => h)
  have HXI : Hid (∀ W, Ext (((w.alloc (.cells #[.slice xa c.fields.length ca, .int .i64 c.glob, .slice xf c.funcs.length cf] 25)).alloc (.cells #[.string f.name, .int .i64 f.params, .int .i64 f.locals, .bool f.result, .slice xv f.code.length cv] 39)).alloc (.cells #[.int .i64 15, .int .i64 x] 46)) W → W.heap[w.heap.size + 1 + 1]? = some (.cells #[.int .i64 15, .int .i64 x] 46)) := fun W hW => hW.heap (alloc_at ((w.alloc (.cells #[.slice xa c.fields.length ca, .int .i64 c.glob, .slice xf c.funcs.length cf] 25)).alloc (.cells #[.string f.name, .int .i64 f.params, .int .i64 f.locals, .bool f.result, .slice xv f.code.length cv] 39)) _ (n := w.heap.size + 1 + 1) (by simp)) (fun h => h)
  obtain ⟨C8, hC8⟩ : ∃ C8 : Array Value, C8 = #[.int .i64 0, .int .i64 0, .int .i64 0, .int .i64 1, .int .i64 0, .int .i64 1, .int .i64 1, .int .i64 0, .int .i64 0, .int .i64 1, .int .i64 1, .int .i64 0, .int .i64 1, .int .i64 1, .int .i64 2, .int .i64 0, .int .i64 0, .int .i64 1, .int .i64 0, .int .i64 0, .int .i64 0, .int .i64 0, .int .i64 0, .int .i64 0, .int .i64 1, .int .i64 0, .int .i64 0, .int .i64 0, .int .i64 1, .int .i64 1, .int .i64 0, .int .i64 0, .int .i64 0, .int .i64 0, .int .i64 0, .int .i64 0, .int .i64 0, .int .i64 0, .int .i64 0, .int .i64 0, .int .i64 0, .int .i64 0, .int .i64 0, .int .i64 0, .int .i64 0, .int .i64 0, .int .i64 0, .int .i64 0, .int .i64 0, .int .i64 0, .int .i64 0, .int .i64 0, .int .i64 1, .int .i64 1, .int .i64 0, .int .i64 0, .int .i64 0, .int .i64 0, .int .i64 1, .int .i64 1, .int .i64 1, .int .i64 0, .int .i64 1, .int .i64 2] := ⟨_, rfl⟩
  have hs8 : C8.size = 64 := by rw [hC8]; rfl
  have ho8 : C8.all (·.oneCell') = true := by rw [hC8]; kernel_rfl
  have hst : Sem.run Tryd.prog (storeCells ⟨w.heap.size + 1 + 1 + 1, 0, none⟩ C8.toList 0) ((((w.alloc (.cells #[.slice xa c.fields.length ca, .int .i64 c.glob, .slice xf c.funcs.length cf] 25)).alloc (.cells #[.string f.name, .int .i64 f.params, .int .i64 f.locals, .bool f.result, .slice xv f.code.length cv] 39)).alloc (.cells #[.int .i64 15, .int .i64 x] 46)).alloc (.cells #[.int .i64 0, .int .i64 0, .int .i64 0, .int .i64 0, .int .i64 0, .int .i64 0, .int .i64 0, .int .i64 0, .int .i64 0, .int .i64 0, .int .i64 0, .int .i64 0, .int .i64 0, .int .i64 0, .int .i64 0, .int .i64 0, .int .i64 0, .int .i64 0, .int .i64 0, .int .i64 0, .int .i64 0, .int .i64 0, .int .i64 0, .int .i64 0, .int .i64 0, .int .i64 0, .int .i64 0, .int .i64 0, .int .i64 0, .int .i64 0, .int .i64 0, .int .i64 0, .int .i64 0, .int .i64 0, .int .i64 0, .int .i64 0, .int .i64 0, .int .i64 0, .int .i64 0, .int .i64 0, .int .i64 0, .int .i64 0, .int .i64 0, .int .i64 0, .int .i64 0, .int .i64 0, .int .i64 0, .int .i64 0, .int .i64 0, .int .i64 0, .int .i64 0, .int .i64 0, .int .i64 0, .int .i64 0, .int .i64 0, .int .i64 0, .int .i64 0, .int .i64 0, .int .i64 0, .int .i64 0, .int .i64 0, .int .i64 0, .int .i64 0, .int .i64 0] 80)) = .ok () ((((w.alloc (.cells #[.slice xa c.fields.length ca, .int .i64 c.glob, .slice xf c.funcs.length cf] 25)).alloc (.cells #[.string f.name, .int .i64 f.params, .int .i64 f.locals, .bool f.result, .slice xv f.code.length cv] 39)).alloc (.cells #[.int .i64 15, .int .i64 x] 46)).alloc (.cells C8 80)) := by
    have q := run_storeCells_new (P := Tryd.prog) (((w.alloc (.cells #[.slice xa c.fields.length ca, .int .i64 c.glob, .slice xf c.funcs.length cf] 25)).alloc (.cells #[.string f.name, .int .i64 f.params, .int .i64 f.locals, .bool f.result, .slice xv f.code.length cv] 39)).alloc (.cells #[.int .i64 15, .int .i64 x] 46)) 80 #[.int .i64 0, .int .i64 0, .int .i64 0, .int .i64 0, .int .i64 0, .int .i64 0, .int .i64 0, .int .i64 0, .int .i64 0, .int .i64 0, .int .i64 0, .int .i64 0, .int .i64 0, .int .i64 0, .int .i64 0, .int .i64 0, .int .i64 0, .int .i64 0, .int .i64 0, .int .i64 0, .int .i64 0, .int .i64 0, .int .i64 0, .int .i64 0, .int .i64 0, .int .i64 0, .int .i64 0, .int .i64 0, .int .i64 0, .int .i64 0, .int .i64 0, .int .i64 0, .int .i64 0, .int .i64 0, .int .i64 0, .int .i64 0, .int .i64 0, .int .i64 0, .int .i64 0, .int .i64 0, .int .i64 0, .int .i64 0, .int .i64 0, .int .i64 0, .int .i64 0, .int .i64 0, .int .i64 0, .int .i64 0, .int .i64 0, .int .i64 0, .int .i64 0, .int .i64 0, .int .i64 0, .int .i64 0, .int .i64 0, .int .i64 0, .int .i64 0, .int .i64 0, .int .i64 0, .int .i64 0, .int .i64 0, .int .i64 0, .int .i64 0, .int .i64 0] C8 (by rw [hs8]; kernel_rfl) (by rw [hs8]; rfl) ho8
    simp only [alloc_size] at q
    exact q
  have HC8 := Lib.hid hC8
  clear hC8 ho8
  have hm : mvP c f 15 x = (2, 1) := by unfold mvP; simp
  rw [hm]
  dsimp only
  clear h hf hxv hm
  go_enter Tryd.func34, Tryd.ntmps34
  go_wp2_with (with_reducible (refine stop_at (o := ⟨some 25, _, _, _, _, _⟩) ?_))
  refine Stop.go ?_
  refine wpList_run rfl (v := .agg C8) ?_ ?_
  · rw [HC8.out]; kernel_rfl
  go_wp2_with fail
  go_ret2
  exact ⟨rfl, by first | exact HE3.out.ext HE6.out | exact HE3.out.alloc _⟩

set_option maxRecDepth 100000 in
set_option maxHeartbeats 4000000 in
theorem moves_16 (a fv : Value) (c : Cd) (f : Fn) (x : Int) (w : World) (h : CdR w a fv c) (hf : FnR w f) : Calls Tryd.prog 34 #[.agg #[a, .int .i64 c.glob, fv], .agg #[.string f.name, .int .i64 f.params, .int .i64 f.locals, .bool f.result, f.v], .agg #[.int .i64 16, .int .i64 x]] w fun e w' => e = .returned (.tuple #[.int .i64 (mvP c f 16 x).1, .int .i64 (mvP c f 16 x).2]) ∧ Ext w w' := by
  obtain ⟨⟨xa, ca, rfl⟩, xf, cf, rfl⟩ := h.shapes
  obtain ⟨xv, cv, hxv⟩ := hf.shape
  rw [hxv]
  have hl1 := h.l1
  have hl2 := h.l2
  have hl3 := hf.len
  have HE3 : Hid (Ext w (((w.alloc (.cells #[.slice xa c.fields.length ca, .int .i64 c.glob, .slice xf c.funcs.length cf] 25)).alloc (.cells #[.string f.name, .int .i64 f.params, .int .i64 f.locals, .bool f.result, .slice xv f.code.length cv] 39)).alloc (.cells #[.int .i64 16, .int .i64 x] 46))) := (((Upd.refl _ w).alloc _).alloc _).alloc _
  have HXA : Hid (∀ W, Ext (((w.alloc (.cells #[.slice xa c.fields.length ca, .int .i64 c.glob, .slice xf c.funcs.length cf] 25)).alloc (.cells #[.string f.name, .int .i64 f.params, .int .i64 f.locals, .bool f.result, .slice xv f.code.length cv] 39)).alloc (.cells #[.int .i64 16, .int .i64 x] 46)) W → W.heap[w.heap.size]? = some (.cells #[.slice xa c.fields.length ca, .int .i64 c.glob, .slice xf c.funcs.length cf] 25)) := fun W hW => hW.heap (allocOld (allocOld (alloc0 w _) _) _) (fun h => h)
  have HXF : Hid (∀ W, Ext (((w.alloc (.cells #[.slice xa c.fields.length ca, .int .i64 c.glob, .slice xf c.funcs.length cf] 25)).alloc (.cells #[.string f.name, .int .i64 f.params, .int .i64 f.locals, .bool f.result, .slice xv f.code.length cv] 39)).alloc (.cells #[.int .i64 16, .int .i64 x] 46)) W → W.heap[w.heap.size + 1]? = some (.cells #[.string f.name, .int .i64 f.params, .int .i64 f.locals, .bool f.result, .slice xv f.code.length cv] 39)) := fun W hW => hW.heap (allocOld (alloc_at (w.alloc (.cells #[.slice xa c.fields.length ca, .int .i64 c.glob, .slice xf c.funcs.length cf] 25)) _ (n := w.heap.size + 1) (by simp)) _) (fun h => h)
  have HXI : Hid (∀ W, Ext (((w.alloc (.cells #[.slice xa c.fields.length ca, .int .i64 c.glob, .slice xf c.funcs.length cf] 25)).alloc (.cells #[.string f.name, .int .i64 f.params, .int .i64 f.locals, .bool f.result, .slice xv f.code.length cv] 39)).alloc (.cells #[.int .i64 16, .int .i64 x] 46)) W → W.heap[w.heap.size + 1 + 1]? = some (.cells #[.int .i64 16, .int .i64 x] 46)) := fun W hW => hW.heap (alloc_at ((w.alloc (.cells #[.slice xa c.fields.length ca, .int .i64 c.glob, .slice xf c.funcs.length cf] 25)).alloc (.cells #[.string f.name, .int .i64 f.params, .int .i64 f.locals, .bool f.result, .slice xv f.code.length cv] 39)) _ (n := w.heap.size + 1 + 1) (by simp)) (fun h => h)
  obtain ⟨C8, hC8⟩ : ∃ C8 : Array Value, C8 = #[.int .i64 0, .int .i64 0, .int .i64 0, .int .i64 1, .int .i64 0, .int .i64 1, .int .i64 1, .int .i64 0, .int .i64 0, .int .i64 1, .int .i64 1, .int .i64 0, .int .i64 1, .int .i64 1, .int .i64 2, .int .i64 0, .int .i64 0, .int .i64 1, .int .i64 0, .int .i64 0, .int .i64 0, .int .i64 0, .int .i64 0, .int .i64 0, .int .i64 1, .int .i64 0, .int .i64 0, .int .i64 0, .int .i64 1, .int .i64 1, .int .i64 0, .int .i64 0, .int .i64 0, .int .i64 0, .int .i64 0, .int .i64 0, .int .i64 0, .int .i64 0, .int .i64 0, .int .i64 0, .int .i64 0, .int .i64 0, .int .i64 0, .int .i64 0, .int .i64 0, .int .i64 0, .int .i64 0, .int .i64 0, .int .i64 0, .int .i64 0, .int .i64 0, .int .i64 0, .int .i64 1, .int .i64 1, .int .i64 0, .int .i64 0, .int .i64 0, .int .i64 0, .int .i64 1, .int .i64 1, .int .i64 1, .int .i64 0, .int .i64 1, .int .i64 2] := ⟨_, rfl⟩
  have hs8 : C8.size = 64 := by rw [hC8]; rfl
  have ho8 : C8.all (·.oneCell') = true := by rw [hC8]; kernel_rfl
  have hst : Sem.run Tryd.prog (storeCells ⟨w.heap.size + 1 + 1 + 1, 0, none⟩ C8.toList 0) ((((w.alloc (.cells #[.slice xa c.fields.length ca, .int .i64 c.glob, .slice xf c.funcs.length cf] 25)).alloc (.cells #[.string f.name, .int .i64 f.params, .int .i64 f.locals, .bool f.result, .slice xv f.code.length cv] 39)).alloc (.cells #[.int .i64 16, .int .i64 x] 46)).alloc (.cells #[.int .i64 0, .int .i64 0, .int .i64 0, .int .i64 0, .int .i64 0, .int .i64 0, .int .i64 0, .int .i64 0, .int .i64 0, .int .i64 0, .int .i64 0, .int .i64 0, .int .i64 0, .int .i64 0, .int .i64 0, .int .i64 0, .int .i64 0, .int .i64 0, .int .i64 0, .int .i64 0, .int .i64 0, .int .i64 0, .int .i64 0, .int .i64 0, .int .i64 0, .int .i64 0, .int .i64 0, .int .i64 0, .int .i64 0, .int .i64 0, .int .i64 0, .int .i64 0, .int .i64 0, .int .i64 0, .int .i64 0, .int .i64 0, .int .i64 0, .int .i64 0, .int .i64 0, .int .i64 0, .int .i64 0, .int .i64 0, .int .i64 0, .int .i64 0, .int .i64 0, .int .i64 0, .int .i64 0, .int .i64 0, .int .i64 0, .int .i64 0, .int .i64 0, .int .i64 0, .int .i64 0, .int .i64 0, .int .i64 0, .int .i64 0, .int .i64 0, .int .i64 0, .int .i64 0, .int .i64 0, .int .i64 0, .int .i64 0, .int .i64 0, .int .i64 0] 80)) = .ok () ((((w.alloc (.cells #[.slice xa c.fields.length ca, .int .i64 c.glob, .slice xf c.funcs.length cf] 25)).alloc (.cells #[.string f.name, .int .i64 f.params, .int .i64 f.locals, .bool f.result, .slice xv f.code.length cv] 39)).alloc (.cells #[.int .i64 16, .int .i64 x] 46)).alloc (.cells C8 80)) := by
    have q := run_storeCells_new (P := Tryd.prog) (((w.alloc (.cells #[.slice xa c.fields.length ca, .int .i64 c.glob, .slice xf c.funcs.length cf] 25)).alloc (.cells #[.string f.name, .int .i64 f.params, .int .i64 f.locals, .bool f.result, .slice xv f.code.length cv] 39)).alloc (.cells #[.int .i64 16, .int .i64 x] 46)) 80 #[.int .i64 0, .int .i64 0, .int .i64 0, .int .i64 0, .int .i64 0, .int .i64 0, .int .i64 0, .int .i64 0, .int .i64 0, .int .i64 0, .int .i64 0, .int .i64 0, .int .i64 0, .int .i64 0, .int .i64 0, .int .i64 0, .int .i64 0, .int .i64 0, .int .i64 0, .int .i64 0, .int .i64 0, .int .i64 0, .int .i64 0, .int .i64 0, .int .i64 0, .int .i64 0, .int .i64 0, .int .i64 0, .int .i64 0, .int .i64 0, .int .i64 0, .int .i64 0, .int .i64 0, .int .i64 0, .int .i64 0, .int .i64 0, .int .i64 0, .int .i64 0, .int .i64 0, .int .i64 0, .int .i64 0, .int .i64 0, .int .i64 0, .int .i64 0, .int .i64 0, .int .i64 0, .int .i64 0, .int .i64 0, .int .i64 0, .int .i64 0, .int .i64 0, .int .i64 0, .int .i64 0, .int .i64 0, .int .i64 0, .int .i64 0, .int .i64 0, .int .i64 0, .int .i64 0, .int .i64 0, .int .i64 0, .int .i64 0, .int .i64 0, .int .i64 0] C8 (by rw [hs8]; kernel_rfl) (by rw [hs8]; rfl) ho8
    simp only [alloc_size] at q
    exact q
  have HC8 := Lib.hid hC8
  clear hC8 ho8
  have hm : mvP c f 16 x = (2, 1) := by unfold mvP; simp
  rw [hm]
  dsimp only
  clear h hf hxv hm
  go_enter Tryd.func34, Tryd.ntmps34
  go_wp2_with (with_reducible (refine stop_at (o := ⟨some 25, _, _, _, _, _⟩) ?_))
  refine Stop.go ?_
  refine wpList_run rfl (v := .agg C8) ?_ ?_
  · rw [HC8.out]; kernel_rfl
  go_wp2_with fail
  go_ret2
  exact ⟨rfl, by first | exact HE3.out.ext HE6.out | exact HE3.out.alloc _⟩


end Go.Proofs.YtlbnilhbfiidmaaDoor
