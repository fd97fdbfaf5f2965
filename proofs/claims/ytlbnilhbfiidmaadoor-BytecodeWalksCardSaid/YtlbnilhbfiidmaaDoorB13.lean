/- moves. -/
import Derived.Test.YtlbnilhbfiidmaaDoorB11
namespace Go.Proofs.YtlbnilhbfiidmaaDoor
open Go.RowKit Go.Hw
set_option linter.unusedVariables false
set_option linter.unusedSimpArgs false
set_option maxRecDepth 100000 in
set_option maxHeartbeats 4000000 in
theorem moves_17 (a fv : Value) (c : Cd) (f : Fn) (x : Int) (w : World) (h : CdR w a fv c) (hf : FnR w f) : Calls Tryd.prog 34 #[.agg #[a, .int .i64 c.glob, fv], .agg #[.string f.name, .int .i64 f.params, .int .i64 f.locals, .bool f.result, f.v], .agg #[.int .i64 17, .int .i64 x]] w fun e w' => e = .returned (.tuple #[.int .i64 (mvP c f 17 x).1, .int .i64 (mvP c f 17 x).2]) ∧ Ext w w' := by
  obtain ⟨⟨xa, ca, rfl⟩, xf, cf, rfl⟩ := h.shapes
  obtain ⟨xv, cv, hxv⟩ := hf.shape
  rw [hxv]
  have hl1 := h.l1
  have hl2 := h.l2
  have hl3 := hf.len
  have HE3 : Hid (Ext w (((w.alloc (.cells #[.slice xa c.fields.length ca, .int .i64 c.glob, .slice xf c.funcs.length cf] 25)).alloc (.cells #[.string f.name, .int .i64 f.params, .int .i64 f.locals, .bool f.result, .slice xv f.code.length cv] 39)).alloc (.cells #[.int .i64 17, .int .i64 x] 46))) := (((Upd.refl _ w).alloc _).alloc _).alloc _
  have HXA : Hid (∀ W, Ext (((w.alloc (.cells #[.slice xa c.fields.length ca, .int .i64 c.glob, .slice xf c.funcs.length cf] 25)).alloc (.cells #[.string f.name, .int .i64 f.params, .int .i64 f.locals, .bool f.result, .slice xv f.code.length cv] 39)).alloc (.cells #[.int .i64 17, .int .i64 x] 46)) W → W.heap[w.heap.size]? = some (.cells #[.slice xa c.fields.length ca, .int .i64 c.glob, .slice xf c.funcs.length cf] 25)) := fun W hW => hW.heap (allocOld (allocOld (alloc0 w _) _) _) (fun h => h)
  have HXF : Hid (∀ W, Ext (((w.alloc (.cells #[.slice xa c.fields.length ca, .int .i64 c.glob, .slice xf c.funcs.length cf] 25)).alloc (.cells #[.string f.name, .int .i64 f.params, .int .i64 f.locals, .bool f.result, .slice xv f.code.length cv] 39)).alloc (.cells #[.int .i64 17, .int .i64 x] 46)) W → W.heap[w.heap.size + 1]? = some (.cells #[.string f.name, .int .i64 f.params, .int .i64 f.locals, .bool f.result, .slice xv f.code.length cv] 39)) := fun W hW => hW.heap (allocOld (alloc_at (w.alloc (.cells #[.slice xa c.fields.length ca, .int .i64 c.glob, .slice xf c.funcs.length cf] 25)) _ (n := w.heap.size + 1) (by simp)) _) (fun h => h)
  have HXI : Hid (∀ W, Ext (((w.alloc (.cells #[.slice xa c.fields.length ca, .int .i64 c.glob, .slice xf c.funcs.length cf] 25)).alloc (.cells #[.string f.name, .int .i64 f.params, .int .i64 f.locals, .bool f.result, .slice xv f.code.length cv] 39)).alloc (.cells #[.int .i64 17, .int .i64 x] 46)) W → W.heap[w.heap.size + 1 + 1]? = some (.cells #[.int .i64 17, .int .i64 x] 46)) := fun W hW => hW.heap (alloc_at ((w.alloc (.cells #[.slice xa c.fields.length ca, .int .i64 c.glob, .slice xf c.funcs.length cf] 25)).alloc (.cells #[.string f.name, .int .i64 f.params, .int .i64 f.locals, .bool f.result, .slice xv f.code.length cv] 39)) _ (n := w.heap.size + 1 + 1) (by simp)) (fun h => h)
  obtain ⟨C8, hC8⟩ : ∃ C8 : Array Value, C8 = #[.int .i64 0, .int .i64 0, .int .i64 0, .int .i64 1, .int .i64 0, .int .i64 1, .int .i64 1, .int .i64 0, .int .i64 0, .int .i64 1, .int .i64 1, .int .i64 0, .int .i64 1, .int .i64 1, .int .i64 2, .int .i64 0, .int .i64 0, .int .i64 1, .int .i64 0, .int .i64 0, .int .i64 0, .int .i64 0, .int .i64 0, .int .i64 0, .int .i64 1, .int .i64 0, .int .i64 0, .int .i64 0, .int .i64 1, .int .i64 1, .int .i64 0, .int .i64 0, .int .i64 0, .int .i64 0, .int .i64 0, .int .i64 0, .int .i64 0, .int .i64 0, .int .i64 0, .int .i64 0, .int .i64 0, .int .i64 0, .int .i64 0, .int .i64 0, .int .i64 0, .int .i64 0, .int .i64 0, .int .i64 0, .int .i64 0, .int .i64 0, .int .i64 0, .int .i64 0, .int .i64 1, .int .i64 1, .int .i64 0, .int .i64 0, .int .i64 0, .int .i64 0, .int .i64 1, .int .i64 1, .int .i64 1, .int .i64 0, .int .i64 1, .int .i64 2] := ⟨_, rfl⟩
  have hs8 : C8.size = 64 := by rw [hC8]; rfl
  have ho8 : C8.all (·.oneCell') = true := by rw [hC8]; kernel_rfl
  have hst : Sem.run Tryd.prog (storeCells ⟨w.heap.size + 1 + 1 + 1, 0, none⟩ C8.toList 0) ((((w.alloc (.cells #[.slice xa c.fields.length ca, .int .i64 c.glob, .slice xf c.funcs.length cf] 25)).alloc (.cells #[.string f.name, .int .i64 f.params, .int .i64 f.locals, .bool f.result, .slice xv f.code.length cv] 39)).alloc (.cells #[.int .i64 17, .int .i64 x] 46)).alloc (.cells #[.int .i64 0, .int .i64 0, .int .i64 0, .int .i64 0, .int .i64 0, .int .i64 0, .int .i64 0, .int .i64 0, .int .i64 0, .int .i64 0, .int .i64 0, .int .i64 0, .int .i64 0, .int .i64 0, .int .i64 0, .int .i64 0, .int .i64 0, .int .i64 0, .int .i64 0, .int .i64 0, .int .i64 0, .int .i64 0, .int .i64 0, .int .i64 0, .int .i64 0, .int .i64 0, .int .i64 0, .int .i64 0, .int .i64 0, .int .i64 0, .int .i64 0, .int .i64 0, .int .i64 0, .int .i64 0, .int .i64 0, .int .i64 0, .int .i64 0, .int .i64 0, .int .i64 0, .int .i64 0, .int .i64 0, .int .i64 0, .int .i64 0, .int .i64 0, .int .i64 0, .int .i64 0, .int .i64 0, .int .i64 0, .int .i64 0, .int .i64 0, .int .i64 0, .int .i64 0, .int .i64 0, .int .i64 0, .int .i64 0, .int .i64 0, .int .i64 0, .int .i64 0, .int .i64 0, .int .i64 0, .int .i64 0, .int .i64 0, .int .i64 0, .int .i64 0] 80)) = .ok () ((((w.alloc (.cells #[.slice xa c.fields.length ca, .int .i64 c.glob, .slice xf c.funcs.length cf] 25)).alloc (.cells #[.string f.name, .int .i64 f.params, .int .i64 f.locals, .bool f.result, .slice xv f.code.length cv] 39)).alloc (.cells #[.int .i64 17, .int .i64 x] 46)).alloc (.cells C8 80)) := by
    have q := run_storeCells_new (P := Tryd.prog) (((w.alloc (.cells #[.slice xa c.fields.length ca, .int .i64 c.glob, .slice xf c.funcs.length cf] 25)).alloc (.cells #[.string f.name, .int .i64 f.params, .int .i64 f.locals, .bool f.result, .slice xv f.code.length cv] 39)).alloc (.cells #[.int .i64 17, .int .i64 x] 46)) 80 #[.int .i64 0, .int .i64 0, .int .i64 0, .int .i64 0, .int .i64 0, .int .i64 0, .int .i64 0, .int .i64 0, .int .i64 0, .int .i64 0, .int .i64 0, .int .i64 0, .int .i64 0, .int .i64 0, .int .i64 0, .int .i64 0, .int .i64 0, .int .i64 0, .int .i64 0, .int .i64 0, .int .i64 0, .int .i64 0, .int .i64 0, .int .i64 0, .int .i64 0, .int .i64 0, .int .i64 0, .int .i64 0, .int .i64 0, .int .i64 0, .int .i64 0, .int .i64 0, .int .i64 0, .int .i64 0, .int .i64 0, .int .i64 0, .int .i64 0, .int .i64 0, .int .i64 0, .int .i64 0, .int .i64 0, .int .i64 0, .int .i64 0, .int .i64 0, .int .i64 0, .int .i64 0, .int .i64 0, .int .i64 0, .int .i64 0, .int .i64 0, .int .i64 0, .int .i64 0, .int .i64 0, .int .i64 0, .int .i64 0, .int .i64 0, .int .i64 0, .int .i64 0, .int .i64 0, .int .i64 0, .int .i64 0, .int .i64 0, .int .i64 0, .int .i64 0] C8 (by rw [hs8]; kernel_rfl) (by rw [hs8]; rfl) ho8
    simp only [alloc_size] at q
    exact q
  have HC8 := Lib.hid hC8
  clear hC8 ho8
  have hm : mvP c f 17 x = (2, 1) := by unfold mvP; simp
  rw [hm]
  dsimp only
  clear h hf hxv hm
  go_enter Tryd.func34, Tryd.ntmps34
  go_wp2_with (with_reducible (refine stop_at (o := ⟨some 25, _, _, _, _, _⟩) ?_))
  refine Stop.go ?_
  refine wpList_run rfl (v := .agg C8) ?_ ?_
  · rw [HC8.out]; kernel_rfl
  go_wp2_with fail
  go_ret2
  exact ⟨rfl, by first | exact HE3.out.ext HE6.out | exact HE3.out.alloc _⟩

set_option maxRecDepth 100000 in
set_option maxHeartbeats 4000000 in
theorem moves_18 (a fv : Value) (c : Cd) (f : Fn) (x : Int) (w : World) (h : CdR w a fv c) (hf : FnR w f) : Calls Tryd.prog 34 #[.agg #[a, .int .i64 c.glob, fv], .agg #[.string f.name, .int .i64 f.params, .int .i64 f.locals, .bool f.result, f.v], .agg #[.int .i64 18, .int .i64 x]] w fun e w' => e = .returned (.tuple #[.int .i64 (mvP c f 18 x).1, .int .i64 (mvP c f 18 x).2]) ∧ Ext w w' := by
  obtain ⟨⟨xa, ca, rfl⟩, xf, cf, rfl⟩ := h.shapes
  obtain ⟨xv, cv, hxv⟩ := hf.shape
  rw [hxv]
  have hl1 := h.l1
  have hl2 := h.l2
  have hl3 := hf.len
  have HE3 : Hid (Ext w (((w.alloc (.cells #[.slice xa c.fields.length ca, .int .i64 c.glob, .slice xf c.funcs.length cf] 25)).alloc (.cells #[.string f.name, .int .i64 f.params, .int .i64 f.locals, .bool f.result, .slice xv f.code.length cv] 39)).alloc (.cells #[.int .i64 18, .int .i64 x] 46))) := (((Upd.refl _ w).alloc _).alloc _).alloc _
  have HXA : Hid (∀ W, Ext (((w.alloc (.cells #[.slice xa c.fields.length ca, .int .i64 c.glob, .slice xf c.funcs.length cf] 25)).alloc (.cells #[.string f.name, .int .i64 f.params, .int .i64 f.locals, .bool f.result, .slice xv f.code.length cv] 39)).alloc (.cells #[.int .i64 18, .int .i64 x] 46)) W → W.heap[w.heap.size]? = some (.cells #[.slice xa c.fields.length ca, .int .i64 c.glob, .slice xf c.funcs.length cf] 25)) := fun W hW => hW.heap (allocOld (allocOld (alloc0 w _) _) _) (fun h => h)
  have HXF : Hid (∀ W, Ext (((w.alloc (.cells #[.slice xa c.fields.length ca, .int .i64 c.glob, .slice xf c.funcs.length cf] 25)).alloc (.cells #[.string f.name, .int .i64 f.params, .int .i64 f.locals, .bool f.result, .slice xv f.code.length cv] 39)).alloc (.cells #[.int .i64 18, .int .i64 x] 46)) W → W.heap[w.heap.size + 1]? = some (.cells #[.string f.name, .int .i64 f.params, .int .i64 f.locals, .bool f.result, .slice xv f.code.length cv] 39)) := fun W hW => hW.heap (allocOld (alloc_at (w.alloc (.cells #[.slice xa c.fields.length ca, .int .i64 c.glob, .slice xf c.funcs.length cf] 25)) _ (n := w.heap.size + 1) (by simp)) _) (fun h => h)
  have HXI : Hid (∀ W, Ext (((w.alloc (.cells #[.slice xa c.fields.length ca, .int .i64 c.glob, .slice xf c.funcs.length cf] 25)).alloc (.cells #[.string f.name, .int .i64 f.params, .int .i64 f.locals, .bool f.result, .slice xv f.code.length cv] 39)).alloc (.cells #[.int .i64 18, .int .i64 x] 46)) W → W.heap[w.heap.size + 1 + 1]? = some (.cells #[.int .i64 18, .int .i64 x] 46)) := fun W hW => hW.heap (alloc_at ((w.alloc (.cells #[.slice xa c.fields.length ca, .int .i64 c.glob, .slice xf c.funcs.length cf] 25)).alloc (.cells #[.string f.name, .int .i64 f.params, .int .i64 f.locals, .bool f.result, .slice xv f.code.length cv] 39)) _ (n := w.heap.size + 1 + 1) (by simp)) (fun h => h)
  obtain ⟨C8, hC8⟩ : ∃ C8 : Array Value, C8 = #[.int .i64 0, .int .i64 0, .int .i64 0, .int .i64 1, .int .i64 0, .int .i64 1, .int .i64 1, .int .i64 0, .int .i64 0, .int .i64 1, .int .i64 1, .int .i64 0, .int .i64 1, .int .i64 1, .int .i64 2, .int .i64 0, .int .i64 0, .int .i64 1, .int .i64 0, .int .i64 0, .int .i64 0, .int .i64 0, .int .i64 0, .int .i64 0, .int .i64 1, .int .i64 0, .int .i64 0, .int .i64 0, .int .i64 1, .int .i64 1, .int .i64 0, .int .i64 0, .int .i64 0, .int .i64 0, .int .i64 0, .int .i64 0, .int .i64 0, .int .i64 0, .int .i64 0, .int .i64 0, .int .i64 0, .int .i64 0, .int .i64 0, .int .i64 0, .int .i64 0, .int .i64 0, .int .i64 0, .int .i64 0, .int .i64 0, .int .i64 0, .int .i64 0, .int .i64 0, .int .i64 1, .int .i64 1, .int .i64 0, .int .i64 0, .int .i64 0, .int .i64 0, .int .i64 1, .int .i64 1, .int .i64 1, .int .i64 0, .int .i64 1, .int .i64 2] := ⟨_, rfl⟩
  have hs8 : C8.size = 64 := by rw [hC8]; rfl
  have ho8 : C8.all (·.oneCell') = true := by rw [hC8]; kernel_rfl
  have hst : Sem.run Tryd.prog (storeCells ⟨w.heap.size + 1 + 1 + 1, 0, none⟩ C8.toList 0) ((((w.alloc (.cells #[.slice xa c.fields.length ca, .int .i64 c.glob, .slice xf c.funcs.length cf] 25)).alloc (.cells #[.string f.name, .int .i64 f.params, .int .i64 f.locals, .bool f.result, .slice xv f.code.length cv] 39)).alloc (.cells #[.int .i64 18, .int .i64 x] 46)).alloc (.cells #[.int .i64 0, .int .i64 0, .int .i64 0, .int .i64 0, .int .i64 0, .int .i64 0, .int .i64 0, .int .i64 0, .int .i64 0, .int .i64 0, .int .i64 0, .int .i64 0, .int .i64 0, .int .i64 0, .int .i64 0, .int .i64 0, .int .i64 0, .int .i64 0, .int .i64 0, .int .i64 0, .int .i64 0, .int .i64 0, .int .i64 0, .int .i64 0, .int .i64 0, .int .i64 0, .int .i64 0, .int .i64 0, .int .i64 0, .int .i64 0, .int .i64 0, .int .i64 0, .int .i64 0, .int .i64 0, .int .i64 0, .int .i64 0, .int .i64 0, .int .i64 0, .int .i64 0, .int .i64 0, .int .i64 0, .int .i64 0, .int .i64 0, .int .i64 0, .int .i64 0, .int .i64 0, .int .i64 0, .int .i64 0, .int .i64 0, .int .i64 0, .int .i64 0, .int .i64 0, .int .i64 0, .int .i64 0, .int .i64 0, .int .i64 0, .int .i64 0, .int .i64 0, .int .i64 0, .int .i64 0, .int .i64 0, .int .i64 0, .int .i64 0, .int .i64 0] 80)) = .ok () ((((w.alloc (.cells #[.slice xa c.fields.length ca, .int .i64 c.glob, .slice xf c.funcs.length cf] 25)).alloc (.cells #[.string f.name, .int .i64 f.params, .int .i64 f.locals, .bool f.result, .slice xv f.code.length cv] 39)).alloc (.cells #[.int .i64 18, .int .i64 x] 46)).alloc (.cells C8 80)) := by
    have q := run_storeCells_new (P := Tryd.prog) (((w.alloc (.cells #[.slice xa c.fields.length ca, .int .i64 c.glob, .slice xf c.funcs.length cf] 25)).alloc (.cells #[.string f.name, .int .i64 f.params, .int .i64 f.locals, .bool f.result, .slice xv f.code.length cv] 39)).alloc (.cells #[.int .i64 18, .int .i64 x] 46)) 80 #[.int .i64 0, .int .i64 0, .int .i64 0, .int .i64 0, .int .i64 0, .int .i64 0, .int .i64 0, .int .i64 0, .int .i64 0, .int .i64 0, .int .i64 0, .int .i64 0, .int .i64 0, .int .i64 0, .int .i64 0, .int .i64 0, .int .i64 0, .int .i64 0, .int .i64 0, .int .i64 0, .int .i64 0, .int .i64 0, .int .i64 0, .int .i64 0, .int .i64 0, .int .i64 0, .int .i64 0, .int .i64 0, .int .i64 0, .int .i64 0, .int .i64 0, .int .i64 0, .int .i64 0, .int .i64 0, .int .i64 0, .int .i64 0, .int .i64 0, .int .i64 0, .int .i64 0, .int .i64 0, .int .i64 0, .int .i64 0, .int .i64 0, .int .i64 0, .int .i64 0, .int .i64 0, .int .i64 0, .int .i64 0, .int .i64 0, .int .i64 0, .int .i64 0, .int .i64 0, .int .i64 0, .int .i64 0, .int .i64 0, .int .i64 0, .int .i64 0, .int .i64 0, .int .i64 0, .int .i64 0, .int .i64 0, .int .i64 0, .int .i64 0, .int .i64 0] C8 (by rw [hs8]; kernel_rfl) (by rw [hs8]; rfl) ho8
    simp only [alloc_size] at q
    exact q
  have HC8 := Lib.hid hC8
  clear hC8 ho8
  have hm : mvP c f 18 x = (2, 1) := by unfold mvP; simp
  rw [hm]
  dsimp only
  clear h hf hxv hm
  go_enter Tryd.func34, Tryd.ntmps34
  go_wp2_with (with_reducible (refine stop_at (o := ⟨some 25, _, _, _, _, _⟩) ?_))
  refine Stop.go ?_
  refine wpList_run rfl (v := .agg C8) ?_ ?_
  · rw [HC8.out]; kernel_rfl
  go_wp2_with fail
  go_ret2
  exact ⟨rfl, by first | exact HE3.out.ext HE6.out | exact HE3.out.alloc _⟩

set_option maxRecDepth 100000 in
set_option maxHeartbeats 4000000 in
theorem moves_19 (a fv : Value) (c : Cd) (f : Fn) (x : Int) (w : World) (h : CdR w a fv c) (hf : FnR w f) : Calls Tryd.prog 34 #[.agg #[a, .int .i64 c.glob, fv], .agg #[.string f.name, .int .i64 f.params, .int .i64 f.locals, .bool f.result, f.v], .agg #[.int .i64 19, .int .i64 x]] w fun e w' => e = .returned (.tuple #[.int .i64 (mvP c f 19 x).1, .int .i64 (mvP c f 19 x).2]) ∧ Ext w w' := by
  obtain ⟨⟨xa, ca, rfl⟩, xf, cf, rfl⟩ := h.shapes
  obtain ⟨xv, cv, hxv⟩ := hf.shape
  rw [hxv]
  have hl1 := h.l1
  have hl2 := h.l2
  have hl3 := hf.len
  have HE3 : Hid (Ext w (((w.alloc (.cells #[.slice xa c.fields.length ca, .int .i64 c.glob, .slice xf c.funcs.length cf] 25)).alloc (.cells #[.string f.name, .int .i64 f.params, .int .i64 f.locals, .bool f.result, .slice xv f.code.length cv] 39)).alloc (.cells #[.int .i64 19, .int .i64 x] 46))) := (((Upd.refl _ w).alloc _).alloc _).alloc _
  have HXA : Hid (∀ W, Ext (((w.alloc (.cells #[.slice xa c.fields.length ca, .int .i64 c.glob, .slice xf c.funcs.length cf] 25)).alloc (.cells #[.string f.name, .int .i64 f.params, .int .i64 f.locals, .bool f.result, .slice xv f.code.length cv] 39)).alloc (.cells #[.int .i64 19, .int .i64 x] 46)) W → W.heap[w.heap.size]? = some (.cells #[.slice xa c.fields.length ca, .int .i64 c.glob, .slice xf c.funcs.length cf] 25)) := fun W hW => hW.heap (allocOld (allocOld (alloc0 w _) _) _) (fun h => h)
  have HXF : Hid (∀ W, Ext (((w.alloc (.cells #[.slice xa c.fields.length ca, .int .i64 c.glob, .slice xf c.funcs.length cf] 25)).alloc (.cells #[.string f.name, .int .i64 f.params, .int .i64 f.locals, .bool f.result, .slice xv f.code.length cv] 39)).alloc (.cells #[.int .i64 19, .int .i64 x] 46)) W → W.heap[w.heap.size + 1]? = some (.cells #[.string f.name, .int .i64 f.params, .int .i64 f.locals, .bool f.result, .slice xv f.code.length cv] 39)) := fun W hW => hW.heap (allocOld (alloc_at (w.alloc (.cells #[.slice xa c.fields.length ca, .int .i64 c.glob, .slice xf c.funcs.length cf] 25)) _ (n := w.heap.size + 1) (by simp)) _) (fun h => h)
  have HXI : Hid (∀ W, Ext (((w.alloc (.cells #[.slice xa c.fields.length ca, .int .i64 c.glob, .slice xf c.funcs.length cf] 25)).alloc (.cells #[.string f.name, .int .i64 f.params, .int .i64 f.locals, .bool f.result, .slice xv f.code.length cv] 39)).alloc (.cells #[.int .i64 19, .int .i64 x] 46)) W → W.heap[w.heap.size + 1 + 1]? = some (.cells #[.int .i64 19, .int .i64 x] 46)) := fun W hW => hW.heap (alloc_at ((w.alloc (.cells #[.slice xa c.fields.length ca, .int .i64 c.glob, .slice xf c.funcs.length cf] 25)).alloc (.cells #[.string f.name, .int .i64 f.params, .int .i64 f.locals, .bool f.result, .slice xv f.code.length cv] 39)) _ (n := w.heap.size + 1 + 1) (by simp)) (fun h => h)
  obtain ⟨C8, hC8⟩ : ∃ C8 : Array Value, C8 = #[.int .i64 0, .int .i64 0, .int .i64 0, .int .i64 1, .int .i64 0, .int .i64 1, .int .i64 1, .int .i64 0, .int .i64 0, .int .i64 1, .int .i64 1, .int .i64 0, .int .i64 1, .int .i64 1, .int .i64 2, .int .i64 0, .int .i64 0, .int .i64 1, .int .i64 0, .int .i64 0, .int .i64 0, .int .i64 0, .int .i64 0, .int .i64 0, .int .i64 1, .int .i64 0, .int .i64 0, .int .i64 0, .int .i64 1, .int .i64 1, .int .i64 0, .int .i64 0, .int .i64 0, .int .i64 0, .int .i64 0, .int .i64 0, .int .i64 0, .int .i64 0, .int .i64 0, .int .i64 0, .int .i64 0, .int .i64 0, .int .i64 0, .int .i64 0, .int .i64 0, .int .i64 0, .int .i64 0, .int .i64 0, .int .i64 0, .int .i64 0, .int .i64 0, .int .i64 0, .int .i64 1, .int .i64 1, .int .i64 0, .int .i64 0, .int .i64 0, .int .i64 0, .int .i64 1, .int .i64 1, .int .i64 1, .int .i64 0, .int .i64 1, .int .i64 2] := ⟨_, rfl⟩
  have hs8 : C8.size = 64 := by rw [hC8]; rfl
  have ho8 : C8.all (·.oneCell') = true := by rw [hC8]; kernel_rfl
  have hst : Sem.run Tryd.prog (storeCells ⟨w.heap.size + 1 + 1 + 1, 0, none⟩ C8.toList 0) ((((w.alloc (.cells #[.slice xa c.fields.length ca, .int .i64 c.glob, .slice xf c.funcs.length cf] 25)).alloc (.cells #[.string f.name, .int .i64 f.params, .int .i64 f.locals, .bool f.result, .slice xv f.code.length cv] 39)).alloc (.cells #[.int .i64 19, .int .i64 x] 46)).alloc (.cells #[.int .i64 0, .int .i64 0, .int .i64 0, .int .i64 0, .int .i64 0, .int .i64 0, .int .i64 0, .int .i64 0, .int .i64 0, .int .i64 0, .int .i64 0, .int .i64 0, .int .i64 0, .int .i64 0, .int .i64 0, .int .i64 0, .int .i64 0, .int .i64 0, .int .i64 0, .int .i64 0, .int .i64 0, .int .i64 0, .int .i64 0, .int .i64 0, .int .i64 0, .int .i64 0, .int .i64 0, .int .i64 0, .int .i64 0, .int .i64 0, .int .i64 0, .int .i64 0, .int .i64 0, .int .i64 0, .int .i64 0, .int .i64 0, .int .i64 0, .int .i64 0, .int .i64 0, .int .i64 0, .int .i64 0, .int .i64 0, .int .i64 0, .int .i64 0, .int .i64 0, .int .i64 0, .int .i64 0, .int .i64 0, .int .i64 0, .int .i64 0, .int .i64 0, .int .i64 0, .int .i64 0, .int .i64 0, .int .i64 0, .int .i64 0, .int .i64 0, .int .i64 0, .int .i64 0, .int .i64 0, .int .i64 0, .int .i64 0, .int .i64 0, .int .i64 0] 80)) = .ok () ((((w.alloc (.cells #[.slice xa c.fields.length ca, .int .i64 c.glob, .slice xf c.funcs.length cf] 25)).alloc (.cells #[.string f.name, .int .i64 f.params, .int .i64 f.locals, .bool f.result, .slice xv f.code.length cv] 39)).alloc (.cells #[.int .i64 19, .int .i64 x] 46)).alloc (.cells C8 80)) := by
    have q := run_storeCells_new (P := Tryd.prog) (((w.alloc (.cells #[.slice xa c.fields.length ca, .int .i64 c.glob, .slice xf c.funcs.length cf] 25)).alloc (.cells #[.string f.name, .int .i64 f.params, .int .i64 f.locals, .bool f.result, .slice xv f.code.length cv] 39)).alloc (.cells #[.int .i64 19, .int .i64 x] 46)) 80 #[.int .i64 0, .int .i64 0, .int .i64 0, .int .i64 0, .int .i64 0, .int .i64 0, .int .i64 0, .int .i64 0, .int .i64 0, .int .i64 0, .int .i64 0, .int .i64 0, .int .i64 0, .int .i64 0, .int .i64 0, .int .i64 0, .int .i64 0, .int .i64 0, .int .i64 0, .int .i64 0, .int .i64 0, .int .i64 0, .int .i64 0, .int .i64 0, .int .i64 0, .int .i64 0, .int .i64 0, .int .i64 0, .int .i64 0, .int .i64 0, .int .i64 0, .int .i64 0, .int .i64 0, .int .i64 0, .int .i64 0, .int .i64 0, .int .i64 0, .int .i64 0, .int .i64 0, .int .i64 0, .int .i64 0, .int .i64 0, .int .i64 0, .int .i64 0, .int .i64 0, .int .i64 0, .int .i64 0, .int .i64 0, .int .i64 0, .int .i64 0, .int .i64 0, .int .i64 0, .int .i64 0, .int .i64 0, .int .i64 0, .int .i64 0, .int .i64 0, .int .i64 0, .int .i64 0, .int .i64 0, .int .i64 0, .int .i64 0, .int .i64 0, .int .i64 0] C8 (by rw [hs8]; kernel_rfl) (by rw [hs8]; rfl) ho8
    simp only [alloc_size] at q
    exact q
  have HC8 := Lib.hid hC8
  clear hC8 ho8
  have hm : mvP c f 19 x = (2, 1) := by unfold mvP; simp
  rw [hm]
  dsimp only
  clear h hf hxv hm
  go_enter Tryd.func34, Tryd.ntmps34
  go_wp2_with (with_reducible (refine stop_at (o := ⟨some 25, _, _, _, _, _⟩) ?_))
  refine Stop.go ?_
  refine wpList_run rfl (v := .agg C8) ?_ ?_
  · rw [HC8.out]; kernel_rfl
  go_wp2_with fail
  go_ret2
  exact ⟨rfl, by first | exact HE3.out.ext HE6.out | exact HE3.out.alloc _⟩

set_option maxRecDepth 100000 in
set_option maxHeartbeats 4000000 in
theorem moves_20 (a fv : Value) (c : Cd) (f : Fn) (x : Int) (w : World) (h : CdR w a fv c) (hf : FnR w f) : Calls Tryd.prog 34 #[.agg #[a, .int .i64 c.glob, fv], .agg #[.string f.name, .int .i64 f.params, .int .i64 f.locals, .bool f.result, f.v], .agg #[.int .i64 20, .int .i64 x]] w fun e w' => e = .returned (.tuple #[.int .i64 (mvP c f 20 x).1, .int .i64 (mvP c f 20 x).2]) ∧ Ext w w' := by
  obtain ⟨⟨xa, ca, rfl⟩, xf, cf, rfl⟩ := h.shapes
  obtain ⟨xv, cv, hxv⟩ := hf.shape
  rw [hxv]
  have hl1 := h.l1
  have hl2 := h.l2
  have hl3 := hf.len
  have HE3 : Hid (Ext w (((w.alloc (.cells #[.slice xa c.fields.length ca, .int .i64 c.glob, .slice xf c.funcs.length cf] 25)).alloc (.cells #[.string f.name, .int .i64 f.params, .int .i64 f.locals, .bool f.result, .slice xv f.code.length cv] 39)).alloc (.cells #[.int .i64 20, .int .i64 x] 46))) := (((Upd.refl _ w).alloc _).alloc _).alloc _
  have HXA : Hid (∀ W, Ext (((w.alloc (.cells #[.slice xa c.fields.length ca, .int .i64 c.glob, .slice xf c.funcs.length cf] 25)).alloc (.cells #[.string f.name, .int .i64 f.params, .int .i64 f.locals, .bool f.result, .slice xv f.code.length cv] 39)).alloc (.cells #[.int .i64 20, .int .i64 x] 46)) W → W.heap[w.heap.size]? = some (.cells #[.slice xa c.fields.length ca, .int .i64 c.glob, .slice xf c.funcs.length cf] 25)) := fun W hW => hW.heap (allocOld (allocOld (alloc0 w _) _) _) (fun h => h)
  have HXF : Hid (∀ W, Ext (((w.alloc (.cells #[.slice xa c.fields.length ca, .int .i64 c.glob, .slice xf c.funcs.length cf] 25)).alloc (.cells #[.string f.name, .int .i64 f.params, .int .i64 f.locals, .bool f.result, .slice xv f.code.length cv] 39)).alloc (.cells #[.int .i64 20, .int .i64 x] 46)) W → W.heap[w.heap.size + 1]? = some (.cells #[.string f.name, .int .i64 f.params, .int .i64 f.locals, .bool f.result, .slice xv f.code.length cv] 39)) := fun W hW => hW.heap (allocOld (alloc_at (w.alloc (.cells #[.slice xa c.fields.length ca, .int .i64 c.glob, .slice xf c.funcs.length cf] 25)) _ (n := w.heap.size + 1) (by simp)) _) (fun h => h)
  have HXI : Hid (∀ W, Ext (((w.alloc (.cells #[.slice xa c.fields.length ca, .int .i64 c.glob, .slice xf c.funcs.length cf] 25)).alloc (.cells #[.string f.name, .int .i64 f.params, .int .i64 f.locals, .bool f.result, .slice xv f.code.length cv] 39)).alloc (.cells #[.int .i64 20, .int .i64 x] 46)) W → W.heap[w.heap.size + 1 + 1]? = some (.cells #[.int .i64 20, .int .i64 x] 46)) := fun W hW => hW.heap (alloc_at ((w.alloc (.cells #[.slice xa c.fields.length ca, .int .i64 c.glob, .slice xf c.funcs.length cf] 25)).alloc (.cells #[.string f.name, .int .i64 f.params, .int .i64 f.locals, .bool f.result, .slice xv f.code.length cv] 39)) _ (n := w.heap.size + 1 + 1) (by simp)) (fun h => h)
  obtain ⟨C8, hC8⟩ : ∃ C8 : Array Value, C8 = #[.int .i64 0, .int .i64 0, .int .i64 0, .int .i64 1, .int .i64 0, .int .i64 1, .int .i64 1, .int .i64 0, .int .i64 0, .int .i64 1, .int .i64 1, .int .i64 0, .int .i64 1, .int .i64 1, .int .i64 2, .int .i64 0, .int .i64 0, .int .i64 1, .int .i64 0, .int .i64 0, .int .i64 0, .int .i64 0, .int .i64 0, .int .i64 0, .int .i64 1, .int .i64 0, .int .i64 0, .int .i64 0, .int .i64 1, .int .i64 1, .int .i64 0, .int .i64 0, .int .i64 0, .int .i64 0, .int .i64 0, .int .i64 0, .int .i64 0, .int .i64 0, .int .i64 0, .int .i64 0, .int .i64 0, .int .i64 0, .int .i64 0, .int .i64 0, .int .i64 0, .int .i64 0, .int .i64 0, .int .i64 0, .int .i64 0, .int .i64 0, .int .i64 0, .int .i64 0, .int .i64 1, .int .i64 1, .int .i64 0, .int .i64 0, .int .i64 0, .int .i64 0, .int .i64 1, .int .i64 1, .int .i64 1, .int .i64 0, .int .i64 1, .int .i64 2] := ⟨_, rfl⟩
  have hs8 : C8.size = 64 := by rw [hC8]; rfl
  have ho8 : C8.all (·.oneCell') = true := by rw [hC8]; kernel_rfl
  have hst : Sem.run Tryd.prog (storeCells ⟨w.heap.size + 1 + 1 + 1, 0, none⟩ C8.toList 0) ((((w.alloc (.cells #[.slice xa c.fields.length ca, .int .i64 c.glob, .slice xf c.funcs.length cf] 25)).alloc (.cells #[.string f.name, .int .i64 f.params, .int .i64 f.locals, .bool f.result, .slice xv f.code.length cv] 39)).alloc (.cells #[.int .i64 20, .int .i64 x] 46)).alloc (.cells #[.int .i64 0, .int .i64 0, .int .i64 0, .int .i64 0, .int .i64 0, .int .i64 0, .int .i64 0, .int .i64 0, .int .i64 0, .int .i64 0, .int .i64 0, .int .i64 0, .int .i64 0, .int .i64 0, .int .i64 0, .int .i64 0, .int .i64 0, .int .i64 0, .int .i64 0, .int .i64 0, .int .i64 0, .int .i64 0, .int .i64 0, .int .i64 0, .int .i64 0, .int .i64 0, .int .i64 0, .int .i64 0, .int .i64 0, .int .i64 0, .int .i64 0, .int .i64 0, .int .i64 0, .int .i64 0, .int .i64 0, .int .i64 0, .int .i64 0, .int .i64 0, .int .i64 0, .int .i64 0, .int .i64 0, .int .i64 0, .int .i64 0, .int .i64 0, .int .i64 0, .int .i64 0, .int .i64 0, .int .i64 0, .int .i64 0, .int .i64 0, .int .i64 0, .int .i64 0, .int .i64 0, .int .i64 0, .int .i64 0, .int .i64 0, .int .i64 0, .int .i64 0, .int .i64 0, .int .i64 0, .int .i64 0, .int .i64 0, .int .i64 0, .int .i64 0] 80)) = .ok () ((((w.alloc (.cells #[.slice xa c.fields.length ca, .int .i64 c.glob, .slice xf c.funcs.length cf] 25)).alloc (.cells #[.string f.name, .int .i64 f.params, .int .i64 f.locals, .bool f.result, .slice xv f.code.length cv] 39)).alloc (.cells #[.int .i64 20, .int .i64 x] 46)).alloc (.cells C8 80)) := by
    have q := run_storeCells_new (P := Tryd.prog) (((w.alloc (.cells #[.slice xa c.fields.length ca, .int .i64 c.glob, .slice xf c.funcs.length cf] 25)).alloc (.cells #[.string f.name, .int .i64 f.params, .int .i64 f.locals, .bool f.result, .slice xv f.code.length cv] 39)).alloc (.cells #[.int .i64 20, .int .i64 x] 46)) 80 #[.int .i64 0, .int .i64 0, .int .i64 0, .int .i64 0, .int .i64 0, .int .i64 0, .int .i64 0, .int .i64 0, .int .i64 0, .int .i64 0, .int .i64 0, .int .i64 0, .int .i64 0, .int .i64 0, .int .i64 0, .int .i64 0, .int .i64 0, .int .i64 0, .int .i64 0, .int .i64 0, .int .i64 0, .int .i64 0, .int .i64 0, .int .i64 0, .int .i64 0, .int .i64 0, .int .i64 0, .int .i64 0, .int .i64 0, .int .i64 0, .int .i64 0, .int .i64 0, .int .i64 0, .int .i64 0, .int .i64 0, .int .i64 0, .int .i64 0, .int .i64 0, .int .i64 0, .int .i64 0, .int .i64 0, .int .i64 0, .int .i64 0, .int .i64 0, .int .i64 0, .int .i64 0, .int .i64 0, .int .i64 0, .int .i64 0, .int .i64 0, .int .i64 0, .int .i64 0, .int .i64 0, .int .i64 0, .int .i64 0, .int .i64 0, .int .i64 0, .int .i64 0, .int .i64 0, .int .i64 0, .int .i64 0, .int .i64 0, .int .i64 0, .int .i64 0] C8 (by rw [hs8]; kernel_rfl) (by rw [hs8]; rfl) ho8
    simp only [alloc_size] at q
    exact q
  have HC8 := Lib.hid hC8
  clear hC8 ho8
  have hm : mvP c f 20 x = (2, 1) := by unfold mvP; simp
  rw [hm]
  dsimp only
  clear h hf hxv hm
  go_enter Tryd.func34, Tryd.ntmps34
  go_wp2_with (with_reducible (refine stop_at (o := ⟨some 25, _, _, _, _, _⟩) ?_))
  refine Stop.go ?_
  refine wpList_run rfl (v := .agg C8) ?_ ?_
  · rw [HC8.out]; kernel_rfl
  go_wp2_with fail
  go_ret2
  exact ⟨rfl, by first | exact HE3.out.ext HE6.out | exact HE3.out.alloc _⟩

set_option maxRecDepth 100000 in
set_option maxHeartbeats 4000000 in
theorem moves_21 (a fv : Value) (c : Cd) (f : Fn) (x : Int) (w : World) (h : CdR w a fv c) (hf : FnR w f) : Calls Tryd.prog 34 #[.agg #[a, .int .i64 c.glob, fv], .agg #[.string f.name, .int .i64 f.params, .int .i64 f.locals, .bool f.result, f.v], .agg #[.int .i64 21, .int .i64 x]] w fun e w' => e = .returned (.tuple #[.int .i64 (mvP c f 21 x).1, .int .i64 (mvP c f 21 x).2]) ∧ Ext w w' := by
  obtain ⟨⟨xa, ca, rfl⟩, xf, cf, rfl⟩ := h.shapes
  obtain ⟨xv, cv, hxv⟩ := hf.shape
  rw [hxv]
  have hl1 := h.l1
  have hl2 := h.l2
  have hl3 := hf.len
  have HE3 : Hid (Ext w (((w.alloc (.cells #[.slice xa c.fields.length ca, .int .i64 c.glob, .slice xf c.funcs.length cf] 25)).alloc (.cells #[.string f.name, .int .i64 f.params, .int .i64 f.locals, .bool f.result, .slice xv f.code.length cv] 39)).alloc (.cells #[.int .i64 21, .int .i64 x] 46))) := (((Upd.refl _ w).alloc _).alloc _).alloc _
  have HXA : Hid (∀ W, Ext (((w.alloc (.cells #[.slice xa c.fields.length ca, .int .i64 c.glob, .slice xf c.funcs.length cf] 25)).alloc (.cells #[.string f.name, .int .i64 f.params, .int .i64 f.locals, .bool f.result, .slice xv f.code.length cv] 39)).alloc (.cells #[.int .i64 21, .int .i64 x] 46)) W → W.heap[w.heap.size]? = some (.cells #[.slice xa c.fields.length ca, .int .i64 c.glob, .slice xf c.funcs.length cf] 25)) := fun W hW => hW.heap (allocOld (allocOld (alloc0 w _) _) _) (fun h => h)
  have HXF : Hid (∀ W, Ext (((w.alloc (.cells #[.slice xa c.fields.length ca, .int .i64 c.glob, .slice xf c.funcs.length cf] 25)).alloc (.cells #[.string f.name, .int .i64 f.params, .int .i64 f.locals, .bool f.result, .slice xv f.code.length cv] 39)).alloc (.cells #[.int .i64 21, .int .i64 x] 46)) W → W.heap[w.heap.size + 1]? = some (.cells #[.string f.name, .int .i64 f.params, .int .i64 f.locals, .bool f.result, .slice xv f.code.length cv] 39)) := fun W hW => hW.heap (allocOld (alloc_at (w.alloc (.cells #[.slice xa c.fields.length ca, .int .i64 c.glob, .slice xf c.funcs.length cf] 25)) _ (n := w.heap.size + 1) (by simp)) _) (fun h => h)
  have HXI : Hid (∀ W, Ext (((w.alloc (.cells #[.slice xa c.fields.length ca, .int .i64 c.glob, .slice xf c.funcs.length cf] 25)).alloc (.cells #[.string f.name, .int .i64 f.params, .int .i64 f.locals, .bool f.result, .slice xv f.code.length cv] 39)).alloc (.cells #[.int .i64 21, .int .i64 x] 46)) W → W.heap[w.heap.size + 1 + 1]? = some (.cells #[.int .i64 21, .int .i64 x] 46)) := fun W hW => hW.heap (alloc_at ((w.alloc (.cells #[.slice xa c.fields.length ca, .int .i64 c.glob, .slice xf c.funcs.length cf] 25)).alloc (.cells #[.string f.name, .int .i64 f.params, .int .i64 f.locals, .bool f.result, .slice xv f.code.length cv] 39)) _ (n := w.heap.size + 1 + 1) (by simp)) (fun h => h)
  obtain ⟨C8, hC8⟩ : ∃ C8 : Array Value, C8 = #[.int .i64 0, .int .i64 0, .int .i64 0, .int .i64 1, .int .i64 0, .int .i64 1, .int .i64 1, .int .i64 0, .int .i64 0, .int .i64 1, .int .i64 1, .int .i64 0, .int .i64 1, .int .i64 1, .int .i64 2, .int .i64 0, .int .i64 0, .int .i64 1, .int .i64 0, .int .i64 0, .int .i64 0, .int .i64 0, .int .i64 0, .int .i64 0, .int .i64 1, .int .i64 0, .int .i64 0, .int .i64 0, .int .i64 1, .int .i64 1, .int .i64 0, .int .i64 0, .int .i64 0, .int .i64 0, .int .i64 0, .int .i64 0, .int .i64 0, .int .i64 0, .int .i64 0, .int .i64 0, .int .i64 0, .int .i64 0, .int .i64 0, .int .i64 0, .int .i64 0, .int .i64 0, .int .i64 0, .int .i64 0, .int .i64 0, .int .i64 0, .int .i64 0, .int .i64 0, .int .i64 1, .int .i64 1, .int .i64 0, .int .i64 0, .int .i64 0, .int .i64 0, .int .i64 1, .int .i64 1, .int .i64 1, .int .i64 0, .int .i64 1, .int .i64 2] := ⟨_, rfl⟩
  have hs8 : C8.size = 64 := by rw [hC8]; rfl
  have ho8 : C8.all (·.oneCell') = true := by rw [hC8]; kernel_rfl
  have hst : Sem.run Tryd.prog (storeCells ⟨w.heap.size + 1 + 1 + 1, 0, none⟩ C8.toList 0) ((((w.alloc (.cells #[.slice xa c.fields.length ca, .int .i64 c.glob, .slice xf c.funcs.length cf] 25)).alloc (.cells #[.string f.name, .int .i64 f.params, .int .i64 f.locals, .bool f.result, .slice xv f.code.length cv] 39)).alloc (.cells #[.int .i64 21, .int .i64 x] 46)).alloc (.cells #[.int .i64 0, .int .i64 0, .int .i64 0, .int .i64 0, .int .i64 0, .int .i64 0, .int .i64 0, .int .i64 0, .int .i64 0, .int .i64 0, .int .i64 0, .int .i64 0, .int .i64 0, .int .i64 0, .int .i64 0, .int .i64 0, .int .i64 0, .int .i64 0, .int .i64 0, .int .i64 0, .int .i64 0, .int .i64 0, .int .i64 0, .int .i64 0, .int .i64 0, .int .i64 0, .int .i64 0, .int .i64 0, .int .i64 0, .int .i64 0, .int .i64 0, .int .i64 0, .int .i64 0, .int .i64 0, .int .i64 0, .int .i64 0, .int .i64 0, .int .i64 0, .int .i64 0, .int .i64 0, .int .i64 0, .int .i64 0, .int .i64 0, .int .i64 0, .int .i64 0, .int .i64 0, .int .i64 0, .int .i64 0, .int .i64 0, .int .i64 0, .int .i64 0, .int .i64 0, .int .i64 0, .int .i64 0, .int .i64 0, .int .i64 0, .int .i64 0, .int .i64 0, .int .i64 0, .int .i64 0, .int .i64 0, .int .i64 0, .int .i64 0, .int .i64 0] 80)) = .ok () ((((w.alloc (.cells #[.slice xa c.fields.length ca, .int .i64 c.glob, .slice xf c.funcs.length cf] 25)).alloc (.cells #[.string f.name, .int .i64 f.params, .int .i64 f.locals, .bool f.result, .slice xv f.code.length cv] 39)).alloc (.cells #[.int .i64 21, .int .i64 x] 46)).alloc (.cells C8 80)) := by
    have q := run_storeCells_new (P := Tryd.prog) (((w.alloc (.cells #[.slice xa c.fields.length ca, .int .i64 c.glob, .slice xf c.funcs.length cf] 25)).alloc (.cells #[.string f.name, .int .i64 f.params, .int .i64 f.locals, .bool f.result, .slice xv f.code.length cv] 39)).alloc (.cells #[.int .i64 21, .int .i64 x] 46)) 80 #[.int .i64 0, .int .i64 0, .int .i64 0, .int .i64 0, .int .i64 0, .int .i64 0, .int .i64 0, .int .i64 0, .int .i64 0, .int .i64 0, .int .i64 0, .int .i64 0, .int .i64 0, .int .i64 0, .int .i64 0, .int .i64 0, .int .i64 0, .int .i64 0, .int .i64 0, .int .i64 0, .int .i64 0, .int .i64 0, .int .i64 0, .int .i64 0, .int .i64 0, .int .i64 0, .int .i64 0, .int .i64 0, .int .i64 0, .int .i64 0, .int .i64 0, .int .i64 0, .int .i64 0, .int .i64 0, .int .i64 0, .int .i64 0, .int .i64 0, .int .i64 0, .int .i64 0, .int .i64 0, .int .i64 0, .int .i64 0, .int .i64 0, .int .i64 0, .int .i64 0, .int .i64 0, .int .i64 0, .int .i64 0, .int .i64 0, .int .i64 0, .int .i64 0, .int .i64 0, .int .i64 0, .int .i64 0, .int .i64 0, .int .i64 0, .int .i64 0, .int .i64 0, .int .i64 0, .int .i64 0, .int .i64 0, .int .i64 0, .int .i64 0, .int .i64 0] C8 (by rw [hs8]; kernel_rfl) (by rw [hs8]; rfl) ho8
    simp only [alloc_size] at q
    exact q
  have HC8 := Lib.hid hC8
  clear hC8 ho8
  have hm : mvP c f 21 x = (2, 1) := by unfold mvP; simp
  rw [hm]
  dsimp only
  clear h hf hxv hm
  go_enter Tryd.func34, Tryd.ntmps34
  go_wp2_with (with_reducible (refine stop_at (o := ⟨some 25, _, _, _, _, _⟩) ?_))
  refine Stop.go ?_
  refine wpList_run rfl (v := .agg C8) ?_ ?_
  · rw [HC8.out]; kernel_rfl
  go_wp2_with fail
  go_ret2
  exact ⟨rfl, by first | exact HE3.out.ext HE6.out | exact HE3.out.alloc _⟩

set_option maxRecDepth 100000 in
set_option maxHeartbeats 4000000 in
theorem moves_22 (a fv : Value) (c : Cd) (f : Fn) (x : Int) (w : World) (h : CdR w a fv c) (hf : FnR w f) : Calls Tryd.prog 34 #[.agg #[a, .int .i64 c.glob, fv], .agg #[.string f.name, .int .i64 f.params, .int .i64 f.locals, .bool f.result, f.v], .agg #[.int .i64 22, .int .i64 x]] w fun e w' => e = .returned (.tuple #[.int .i64 (mvP c f 22 x).1, .int .i64 (mvP c f 22 x).2]) ∧ Ext w w' := by
  obtain ⟨⟨xa, ca, rfl⟩, xf, cf, rfl⟩ := h.shapes
  obtain ⟨xv, cv, hxv⟩ := hf.shape
  rw [hxv]
  have hl1 := h.l1
  have hl2 := h.l2
  have hl3 := hf.len
  have HE3 : Hid (Ext w (((w.alloc (.cells #[.slice xa c.fields.length ca, .int .i64 c.glob, .slice xf c.funcs.length cf] 25)).alloc (.cells #[.string f.name, .int .i64 f.params, .int .i64 f.locals, .bool f.result, .slice xv f.code.length cv] 39)).alloc (.cells #[.int .i64 22, .int .i64 x] 46))) := (((Upd.refl _ w).alloc _).alloc _).alloc _
  have HXA : Hid (∀ W, Ext (((w.alloc (.cells #[.slice xa c.fields.length ca, .int .i64 c.glob, .slice xf c.funcs.length cf] 25)).alloc (.cells #[.string f.name, .int .i64 f.params, .int .i64 f.locals, .bool f.result, .slice xv f.code.length cv] 39)).alloc (.cells #[.int .i64 22, .int .i64 x] 46)) W → W.heap[w.heap.size]? = some (.cells #[.slice xa c.fields.length ca, .int .i64 c.glob, .slice xf c.funcs.length cf] 25)) := fun W hW => hW.heap (allocOld (allocOld (alloc0 w _) _) _) (fun h => h)
  have HXF : Hid (∀ W, Ext (((w.alloc (.cells #[.slice xa c.fields.length ca, .int .i64 c.glob, .slice xf c.funcs.length cf] 25)).alloc (.cells #[.string f.name, .int .i64 f.params, .int .i64 f.locals, .bool f.result, .slice xv f.code.length cv] 39)).alloc (.cells #[.int .i64 22, .int .i64 x] 46)) W → W.heap[w.heap.size + 1]? = some (.cells #[.string f.name, .int .i64 f.params, .int .i64 f.locals, .bool f.result, .slice xv f.code.length cv] 39)) := fun W hW => hW.heap (allocOld (alloc_at (w.alloc (.cells #[.slice xa c.fields.length ca, .int .i64 c.glob, .slice xf c.funcs.length cf] 25)) _ (n := w.heap.size + 1) (by simp)) _) (fun h => h)
  have HXI : Hid (∀ W, Ext (((w.alloc (.cells #[.slice xa c.fields.length ca, .int .i64 c.glob, .slice xf c.funcs.length cf] 25)).alloc (.cells #[.string f.name, .int .i64 f.params, .int .i64 f.locals, .bool f.result, .slice xv f.code.length cv] 39)).alloc (.cells #[.int .i64 22, .int .i64 x] 46)) W → W.heap[w.heap.size + 1 + 1]? = some (.cells #[.int .i64 22, .int .i64 x] 46)) := fun W hW => hW.heap (alloc_at ((w.alloc (.cells #[.slice xa c.fields.length ca, .int .i64 c.glob, .slice xf c.funcs.length cf] 25)).alloc (.cells #[.string f.name, .int .i64 f.params, .int .i64 f.locals, .bool f.result, .slice xv f.code.length cv] 39)) _ (n := w.heap.size + 1 + 1) (by simp)) (fun h => h)
  obtain ⟨C8, hC8⟩ : ∃ C8 : Array Value, C8 = #[.int .i64 0, .int .i64 0, .int .i64 0, .int .i64 1, .int .i64 0, .int .i64 1, .int .i64 1, .int .i64 0, .int .i64 0, .int .i64 1, .int .i64 1, .int .i64 0, .int .i64 1, .int .i64 1, .int .i64 2, .int .i64 0, .int .i64 0, .int .i64 1, .int .i64 0, .int .i64 0, .int .i64 0, .int .i64 0, .int .i64 0, .int .i64 0, .int .i64 1, .int .i64 0, .int .i64 0, .int .i64 0, .int .i64 1, .int .i64 1, .int .i64 0, .int .i64 0, .int .i64 0, .int .i64 0, .int .i64 0, .int .i64 0, .int .i64 0, .int .i64 0, .int .i64 0, .int .i64 0, .int .i64 0, .int .i64 0, .int .i64 0, .int .i64 0, .int .i64 0, .int .i64 0, .int .i64 0, .int .i64 0, .int .i64 0, .int .i64 0, .int .i64 0, .int .i64 0, .int .i64 1, .int .i64 1, .int .i64 0, .int .i64 0, .int .i64 0, .int .i64 0, .int .i64 1, .int .i64 1, .int .i64 1, .int .i64 0, .int .i64 1, .int .i64 2] := ⟨_, rfl⟩
  have hs8 : C8.size = 64 := by rw [hC8]; rfl
  have ho8 : C8.all (·.oneCell') = true := by rw [hC8]; kernel_rfl
  have hst : Sem.run Tryd.prog (storeCells ⟨w.heap.size + 1 + 1 + 1, 0, none⟩ C8.toList 0) ((((w.alloc (.cells #[.slice xa c.fields.length ca, .int .i64 c.glob, .slice xf c.funcs.length cf] 25)).alloc (.cells #[.string f.name, .int .i64 f.params, .int .i64 f.locals, .bool f.result, .slice xv f.code.length cv] 39)).alloc (.cells #[.int .i64 22, .int .i64 x] 46)).alloc (.cells #[.int .i64 0, .int .i64 0, .int .i64 0, .int .i64 0, .int .i64 0, .int .i64 0, .int .i64 0, .int .i64 0, .int .i64 0, .int .i64 0, .int .i64 0, .int .i64 0, .int .i64 0, .int .i64 0, .int .i64 0, .int .i64 0, .int .i64 0, .int .i64 0, .int .i64 0, .int .i64 0, .int .i64 0, .int .i64 0, .int .i64 0, .int .i64 0, .int .i64 0, .int .i64 0, .int .i64 0, .int .i64 0, .int .i64 0, .int .i64 0, .int .i64 0, .int .i64 0, .int .i64 0, .int .i64 0, .int .i64 0, .int .i64 0, .int .i64 0, .int .i64 0, .int .i64 0, .int .i64 0, .int .i64 0, .int .i64 0, .int .i64 0, .int .i64 0, .int .i64 0, .int .i64 0, .int .i64 0, .int .i64 0, .int .i64 0, .int .i64 0, .int .i64 0, .int .i64 0, .int .i64 0, .int .i64 0, .int .i64 0, .int .i64 0, .int .i64 0, .int .i64 0, .int .i64 0, .int .i64 0, .int .i64 0, .int .i64 0, .int .i64 0, .int .i64 0] 80)) = .ok () ((((w.alloc (.cells #[.slice xa c.fields.length ca, .int .i64 c.glob, .slice xf c.funcs.length cf] 25)).alloc (.cells #[.string f.name, .int .i64 f.params, .int .i64 f.locals, .bool f.result, .slice xv f.code.length cv] 39)).alloc (.cells #[.int .i64 22, .int .i64 x] 46)).alloc (.cells C8 80)) := by
    have q := run_storeCells_new (P := Tryd.prog) (((w.alloc (.cells #[.slice xa c.fields.length ca, .int .i64 c.glob, .slice xf c.funcs.length cf] 25)).alloc (.cells #[.string f.name, .int .i64 f.params, .int .i64 f.locals, .bool f.result, .slice xv f.code.length cv] 39)).alloc (.cells #[.int .i64 22, .int .i64 x] 46)) 80 #[.int .i64 0, .int .i64 0, .int .i64 0, .int .i64 0, .int .i64 0, .int .i64 0, .int .i64 0, .int .i64 0, .int .i64 0, .int .i64 0, .int .i64 0, .int .i64 0, .int .i64 0, .int .i64 0, .int .i64 0, .int .i64 0, .int .i64 0, .int .i64 0, .int .i64 0, .int .i64 0, .int .i64 0, .int .i64 0, .int .i64 0, .int .i64 0, .int .i64 0, .int .i64 0, .int .i64 0, .int .i64 0, .int .i64 0, .int .i64 0, .int .i64 0, .int .i64 0, .int .i64 0, .int .i64 0, .int .i64 0, .int .i64 0, .int .i64 0, .int .i64 0, .int .i64 0, .int .i64 0, .int .i64 0, .int .i64 0, .int .i64 0, .int .i64 0, .int .i64 0, .int .i64 0, .int .i64 0, .int .i64 0, .int .i64 0, .int .i64 0, .int .i64 0, .int .i64 0, .int .i64 0, .int .i64 0, .int .i64 0, .int .i64 0, .int .i64 0, .int .i64 0, .int .i64 0, .int .i64 0, .int .i64 0, .int .i64 0, .int .i64 0, .int .i64 0] C8 (by rw [hs8]; kernel_rfl) (by rw [hs8]; rfl) ho8
    simp only [alloc_size] at q
    exact q
  have HC8 := Lib.hid hC8
  clear hC8 ho8
  have hm : mvP c f 22 x = (2, 1) := by unfold mvP; simp
  rw [hm]
  dsimp only
  clear h hf hxv hm
  go_enter Tryd.func34, Tryd.ntmps34
  go_wp2_with (with_reducible (refine stop_at (o := ⟨some 25, _, _, _, _, _⟩) ?_))
  refine Stop.go ?_
  refine wpList_run rfl (v := .agg C8) ?_ ?_
  · rw [HC8.out]; kernel_rfl
  go_wp2_with fail
  go_ret2
  exact ⟨rfl, by first | exact HE3.out.ext HE6.out | exact HE3.out.alloc _⟩

set_option maxRecDepth 100000 in
set_option maxHeartbeats 4000000 in
theorem moves_23 (a fv : Value) (c : Cd) (f : Fn) (x : Int) (w : World) (h : CdR w a fv c) (hf : FnR w f) : Calls Tryd.prog 34 #[.agg #[a, .int .i64 c.glob, fv], .agg #[.string f.name, .int .i64 f.params, .int .i64 f.locals, .bool f.result, f.v], .agg #[.int .i64 23, .int .i64 x]] w fun e w' => e = .returned (.tuple #[.int .i64 (mvP c f 23 x).1, .int .i64 (mvP c f 23 x).2]) ∧ Ext w w' := by
  obtain ⟨⟨xa, ca, rfl⟩, xf, cf, rfl⟩ := h.shapes
  obtain ⟨xv, cv, hxv⟩ := hf.shape
  rw [hxv]
  have hl1 := h.l1
  have hl2 := h.l2
  have hl3 := hf.len
  have HE3 : Hid (Ext w (((w.alloc (.cells #[.slice xa c.fields.length ca, .int .i64 c.glob, .slice xf c.funcs.length cf] 25)).alloc (.cells #[.string f.name, .int .i64 f.params, .int .i64 f.locals, .bool f.result, .slice xv f.code.length cv] 39)).alloc (.cells #[.int .i64 23, .int .i64 x] 46))) := (((Upd.refl _ w).alloc _).alloc _).alloc _
  have HXA : Hid (∀ W, Ext (((w.alloc (.cells #[.slice xa c.fields.length ca, .int .i64 c.glob, .slice xf c.funcs.length cf] 25)).alloc (.cells #[.string f.name, .int .i64 f.params, .int .i64 f.locals, .bool f.result, .slice xv f.code.length cv] 39)).alloc (.cells #[.int .i64 23, .int .i64 x] 46)) W → W.heap[w.heap.size]? = some (.cells #[.slice xa c.fields.length ca, .int .i64 c.glob, .slice xf c.funcs.length cf] 25)) := fun W hW => hW.heap (allocOld (allocOld (alloc0 w _) _) _) (fun h => h)
  have HXF : Hid (∀ W, Ext (((w.alloc (.cells #[.slice xa c.fields.length ca, .int .i64 c.glob, .slice xf c.funcs.length cf] 25)).alloc (.cells #[.string f.name, .int .i64 f.params, .int .i64 f.locals, .bool f.result, .slice xv f.code.length cv] 39)).alloc (.cells #[.int .i64 23, .int .i64 x] 46)) W → W.heap[w.heap.size + 1]? = some (.cells #[.string f.name, .int .i64 f.params, .int .i64 f.locals, .bool f.result, .slice xv f.code.length cv] 39)) := fun W hW => hW.heap (allocOld (alloc_at (w.alloc (.cells #[.slice xa c.fields.length ca, .int .i64 c.glob, .slice xf c.funcs.length cf] 25)) _ (n := w.heap.size + 1) (by simp)) _) (fun h => h)
  have HXI : Hid (∀ W, Ext (((w.alloc (.cells #[.slice xa c.fields.length ca, .int .i64 c.glob, .slice xf c.funcs.length cf] 25)).alloc (.cells #[.string f.name, .int .i64 f.params, .int .i64 f.locals, .bool f.result, .slice xv f.code.length cv] 39)).alloc (.cells #[.int .i64 23, .int .i64 x] 46)) W → W.heap[w.heap.size + 1 + 1]? = some (.cells #[.int .i64 23, .int .i64 x] 46)) := fun W hW => hW.heap (alloc_at ((w.alloc (.cells #[.slice xa c.fields.length ca, .int .i64 c.glob, .slice xf c.funcs.length cf] 25)).alloc (.cells #[.string f.name, .int .i64 f.params, .int .i64 f.locals, .bool f.result, .slice xv f.code.length cv] 39)) _ (n := w.heap.size + 1 + 1) (by simp)) (fun h => h)
  obtain ⟨C8, hC8⟩ : ∃ C8 : Array Value, C8 = #[.int .i64 0, .int .i64 0, .int .i64 0, .int .i64 1, .int .i64 0, .int .i64 1, .int .i64 1, .int .i64 0, .int .i64 0, .int .i64 1, .int .i64 1, .int .i64 0, .int .i64 1, .int .i64 1, .int .i64 2, .int .i64 0, .int .i64 0, .int .i64 1, .int .i64 0, .int .i64 0, .int .i64 0, .int .i64 0, .int .i64 0, .int .i64 0, .int .i64 1, .int .i64 0, .int .i64 0, .int .i64 0, .int .i64 1, .int .i64 1, .int .i64 0, .int .i64 0, .int .i64 0, .int .i64 0, .int .i64 0, .int .i64 0, .int .i64 0, .int .i64 0, .int .i64 0, .int .i64 0, .int .i64 0, .int .i64 0, .int .i64 0, .int .i64 0, .int .i64 0, .int .i64 0, .int .i64 0, .int .i64 0, .int .i64 0, .int .i64 0, .int .i64 0, .int .i64 0, .int .i64 1, .int .i64 1, .int .i64 0, .int .i64 0, .int .i64 0, .int .i64 0, .int .i64 1, .int .i64 1, .int .i64 1, .int .i64 0, .int .i64 1, .int .i64 2] := ⟨_, rfl⟩
  have hs8 : C8.size = 64 := by rw [hC8]; rfl
  have ho8 : C8.all (·.oneCell') = true := by rw [hC8]; kernel_rfl
  have hst : Sem.run Tryd.prog (storeCells ⟨w.heap.size + 1 + 1 + 1, 0, none⟩ C8.toList 0) ((((w.alloc (.cells #[.slice xa c.fields.length ca, .int .i64 c.glob, .slice xf c.funcs.length cf] 25)).alloc (.cells #[.string f.name, .int .i64 f.params, .int .i64 f.locals, .bool f.result, .slice xv f.code.length cv] 39)).alloc (.cells #[.int .i64 23, .int .i64 x] 46)).alloc (.cells #[.int .i64 0, .int .i64 0, .int .i64 0, .int .i64 0, .int .i64 0, .int .i64 0, .int .i64 0, .int .i64 0, .int .i64 0, .int .i64 0, .int .i64 0, .int .i64 0, .int .i64 0, .int .i64 0, .int .i64 0, .int .i64 0, .int .i64 0, .int .i64 0, .int .i64 0, .int .i64 0, .int .i64 0, .int .i64 0, .int .i64 0, .int .i64 0, .int .i64 0, .int .i64 0, .int .i64 0, .int .i64 0, .int .i64 0, .int .i64 0, .int .i64 0, .int .i64 0, .int .i64 0, .int .i64 0, .int .i64 0, .int .i64 0, .int .i64 0, .int .i64 0, .int .i64 0, .int .i64 0, .int .i64 0, .int .i64 0, .int .i64 0, .int .i64 0, .int .i64 0, .int .i64 0, .int .i64 0, .int .i64 0, .int .i64 0, .int .i64 0, .int .i64 0, .int .i64 0, .int .i64 0, .int .i64 0, .int .i64 0, .int .i64 0, .int .i64 0, .int .i64 0, .int .i64 0, .int .i64 0, .int .i64 0, .int .i64 0, .int .i64 0, .int .i64 0] 80)) = .ok () ((((w.alloc (.cells #[.slice xa c.fields.length ca, .int .i64 c.glob, .slice xf c.funcs.length cf] 25)).alloc (.cells #[.string f.name, .int .i64 f.params, .int .i64 f.locals, .bool f.result, .slice xv f.code.length cv] 39)).alloc (.cells #[.int .i64 23, .int .i64 x] 46)).alloc (.cells C8 80)) := by
    have q := run_storeCells_new (P := Tryd.prog) (((w.alloc (.cells #[.slice xa c.fields.length ca, .int .i64 c.glob, .slice xf c.funcs.length cf] 25)).alloc (.cells #[.string f.name, .int .i64 f.params, .int .i64 f.locals, .bool f.result, .slice xv f.code.length cv] 39)).alloc (.cells #[.int .i64 23, .int .i64 x] 46)) 80 #[.int .i64 0, .int .i64 0, .int .i64 0, .int .i64 0, .int .i64 0, .int .i64 0, .int .i64 0, .int .i64 0, .int .i64 0, .int .i64 0, .int .i64 0, .int .i64 0, .int .i64 0, .int .i64 0, .int .i64 0, .int .i64 0, .int .i64 0, .int .i64 0, .int .i64 0, .int .i64 0, .int .i64 0, .int .i64 0, .int .i64 0, .int .i64 0, .int .i64 0, .int .i64 0, .int .i64 0, .int .i64 0, .int .i64 0, .int .i64 0, .int .i64 0, .int .i64 0, .int .i64 0, .int .i64 0, .int .i64 0, .int .i64 0, .int .i64 0, .int .i64 0, .int .i64 0, .int .i64 0, .int .i64 0, .int .i64 0, .int .i64 0, .int .i64 0, .int .i64 0, .int .i64 0, .int .i64 0, .int .i64 0, .int .i64 0, .int .i64 0, .int .i64 0, .int .i64 0, .int .i64 0, .int .i64 0, .int .i64 0, .int .i64 0, .int .i64 0, .int .i64 0, .int .i64 0, .int .i64 0, .int .i64 0, .int .i64 0, .int .i64 0, .int .i64 0] C8 (by rw [hs8]; kernel_rfl) (by rw [hs8]; rfl) ho8
    simp only [alloc_size] at q
    exact q
  have HC8 := Lib.hid hC8
  clear hC8 ho8
  have hm : mvP c f 23 x = (2, 1) := by unfold mvP; simp
  rw [hm]
  dsimp only
  clear h hf hxv hm
  go_enter Tryd.func34, Tryd.ntmps34
  go_wp2_with (with_reducible (refine stop_at (o := ⟨some 25, _, _, _, _, _⟩) ?_))
  refine Stop.go ?_
  refine wpList_run rfl (v := .agg C8) ?_ ?_
  · rw [HC8.out]; kernel_rfl
  go_wp2_with fail
  go_ret2
  exact ⟨rfl, by first | exact HE3.out.ext HE6.out | exact HE3.out.alloc _⟩

set_option maxRecDepth 100000 in
set_option maxHeartbeats 4000000 in
theorem moves_24 (a fv : Value) (c : Cd) (f : Fn) (x : Int) (w : World) (h : CdR w a fv c) (hf : FnR w f) : Calls Tryd.prog 34 #[.agg #[a, .int .i64 c.glob, fv], .agg #[.string f.name, .int .i64 f.params, .int .i64 f.locals, .bool f.result, f.v], .agg #[.int .i64 24, .int .i64 x]] w fun e w' => e = .returned (.tuple #[.int .i64 (mvP c f 24 x).1, .int .i64 (mvP c f 24 x).2]) ∧ Ext w w' := by
  obtain ⟨⟨xa, ca, rfl⟩, xf, cf, rfl⟩ := h.shapes
  obtain ⟨xv, cv, hxv⟩ := hf.shape
  rw [hxv]
  have hl1 := h.l1
  have hl2 := h.l2
  have hl3 := hf.len
  have HE3 : Hid (Ext w (((w.alloc (.cells #[.slice xa c.fields.length ca, .int .i64 c.glob, .slice xf c.funcs.length cf] 25)).alloc (.cells #[.string f.name, .int .i64 f.params, .int .i64 f.locals, .bool f.result, .slice xv f.code.length cv] 39)).alloc (.cells #[.int .i64 24, .int .i64 x] 46))) := (((Upd.refl _ w).alloc _).alloc _).alloc _
  have HXA : Hid (∀ W, Ext (((w.alloc (.cells #[.slice xa c.fields.length ca, .int .i64 c.glob, .slice xf c.funcs.length cf] 25)).alloc (.cells #[.string f.name, .int .i64 f.params, .int .i64 f.locals, .bool f.result, .slice xv f.code.length cv] 39)).alloc (.cells #[.int .i64 24, .int .i64 x] 46)) W → W.heap[w.heap.size]? = some (.cells #[.slice xa c.fields.length ca, .int .i64 c.glob, .slice xf c.funcs.length cf] 25)) := fun W hW => hW.heap (allocOld (allocOld (alloc0 w _) _) _) (fun h => h)
  have HXF : Hid (∀ W, Ext (((w.alloc (.cells #[.slice xa c.fields.length ca, .int .i64 c.glob, .slice xf c.funcs.length cf] 25)).alloc (.cells #[.string f.name, .int .i64 f.params, .int .i64 f.locals, .bool f.result, .slice xv f.code.length cv] 39)).alloc (.cells #[.int .i64 24, .int .i64 x] 46)) W → W.heap[w.heap.size + 1]? = some (.cells #[.string f.name, .int .i64 f.params, .int .i64 f.locals, .bool f.result, .slice xv f.code.length cv] 39)) := fun W hW => hW.heap (allocOld (alloc_at (w.alloc (.cells #[.slice xa c.fields.length ca, .int .i64 c.glob, .slice xf c.funcs.length cf] 25)) _ (n := w.heap.size + 1) (by simp)) _) (fun h => h)
  have HXI : Hid (∀ W, Ext (((w.alloc (.cells #[.slice xa c.fields.length ca, .int .i64 c.glob, .slice xf c.funcs.length cf] 25)).alloc (.cells #[.string f.name, .int .i64 f.params, .int .i64 f.locals, .bool f.result, .slice xv f.code.length cv] 39)).alloc (.cells #[.int .i64 24, .int .i64 x] 46)) W → W.heap[w.heap.size + 1 + 1]? = some (.cells #[.int .i64 24, .int .i64 x] 46)) := fun W hW => hW.heap (alloc_at ((w.alloc (.cells #[.slice xa c.fields.length ca, .int .i64 c.glob, .slice xf c.funcs.length cf] 25)).alloc (.cells #[.string f.name, .int .i64 f.params, .int .i64 f.locals, .bool f.result, .slice xv f.code.length cv] 39)) _ (n := w.heap.size + 1 + 1) (by simp)) (fun h => h)
  obtain ⟨C8, hC8⟩ : ∃ C8 : Array Value, C8 = #[.int .i64 0, .int .i64 0, .int .i64 0, .int .i64 1, .int .i64 0, .int .i64 1, .int .i64 1, .int .i64 0, .int .i64 0, .int .i64 1, .int .i64 1, .int .i64 0, .int .i64 1, .int .i64 1, .int .i64 2, .int .i64 0, .int .i64 0, .int .i64 1, .int .i64 0, .int .i64 0, .int .i64 0, .int .i64 0, .int .i64 0, .int .i64 0, .int .i64 1, .int .i64 0, .int .i64 0, .int .i64 0, .int .i64 1, .int .i64 1, .int .i64 0, .int .i64 0, .int .i64 0, .int .i64 0, .int .i64 0, .int .i64 0, .int .i64 0, .int .i64 0, .int .i64 0, .int .i64 0, .int .i64 0, .int .i64 0, .int .i64 0, .int .i64 0, .int .i64 0, .int .i64 0, .int .i64 0, .int .i64 0, .int .i64 0, .int .i64 0, .int .i64 0, .int .i64 0, .int .i64 1, .int .i64 1, .int .i64 0, .int .i64 0, .int .i64 0, .int .i64 0, .int .i64 1, .int .i64 1, .int .i64 1, .int .i64 0, .int .i64 1, .int .i64 2] := ⟨_, rfl⟩
  have hs8 : C8.size = 64 := by rw [hC8]; rfl
  have ho8 : C8.all (·.oneCell') = true := by rw [hC8]; kernel_rfl
  have hst : Sem.run Tryd.prog (storeCells ⟨w.heap.size + 1 + 1 + 1, 0, none⟩ C8.toList 0) ((((w.alloc (.cells #[.slice xa c.fields.length ca, .int .i64 c.glob, .slice xf c.funcs.length cf] 25)).alloc (.cells #[.string f.name, .int .i64 f.params, .int .i64 f.locals, .bool f.result, .slice xv f.code.length cv] 39)).alloc (.cells #[.int .i64 24, .int .i64 x] 46)).alloc (.cells #[.int .i64 0, .int .i64 0, .int .i64 0, .int .i64 0, .int .i64 0, .int .i64 0, .int .i64 0, .int .i64 0, .int .i64 0, .int .i64 0, .int .i64 0, .int .i64 0, .int .i64 0, .int .i64 0, .int .i64 0, .int .i64 0, .int .i64 0, .int .i64 0, .int .i64 0, .int .i64 0, .int .i64 0, .int .i64 0, .int .i64 0, .int .i64 0, .int .i64 0, .int .i64 0, .int .i64 0, .int .i64 0, .int .i64 0, .int .i64 0, .int .i64 0, .int .i64 0, .int .i64 0, .int .i64 0, .int .i64 0, .int .i64 0, .int .i64 0, .int .i64 0, .int .i64 0, .int .i64 0, .int .i64 0, .int .i64 0, .int .i64 0, .int .i64 0, .int .i64 0, .int .i64 0, .int .i64 0, .int .i64 0, .int .i64 0, .int .i64 0, .int .i64 0, .int .i64 0, .int .i64 0, .int .i64 0, .int .i64 0, .int .i64 0, .int .i64 0, .int .i64 0, .int .i64 0, .int .i64 0, .int .i64 0, .int .i64 0, .int .i64 0, .int .i64 0] 80)) = .ok () ((((w.alloc (.cells #[.slice xa c.fields.length ca, .int .i64 c.glob, .slice xf c.funcs.length cf] 25)).alloc (.cells #[.string f.name, .int .i64 f.params, .int .i64 f.locals, .bool f.result, .slice xv f.code.length cv] 39)).alloc (.cells #[.int .i64 24, .int .i64 x] 46)).alloc (.cells C8 80)) := by
    have q := run_storeCells_new (P := Tryd.prog) (((w.alloc (.cells #[.slice xa c.fields.length ca, .int .i64 c.glob, .slice xf c.funcs.length cf] 25)).alloc (.cells #[.string f.name, .int .i64 f.params, .int .i64 f.locals, .bool f.result, .slice xv f.code.length cv] 39)).alloc (.cells #[.int .i64 24, .int .i64 x] 46)) 80 #[.int .i64 0, .int .i64 0, .int .i64 0, .int .i64 0, .int .i64 0, .int .i64 0, .int .i64 0, .int .i64 0, .int .i64 0, .int .i64 0, .int .i64 0, .int .i64 0, .int .i64 0, .int .i64 0, .int .i64 0, .int .i64 0, .int .i64 0, .int .i64 0, .int .i64 0, .int .i64 0, .int .i64 0, .int .i64 0, .int .i64 0, .int .i64 0, .int .i64 0, .int .i64 0, .int .i64 0, .int .i64 0, .int .i64 0, .int .i64 0, .int .i64 0, .int .i64 0, .int .i64 0, .int .i64 0, .int .i64 0, .int .i64 0, .int .i64 0, .int .i64 0, .int .i64 0, .int .i64 0, .int .i64 0, .int .i64 0, .int .i64 0, .int .i64 0, .int .i64 0, .int .i64 0, .int .i64 0, .int .i64 0, .int .i64 0, .int .i64 0, .int .i64 0, .int .i64 0, .int .i64 0, .int .i64 0, .int .i64 0, .int .i64 0, .int .i64 0, .int .i64 0, .int .i64 0, .int .i64 0, .int .i64 0, .int .i64 0, .int .i64 0, .int .i64 0] C8 (by rw [hs8]; kernel_rfl) (by rw [hs8]; rfl) ho8
    simp only [alloc_size] at q
    exact q
  have HC8 := Lib.hid hC8
  clear hC8 ho8
  have hm : mvP c f 24 x = (2, 1) := by unfold mvP; simp
  rw [hm]
  dsimp only
  clear h hf hxv hm
  go_enter Tryd.func34, Tryd.ntmps34
  go_wp2_with (with_reducible (refine stop_at (o := ⟨some 25, _, _, _, _, _⟩) ?_))
  refine Stop.go ?_
  refine wpList_run rfl (v := .agg C8) ?_ ?_
  · rw [HC8.out]; kernel_rfl
  go_wp2_with fail
  go_ret2
  exact ⟨rfl, by first | exact HE3.out.ext HE6.out | exact HE3.out.alloc _⟩


end Go.Proofs.YtlbnilhbfiidmaaDoor
