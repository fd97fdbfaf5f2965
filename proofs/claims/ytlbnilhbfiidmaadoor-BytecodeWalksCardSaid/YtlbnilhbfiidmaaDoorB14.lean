/- moves. -/
import Derived.Test.YtlbnilhbfiidmaaDoorB11
import Derived.Test.YtlbnilhbfiidmaaDoorB12
import Derived.Test.YtlbnilhbfiidmaaDoorB13
namespace Go.Proofs.YtlbnilhbfiidmaaDoor
open Go.RowKit Go.Hw
set_option linter.unusedVariables false
set_option linter.unusedSimpArgs false
set_option maxRecDepth 100000 in
set_option maxHeartbeats 4000000 in
theorem moves_25 (a fv : Value) (c : Cd) (f : Fn) (x : Int) (w : World) (h : CdR w a fv c) (hf : FnR w f) : Calls Tryd.prog 34 #[.agg #[a, .int .i64 c.glob, fv], .agg #[.string f.name, .int .i64 f.params, .int .i64 f.locals, .bool f.result, f.v], .agg #[.int .i64 25, .int .i64 x]] w fun e w' => e = .returned (.tuple #[.int .i64 (mvP c f 25 x).1, .int .i64 (mvP c f 25 x).2]) ∧ Ext w w' := by
  obtain ⟨⟨xa, ca, rfl⟩, xf, cf, rfl⟩ := h.shapes
  obtain ⟨xv, cv, hxv⟩ := hf.shape
  rw [hxv]
  have hl1 := h.l1
  have hl2 := h.l2
  have hl3 := hf.len
  have HE3 : Hid (Ext w (((w.alloc (.cells #[.slice xa c.fields.length ca, .int .i64 c.glob, .slice xf c.funcs.length cf] 25)).alloc (.cells #[.string f.name, .int .i64 f.params, .int .i64 f.locals, .bool f.result, .slice xv f.code.length cv] 39)).alloc (.cells #[.int .i64 25, .int .i64 x] 46))) := (((Upd.refl _ w).alloc _).alloc _).alloc _
  have HXA : Hid (∀ W, Ext (((w.alloc (.cells #[.slice xa c.fields.length ca, .int .i64 c.glob, .slice xf c.funcs.length cf] 25)).alloc (.cells #[.string f.name, .int .i64 f.params, .int .i64 f.locals, .bool f.result, .slice xv f.code.length cv] 39)).alloc (.cells #[.int .i64 25, .int .i64 x] 46)) W → W.heap[w.heap.size]? = some (.cells #[.slice xa c.fields.length ca, .int .i64 c.glob, .slice xf c.funcs.length cf] 25)) := fun W hW => hW.heap (allocOld (allocOld (alloc0 w _) _) _) (fun h => h)
  have HXF : Hid (∀ W, Ext (((w.alloc (.cells #[.slice xa c.fields.length ca, .int .i64 c.glob, .slice xf c.funcs.length cf] 25)).alloc (.cells #[.string f.name, .int .i64 f.params, .int .i64 f.locals, .bool f.result, .slice xv f.code.length cv] 39)).alloc (.cells #[.int .i64 25, .int .i64 x] 46)) W → W.heap[w.heap.size + 1]? = some (.cells #[.string f.name, .int .i64 f.params, .int .i64 f.locals, .bool f.result, .slice xv f.code.length cv] 39)) := fun W hW => hW.heap (allocOld (alloc_at (w.alloc (.cells #[.slice xa c.fields.length ca, .int .i64 c.glob, .slice xf c.funcs.length cf] 25)) _ (n := w.heap.size + 1) (by simp)) _) (fun h => h)
  have HXI : Hid (∀ W, Ext (((w.alloc (.cells #[.slice xa c.fields.length ca, .int .i64 c.glob, .slice xf c.funcs.length cf] 25)).alloc (.cells #[.string f.name, .int .i64 f.params, .int .i64 f.locals, .bool f.result, .slice xv f.code.length cv] 39)).alloc (.cells #[.int .i64 25, .int .i64 x] 46)) W → W.heap[w.heap.size + 1 + 1]? = some (.cells #[.int .i64 25, .int .i64 x] 46)) := fun W hW => hW.heap (alloc_at ((w.alloc (.cells #[.slice xa c.fields.length ca, .int .i64 c.glob, .slice xf c.funcs.length cf] 25)).alloc (.cells #[.string f.name, .int .i64 f.params, .int .i64 f.locals, .bool f.result, .slice xv f.code.length cv] 39)) _ (n := w.heap.size + 1 + 1) (by simp)) (fun h => h)
  obtain ⟨C8, hC8⟩ : ∃ C8 : Array Value, C8 = #[.int .i64 0, .int .i64 0, .int .i64 0, .int .i64 1, .int .i64 0, .int .i64 1, .int .i64 1, .int .i64 0, .int .i64 0, .int .i64 1, .int .i64 1, .int .i64 0, .int .i64 1, .int .i64 1, .int .i64 2, .int .i64 0, .int .i64 0, .int .i64 1, .int .i64 0, .int .i64 0, .int .i64 0, .int .i64 0, .int .i64 0, .int .i64 0, .int .i64 1, .int .i64 0, .int .i64 0, .int .i64 0, .int .i64 1, .int .i64 1, .int .i64 0, .int .i64 0, .int .i64 0, .int .i64 0, .int .i64 0, .int .i64 0, .int .i64 0, .int .i64 0, .int .i64 0, .int .i64 0, .int .i64 0, .int .i64 0, .int .i64 0, .int .i64 0, .int .i64 0, .int .i64 0, .int .i64 0, .int .i64 0, .int .i64 0, .int .i64 0, .int .i64 0, .int .i64 0, .int .i64 1, .int .i64 1, .int .i64 0, .int .i64 0, .int .i64 0, .int .i64 0, .int .i64 1, .int .i64 1, .int .i64 1, .int .i64 0, .int .i64 1, .int .i64 2] := ⟨_, rfl⟩
  have hs8 : C8.size = 64 := by rw [hC8]; rfl
  have ho8 : C8.all (·.oneCell') = true := by rw [hC8]; kernel_rfl
  have hst : Sem.run Tryd.prog (storeCells ⟨w.heap.size + 1 + 1 + 1, 0, none⟩ C8.toList 0) ((((w.alloc (.cells #[.slice xa c.fields.length ca, .int .i64 c.glob, .slice xf c.funcs.length cf] 25)).alloc (.cells #[.string f.name, .int .i64 f.params, .int .i64 f.locals, .bool f.result, .slice xv f.code.length cv] 39)).alloc (.cells #[.int .i64 25, .int .i64 x] 46)).alloc (.cells #[.int .i64 0, .int .i64 0, .int .i64 0, .int .i64 0, .int .i64 0, .int .i64 0, .int .i64 0, .int .i64 0, .int .i64 0, .int .i64 0, .int .i64 0, .int .i64 0, .int .i64 0, .int .i64 0, .int .i64 0, .int .i64 0, .int .i64 0, .int .i64 0, .int .i64 0, .int .i64 0, .int .i64 0, .int .i64 0, .int .i64 0, .int .i64 0, .int .i64 0, .int .i64 0, .int .i64 0, .int .i64 0, .int .i64 0, .int .i64 0, .int .i64 0, .int .i64 0, .int .i64 0, .int .i64 0, .int .i64 0, .int .i64 0, .int .i64 0, .int .i64 0, .int .i64 0, .int .i64 0, .int .i64 0, .int .i64 0, .int .i64 0, .int .i64 0, .int .i64 0, .int .i64 0, .int .i64 0, .int .i64 0, .int .i64 0, .int .i64 0, .int .i64 0, .int .i64 0, .int .i64 0, .int .i64 0, .int .i64 0, .int .i64 0, .int .i64 0, .int .i64 0, .int .i64 0, .int .i64 0, .int .i64 0, .int .i64 0, .int .i64 0, .int .i64 0] 80)) = .ok () ((((w.alloc (.cells #[.slice xa c.fields.length ca, .int .i64 c.glob, .slice xf c.funcs.length cf] 25)).alloc (.cells #[.string f.name, .int .i64 f.params, .int .i64 f.locals, .bool f.result, .slice xv f.code.length cv] 39)).alloc (.cells #[.int .i64 25, .int .i64 x] 46)).alloc (.cells C8 80)) := by
    have q := run_storeCells_new (P := Tryd.prog) (((w.alloc (.cells #[.slice xa c.fields.length ca, .int .i64 c.glob, .slice xf c.funcs.length cf] 25)).alloc (.cells #[.string f.name, .int .i64 f.params, .int .i64 f.locals, .bool f.result, .slice xv f.code.length cv] 39)).alloc (.cells #[.int .i64 25, .int .i64 x] 46)) 80 #[.int .i64 0, .int .i64 0, .int .i64 0, .int .i64 0, .int .i64 0, .int .i64 0, .int .i64 0, .int .i64 0, .int .i64 0, .int .i64 0, .int .i64 0, .int .i64 0, .int .i64 0, .int .i64 0, .int .i64 0, .int .i64 0, .int .i64 0, .int .i64 0, .int .i64 0, .int .i64 0, .int .i64 0, .int .i64 0, .int .i64 0, .int .i64 0, .int .i64 0, .int .i64 0, .int .i64 0, .int .i64 0, .int .i64 0, .int .i64 0, .int .i64 0, .int .i64 0, .int .i64 0, .int .i64 0, .int .i64 0, .int .i64 0, .int .i64 0, .int .i64 0, .int .i64 0, .int .i64 0, .int .i64 0, .int .i64 0, .int .i64 0, .int .i64 0, .int .i64 0, .int .i64 0, .int .i64 0, .int .i64 0, .int .i64 0, .int .i64 0, .int .i64 0, .int .i64 0, .int .i64 0, .int .i64 0, .int .i64 0, .int .i64 0, .int .i64 0, .int .i64 0, .int .i64 0, .int .i64 0, .int .i64 0, .int .i64 0, .int .i64 0, .int .i64 0] C8 (by rw [hs8]; kernel_rfl) (by rw [hs8]; rfl) ho8
    simp only [alloc_size] at q
    exact q
  have HC8 := Lib.hid hC8
  clear hC8 ho8
  have hm : mvP c f 25 x = (2, 1) := by unfold mvP; simp
  rw [hm]
  dsimp only
  clear h hf hxv hm
  go_enter Tryd.func34, Tryd.ntmps34
  go_wp2_with (with_reducible (refine stop_at (o := ⟨some 25, _, _, _, _, _⟩) ?_))
  refine Stop.go ?_
  refine wpList_run rfl (v := .agg C8) ?_ ?_
  · rw [HC8.out]; kernel_rfl
  go_wp2_with fail
  go_ret2
  exact ⟨rfl, by first | exact HE3.out.ext HE6.out | exact HE3.out.alloc _⟩

set_option maxRecDepth 100000 in
set_option maxHeartbeats 4000000 in
theorem moves_26 (a fv : Value) (c : Cd) (f : Fn) (x : Int) (w : World) (h : CdR w a fv c) (hf : FnR w f) : Calls Tryd.prog 34 #[.agg #[a, .int .i64 c.glob, fv], .agg #[.string f.name, .int .i64 f.params, .int .i64 f.locals, .bool f.result, f.v], .agg #[.int .i64 26, .int .i64 x]] w fun e w' => e = .returned (.tuple #[.int .i64 (mvP c f 26 x).1, .int .i64 (mvP c f 26 x).2]) ∧ Ext w w' := by
  obtain ⟨⟨xa, ca, rfl⟩, xf, cf, rfl⟩ := h.shapes
  obtain ⟨xv, cv, hxv⟩ := hf.shape
  rw [hxv]
  have hl1 := h.l1
  have hl2 := h.l2
  have hl3 := hf.len
  have HE3 : Hid (Ext w (((w.alloc (.cells #[.slice xa c.fields.length ca, .int .i64 c.glob, .slice xf c.funcs.length cf] 25)).alloc (.cells #[.string f.name, .int .i64 f.params, .int .i64 f.locals, .bool f.result, .slice xv f.code.length cv] 39)).alloc (.cells #[.int .i64 26, .int .i64 x] 46))) := (((Upd.refl _ w).alloc _).alloc _).alloc _
  have HXA : Hid (∀ W, Ext (((w.alloc (.cells #[.slice xa c.fields.length ca, .int .i64 c.glob, .slice xf c.funcs.length cf] 25)).alloc (.cells #[.string f.name, .int .i64 f.params, .int .i64 f.locals, .bool f.result, .slice xv f.code.length cv] 39)).alloc (.cells #[.int .i64 26, .int .i64 x] 46)) W → W.heap[w.heap.size]? = some (.cells #[.slice xa c.fields.length ca, .int .i64 c.glob, .slice xf c.funcs.length cf] 25)) := fun W hW => hW.heap (allocOld (allocOld (alloc0 w _) _) _) (fun h => h)
  have HXF : Hid (∀ W, Ext (((w.alloc (.cells #[.slice xa c.fields.length ca, .int .i64 c.glob, .slice xf c.funcs.length cf] 25)).alloc (.cells #[.string f.name, .int .i64 f.params, .int .i64 f.locals, .bool f.result, .slice xv f.code.length cv] 39)).alloc (.cells #[.int .i64 26, .int .i64 x] 46)) W → W.heap[w.heap.size + 1]? = some (.cells #[.string f.name, .int .i64 f.params, .int .i64 f.locals, .bool f.result, .slice xv f.code.length cv] 39)) := fun W hW => hW.heap (allocOld (alloc_at (w.alloc (.cells #[.slice xa c.fields.length ca, .int .i64 c.glob, .slice xf c.funcs.length cf] 25)) _ (n := w.heap.size + 1) (by simp)) _) (fun h => h)
  have HXI : Hid (∀ W, Ext (((w.alloc (.cells #[.slice xa c.fields.length ca, .int .i64 c.glob, .slice xf c.funcs.length cf] 25)).alloc (.cells #[.string f.name, .int .i64 f.params, .int .i64 f.locals, .bool f.result, .slice xv f.code.length cv] 39)).alloc (.cells #[.int .i64 26, .int .i64 x] 46)) W → W.heap[w.heap.size + 1 + 1]? = some (.cells #[.int .i64 26, .int .i64 x] 46)) := fun W hW => hW.heap (alloc_at ((w.alloc (.cells #[.slice xa c.fields.length ca, .int .i64 c.glob, .slice xf c.funcs.length cf] 25)).alloc (.cells #[.string f.name, .int .i64 f.params, .int .i64 f.locals, .bool f.result, .slice xv f.code.length cv] 39)) _ (n := w.heap.size + 1 + 1) (by simp)) (fun h => h)
  obtain ⟨C8, hC8⟩ : ∃ C8 : Array Value, C8 = #[.int .i64 0, .int .i64 0, .int .i64 0, .int .i64 1, .int .i64 0, .int .i64 1, .int .i64 1, .int .i64 0, .int .i64 0, .int .i64 1, .int .i64 1, .int .i64 0, .int .i64 1, .int .i64 1, .int .i64 2, .int .i64 0, .int .i64 0, .int .i64 1, .int .i64 0, .int .i64 0, .int .i64 0, .int .i64 0, .int .i64 0, .int .i64 0, .int .i64 1, .int .i64 0, .int .i64 0, .int .i64 0, .int .i64 1, .int .i64 1, .int .i64 0, .int .i64 0, .int .i64 0, .int .i64 0, .int .i64 0, .int .i64 0, .int .i64 0, .int .i64 0, .int .i64 0, .int .i64 0, .int .i64 0, .int .i64 0, .int .i64 0, .int .i64 0, .int .i64 0, .int .i64 0, .int .i64 0, .int .i64 0, .int .i64 0, .int .i64 0, .int .i64 0, .int .i64 0, .int .i64 1, .int .i64 1, .int .i64 0, .int .i64 0, .int .i64 0, .int .i64 0, .int .i64 1, .int .i64 1, .int .i64 1, .int .i64 0, .int .i64 1, .int .i64 2] := ⟨_, rfl⟩
  have hs8 : C8.size = 64 := by rw [hC8]; rfl
  have ho8 : C8.all (·.oneCell') = true := by rw [hC8]; kernel_rfl
  have ha8 : C8[52]? = some (.int .i64 1) := by rw [hC8]; rfl
  have hb8 : C8[53]? = some (.int .i64 1) := by rw [hC8]; rfl
  have HEQ : Hid (Ext (((w.alloc (.cells #[.slice xa c.fields.length ca, .int .i64 c.glob, .slice xf c.funcs.length cf] 25)).alloc (.cells #[.string f.name, .int .i64 f.params, .int .i64 f.locals, .bool f.result, .slice xv f.code.length cv] 39)).alloc (.cells #[.int .i64 26, .int .i64 x] 46)) ((((w.alloc (.cells #[.slice xa c.fields.length ca, .int .i64 c.glob, .slice xf c.funcs.length cf] 25)).alloc (.cells #[.string f.name, .int .i64 f.params, .int .i64 f.locals, .bool f.result, .slice xv f.code.length cv] 39)).alloc (.cells #[.int .i64 26, .int .i64 x] 46)).alloc (.cells C8 80))) := (Upd.refl _ _).alloc _
  have hA0 : ∀ y : XW ((((w.alloc (.cells #[.slice xa c.fields.length ca, .int .i64 c.glob, .slice xf c.funcs.length cf] 25)).alloc (.cells #[.string f.name, .int .i64 f.params, .int .i64 f.locals, .bool f.result, .slice xv f.code.length cv] 39)).alloc (.cells #[.int .i64 26, .int .i64 x] 46)).alloc (.cells C8 80)), y.val.cell? ⟨w.heap.size + 1 + 1 + 1, 52, none⟩ = some (.int .i64 1) := fun y => cellRow (ext_heap8 y.ext (alloc_at (((w.alloc (.cells #[.slice xa c.fields.length ca, .int .i64 c.glob, .slice xf c.funcs.length cf] 25)).alloc (.cells #[.string f.name, .int .i64 f.params, .int .i64 f.locals, .bool f.result, .slice xv f.code.length cv] 39)).alloc (.cells #[.int .i64 26, .int .i64 x] 46)) _ (by simp))) _ _ ha8
  have hA1 : ∀ y : XW ((((w.alloc (.cells #[.slice xa c.fields.length ca, .int .i64 c.glob, .slice xf c.funcs.length cf] 25)).alloc (.cells #[.string f.name, .int .i64 f.params, .int .i64 f.locals, .bool f.result, .slice xv f.code.length cv] 39)).alloc (.cells #[.int .i64 26, .int .i64 x] 46)).alloc (.cells C8 80)), y.val.cell? ⟨w.heap.size + 1 + 1 + 1, 53, none⟩ = some (.int .i64 1) := fun y => cellRow (ext_heap8 y.ext (alloc_at (((w.alloc (.cells #[.slice xa c.fields.length ca, .int .i64 c.glob, .slice xf c.funcs.length cf] 25)).alloc (.cells #[.string f.name, .int .i64 f.params, .int .i64 f.locals, .bool f.result, .slice xv f.code.length cv] 39)).alloc (.cells #[.int .i64 26, .int .i64 x] 46)) _ (by simp))) _ _ hb8
  have hI0 : ∀ y : XW ((((w.alloc (.cells #[.slice xa c.fields.length ca, .int .i64 c.glob, .slice xf c.funcs.length cf] 25)).alloc (.cells #[.string f.name, .int .i64 f.params, .int .i64 f.locals, .bool f.result, .slice xv f.code.length cv] 39)).alloc (.cells #[.int .i64 26, .int .i64 x] 46)).alloc (.cells C8 80)), y.val.cell? ⟨w.heap.size + 1 + 1, 0, none⟩ = some (.int .i64 26) := fun y => cellRow (HXI.out _ (HEQ.out.ext y.ext)) 0 _ rfl
  have hrf : Ext ((((w.alloc (.cells #[.slice xa c.fields.length ca, .int .i64 c.glob, .slice xf c.funcs.length cf] 25)).alloc (.cells #[.string f.name, .int .i64 f.params, .int .i64 f.locals, .bool f.result, .slice xv f.code.length cv] 39)).alloc (.cells #[.int .i64 26, .int .i64 x] 46)).alloc (.cells C8 80)) ((((w.alloc (.cells #[.slice xa c.fields.length ca, .int .i64 c.glob, .slice xf c.funcs.length cf] 25)).alloc (.cells #[.string f.name, .int .i64 f.params, .int .i64 f.locals, .bool f.result, .slice xv f.code.length cv] 39)).alloc (.cells #[.int .i64 26, .int .i64 x] 46)).alloc (.cells C8 80)) := Upd.refl _ _
  clear ha8 hb8
  have hst : Sem.run Tryd.prog (storeCells ⟨w.heap.size + 1 + 1 + 1, 0, none⟩ C8.toList 0) ((((w.alloc (.cells #[.slice xa c.fields.length ca, .int .i64 c.glob, .slice xf c.funcs.length cf] 25)).alloc (.cells #[.string f.name, .int .i64 f.params, .int .i64 f.locals, .bool f.result, .slice xv f.code.length cv] 39)).alloc (.cells #[.int .i64 26, .int .i64 x] 46)).alloc (.cells #[.int .i64 0, .int .i64 0, .int .i64 0, .int .i64 0, .int .i64 0, .int .i64 0, .int .i64 0, .int .i64 0, .int .i64 0, .int .i64 0, .int .i64 0, .int .i64 0, .int .i64 0, .int .i64 0, .int .i64 0, .int .i64 0, .int .i64 0, .int .i64 0, .int .i64 0, .int .i64 0, .int .i64 0, .int .i64 0, .int .i64 0, .int .i64 0, .int .i64 0, .int .i64 0, .int .i64 0, .int .i64 0, .int .i64 0, .int .i64 0, .int .i64 0, .int .i64 0, .int .i64 0, .int .i64 0, .int .i64 0, .int .i64 0, .int .i64 0, .int .i64 0, .int .i64 0, .int .i64 0, .int .i64 0, .int .i64 0, .int .i64 0, .int .i64 0, .int .i64 0, .int .i64 0, .int .i64 0, .int .i64 0, .int .i64 0, .int .i64 0, .int .i64 0, .int .i64 0, .int .i64 0, .int .i64 0, .int .i64 0, .int .i64 0, .int .i64 0, .int .i64 0, .int .i64 0, .int .i64 0, .int .i64 0, .int .i64 0, .int .i64 0, .int .i64 0] 80)) = .ok () ((((w.alloc (.cells #[.slice xa c.fields.length ca, .int .i64 c.glob, .slice xf c.funcs.length cf] 25)).alloc (.cells #[.string f.name, .int .i64 f.params, .int .i64 f.locals, .bool f.result, .slice xv f.code.length cv] 39)).alloc (.cells #[.int .i64 26, .int .i64 x] 46)).alloc (.cells C8 80)) := by
    have q := run_storeCells_new (P := Tryd.prog) (((w.alloc (.cells #[.slice xa c.fields.length ca, .int .i64 c.glob, .slice xf c.funcs.length cf] 25)).alloc (.cells #[.string f.name, .int .i64 f.params, .int .i64 f.locals, .bool f.result, .slice xv f.code.length cv] 39)).alloc (.cells #[.int .i64 26, .int .i64 x] 46)) 80 #[.int .i64 0, .int .i64 0, .int .i64 0, .int .i64 0, .int .i64 0, .int .i64 0, .int .i64 0, .int .i64 0, .int .i64 0, .int .i64 0, .int .i64 0, .int .i64 0, .int .i64 0, .int .i64 0, .int .i64 0, .int .i64 0, .int .i64 0, .int .i64 0, .int .i64 0, .int .i64 0, .int .i64 0, .int .i64 0, .int .i64 0, .int .i64 0, .int .i64 0, .int .i64 0, .int .i64 0, .int .i64 0, .int .i64 0, .int .i64 0, .int .i64 0, .int .i64 0, .int .i64 0, .int .i64 0, .int .i64 0, .int .i64 0, .int .i64 0, .int .i64 0, .int .i64 0, .int .i64 0, .int .i64 0, .int .i64 0, .int .i64 0, .int .i64 0, .int .i64 0, .int .i64 0, .int .i64 0, .int .i64 0, .int .i64 0, .int .i64 0, .int .i64 0, .int .i64 0, .int .i64 0, .int .i64 0, .int .i64 0, .int .i64 0, .int .i64 0, .int .i64 0, .int .i64 0, .int .i64 0, .int .i64 0, .int .i64 0, .int .i64 0, .int .i64 0] C8 (by rw [hs8]; kernel_rfl) (by rw [hs8]; rfl) ho8
    simp only [alloc_size] at q
    exact q
  have HC8 := Lib.hid hC8
  clear hC8 ho8
  have hm : mvP c f 26 x = (1, 1) := by unfold mvP; simp
  rw [hm]
  dsimp only
  clear h hf hxv hm
  go_enter Tryd.func34, Tryd.ntmps34
  go_wp2_with (with_reducible (refine stop_at (o := ⟨some 25, _, _, _, _, _⟩) ?_))
  refine Stop.go ?_
  refine wpList_run rfl (v := .agg C8) ?_ ?_
  · rw [HC8.out]; kernel_rfl
  go_wp2_with fail
  refine wp_region_ext _ (by assumption) (by kernel_rfl) (by kernel_rfl) ?_
  repeat (first | go_big_quiet_skip | (go_big_quiet_want; go_big_quiet_op; first | go_big_quiet_on | (apply Exists.intro; refine ⟨fun x => ?_, ?_⟩; (fail); go_big_quiet_on)))
  refine wpQuiet_nil ?_
  rintro w6 ⟨⟨_, hyw6⟩, rfl⟩
  try dsimp only
  have HE6 := Lib.hid (HEQ.out.ext hyw6)
  clear hrf hyw6
  go_wp2_with fail
  go_ret2
  exact ⟨rfl, by first | exact HE3.out.ext HE6.out | exact HE3.out.alloc _⟩

set_option maxRecDepth 100000 in
set_option maxHeartbeats 4000000 in
theorem moves_27 (a fv : Value) (c : Cd) (f : Fn) (x : Int) (w : World) (h : CdR w a fv c) (hf : FnR w f) : Calls Tryd.prog 34 #[.agg #[a, .int .i64 c.glob, fv], .agg #[.string f.name, .int .i64 f.params, .int .i64 f.locals, .bool f.result, f.v], .agg #[.int .i64 27, .int .i64 x]] w fun e w' => e = .returned (.tuple #[.int .i64 (mvP c f 27 x).1, .int .i64 (mvP c f 27 x).2]) ∧ Ext w w' := by
  obtain ⟨⟨xa, ca, rfl⟩, xf, cf, rfl⟩ := h.shapes
  obtain ⟨xv, cv, hxv⟩ := hf.shape
  rw [hxv]
  have hl1 := h.l1
  have hl2 := h.l2
  have hl3 := hf.len
  have HE3 : Hid (Ext w (((w.alloc (.cells #[.slice xa c.fields.length ca, .int .i64 c.glob, .slice xf c.funcs.length cf] 25)).alloc (.cells #[.string f.name, .int .i64 f.params, .int .i64 f.locals, .bool f.result, .slice xv f.code.length cv] 39)).alloc (.cells #[.int .i64 27, .int .i64 x] 46))) := (((Upd.refl _ w).alloc _).alloc _).alloc _
  have HXA : Hid (∀ W, Ext (((w.alloc (.cells #[.slice xa c.fields.length ca, .int .i64 c.glob, .slice xf c.funcs.length cf] 25)).alloc (.cells #[.string f.name, .int .i64 f.params, .int .i64 f.locals, .bool f.result, .slice xv f.code.length cv] 39)).alloc (.cells #[.int .i64 27, .int .i64 x] 46)) W → W.heap[w.heap.size]? = some (.cells #[.slice xa c.fields.length ca, .int .i64 c.glob, .slice xf c.funcs.length cf] 25)) := fun W hW => hW.heap (allocOld (allocOld (alloc0 w _) _) _) (fun h => h)
  have HXF : Hid (∀ W, Ext (((w.alloc (.cells #[.slice xa c.fields.length ca, .int .i64 c.glob, .slice xf c.funcs.length cf] 25)).alloc (.cells #[.string f.name, .int .i64 f.params, .int .i64 f.locals, .bool f.result, .slice xv f.code.length cv] 39)).alloc (.cells #[.int .i64 27, .int .i64 x] 46)) W → W.heap[w.heap.size + 1]? = some (.cells #[.string f.name, .int .i64 f.params, .int .i64 f.locals, .bool f.result, .slice xv f.code.length cv] 39)) := fun W hW => hW.heap (allocOld (alloc_at (w.alloc (.cells #[.slice xa c.fields.length ca, .int .i64 c.glob, .slice xf c.funcs.length cf] 25)) _ (n := w.heap.size + 1) (by simp)) _) (fun h => h)
  have HXI : Hid (∀ W, Ext (((w.alloc (.cells #[.slice xa c.fields.length ca, .int .i64 c.glob, .slice xf c.funcs.length cf] 25)).alloc (.cells #[.string f.name, .int .i64 f.params, .int .i64 f.locals, .bool f.result, .slice xv f.code.length cv] 39)).alloc (.cells #[.int .i64 27, .int .i64 x] 46)) W → W.heap[w.heap.size + 1 + 1]? = some (.cells #[.int .i64 27, .int .i64 x] 46)) := fun W hW => hW.heap (alloc_at ((w.alloc (.cells #[.slice xa c.fields.length ca, .int .i64 c.glob, .slice xf c.funcs.length cf] 25)).alloc (.cells #[.string f.name, .int .i64 f.params, .int .i64 f.locals, .bool f.result, .slice xv f.code.length cv] 39)) _ (n := w.heap.size + 1 + 1) (by simp)) (fun h => h)
  obtain ⟨C8, hC8⟩ : ∃ C8 : Array Value, C8 = #[.int .i64 0, .int .i64 0, .int .i64 0, .int .i64 1, .int .i64 0, .int .i64 1, .int .i64 1, .int .i64 0, .int .i64 0, .int .i64 1, .int .i64 1, .int .i64 0, .int .i64 1, .int .i64 1, .int .i64 2, .int .i64 0, .int .i64 0, .int .i64 1, .int .i64 0, .int .i64 0, .int .i64 0, .int .i64 0, .int .i64 0, .int .i64 0, .int .i64 1, .int .i64 0, .int .i64 0, .int .i64 0, .int .i64 1, .int .i64 1, .int .i64 0, .int .i64 0, .int .i64 0, .int .i64 0, .int .i64 0, .int .i64 0, .int .i64 0, .int .i64 0, .int .i64 0, .int .i64 0, .int .i64 0, .int .i64 0, .int .i64 0, .int .i64 0, .int .i64 0, .int .i64 0, .int .i64 0, .int .i64 0, .int .i64 0, .int .i64 0, .int .i64 0, .int .i64 0, .int .i64 1, .int .i64 1, .int .i64 0, .int .i64 0, .int .i64 0, .int .i64 0, .int .i64 1, .int .i64 1, .int .i64 1, .int .i64 0, .int .i64 1, .int .i64 2] := ⟨_, rfl⟩
  have hs8 : C8.size = 64 := by rw [hC8]; rfl
  have ho8 : C8.all (·.oneCell') = true := by rw [hC8]; kernel_rfl
  have hst : Sem.run Tryd.prog (storeCells ⟨w.heap.size + 1 + 1 + 1, 0, none⟩ C8.toList 0) ((((w.alloc (.cells #[.slice xa c.fields.length ca, .int .i64 c.glob, .slice xf c.funcs.length cf] 25)).alloc (.cells #[.string f.name, .int .i64 f.params, .int .i64 f.locals, .bool f.result, .slice xv f.code.length cv] 39)).alloc (.cells #[.int .i64 27, .int .i64 x] 46)).alloc (.cells #[.int .i64 0, .int .i64 0, .int .i64 0, .int .i64 0, .int .i64 0, .int .i64 0, .int .i64 0, .int .i64 0, .int .i64 0, .int .i64 0, .int .i64 0, .int .i64 0, .int .i64 0, .int .i64 0, .int .i64 0, .int .i64 0, .int .i64 0, .int .i64 0, .int .i64 0, .int .i64 0, .int .i64 0, .int .i64 0, .int .i64 0, .int .i64 0, .int .i64 0, .int .i64 0, .int .i64 0, .int .i64 0, .int .i64 0, .int .i64 0, .int .i64 0, .int .i64 0, .int .i64 0, .int .i64 0, .int .i64 0, .int .i64 0, .int .i64 0, .int .i64 0, .int .i64 0, .int .i64 0, .int .i64 0, .int .i64 0, .int .i64 0, .int .i64 0, .int .i64 0, .int .i64 0, .int .i64 0, .int .i64 0, .int .i64 0, .int .i64 0, .int .i64 0, .int .i64 0, .int .i64 0, .int .i64 0, .int .i64 0, .int .i64 0, .int .i64 0, .int .i64 0, .int .i64 0, .int .i64 0, .int .i64 0, .int .i64 0, .int .i64 0, .int .i64 0] 80)) = .ok () ((((w.alloc (.cells #[.slice xa c.fields.length ca, .int .i64 c.glob, .slice xf c.funcs.length cf] 25)).alloc (.cells #[.string f.name, .int .i64 f.params, .int .i64 f.locals, .bool f.result, .slice xv f.code.length cv] 39)).alloc (.cells #[.int .i64 27, .int .i64 x] 46)).alloc (.cells C8 80)) := by
    have q := run_storeCells_new (P := Tryd.prog) (((w.alloc (.cells #[.slice xa c.fields.length ca, .int .i64 c.glob, .slice xf c.funcs.length cf] 25)).alloc (.cells #[.string f.name, .int .i64 f.params, .int .i64 f.locals, .bool f.result, .slice xv f.code.length cv] 39)).alloc (.cells #[.int .i64 27, .int .i64 x] 46)) 80 #[.int .i64 0, .int .i64 0, .int .i64 0, .int .i64 0, .int .i64 0, .int .i64 0, .int .i64 0, .int .i64 0, .int .i64 0, .int .i64 0, .int .i64 0, .int .i64 0, .int .i64 0, .int .i64 0, .int .i64 0, .int .i64 0, .int .i64 0, .int .i64 0, .int .i64 0, .int .i64 0, .int .i64 0, .int .i64 0, .int .i64 0, .int .i64 0, .int .i64 0, .int .i64 0, .int .i64 0, .int .i64 0, .int .i64 0, .int .i64 0, .int .i64 0, .int .i64 0, .int .i64 0, .int .i64 0, .int .i64 0, .int .i64 0, .int .i64 0, .int .i64 0, .int .i64 0, .int .i64 0, .int .i64 0, .int .i64 0, .int .i64 0, .int .i64 0, .int .i64 0, .int .i64 0, .int .i64 0, .int .i64 0, .int .i64 0, .int .i64 0, .int .i64 0, .int .i64 0, .int .i64 0, .int .i64 0, .int .i64 0, .int .i64 0, .int .i64 0, .int .i64 0, .int .i64 0, .int .i64 0, .int .i64 0, .int .i64 0, .int .i64 0, .int .i64 0] C8 (by rw [hs8]; kernel_rfl) (by rw [hs8]; rfl) ho8
    simp only [alloc_size] at q
    exact q
  have HC8 := Lib.hid hC8
  clear hC8 ho8
  have hm : mvP c f 27 x = (2, 1) := by unfold mvP; simp
  rw [hm]
  dsimp only
  clear h hf hxv hm
  go_enter Tryd.func34, Tryd.ntmps34
  go_wp2_with (with_reducible (refine stop_at (o := ⟨some 25, _, _, _, _, _⟩) ?_))
  refine Stop.go ?_
  refine wpList_run rfl (v := .agg C8) ?_ ?_
  · rw [HC8.out]; kernel_rfl
  go_wp2_with fail
  go_ret2
  exact ⟨rfl, by first | exact HE3.out.ext HE6.out | exact HE3.out.alloc _⟩

set_option maxRecDepth 100000 in
set_option maxHeartbeats 4000000 in
theorem moves_28 (a fv : Value) (c : Cd) (f : Fn) (x : Int) (w : World) (h : CdR w a fv c) (hf : FnR w f) : Calls Tryd.prog 34 #[.agg #[a, .int .i64 c.glob, fv], .agg #[.string f.name, .int .i64 f.params, .int .i64 f.locals, .bool f.result, f.v], .agg #[.int .i64 28, .int .i64 x]] w fun e w' => e = .returned (.tuple #[.int .i64 (mvP c f 28 x).1, .int .i64 (mvP c f 28 x).2]) ∧ Ext w w' := by
  obtain ⟨⟨xa, ca, rfl⟩, xf, cf, rfl⟩ := h.shapes
  obtain ⟨xv, cv, hxv⟩ := hf.shape
  rw [hxv]
  have hl1 := h.l1
  have hl2 := h.l2
  have hl3 := hf.len
  have HE3 : Hid (Ext w (((w.alloc (.cells #[.slice xa c.fields.length ca, .int .i64 c.glob, .slice xf c.funcs.length cf] 25)).alloc (.cells #[.string f.name, .int .i64 f.params, .int .i64 f.locals, .bool f.result, .slice xv f.code.length cv] 39)).alloc (.cells #[.int .i64 28, .int .i64 x] 46))) := (((Upd.refl _ w).alloc _).alloc _).alloc _
  have HXA : Hid (∀ W, Ext (((w.alloc (.cells #[.slice xa c.fields.length ca, .int .i64 c.glob, .slice xf c.funcs.length cf] 25)).alloc (.cells #[.string f.name, .int .i64 f.params, .int .i64 f.locals, .bool f.result, .slice xv f.code.length cv] 39)).alloc (.cells #[.int .i64 28, .int .i64 x] 46)) W → W.heap[w.heap.size]? = some (.cells #[.slice xa c.fields.length ca, .int .i64 c.glob, .slice xf c.funcs.length cf] 25)) := fun W hW => hW.heap (allocOld (allocOld (alloc0 w _) _) _) (fun h => h)
  have HXF : Hid (∀ W, Ext (((w.alloc (.cells #[.slice xa c.fields.length ca, .int .i64 c.glob, .slice xf c.funcs.length cf] 25)).alloc (.cells #[.string f.name, .int .i64 f.params, .int .i64 f.locals, .bool f.result, .slice xv f.code.length cv] 39)).alloc (.cells #[.int .i64 28, .int .i64 x] 46)) W → W.heap[w.heap.size + 1]? = some (.cells #[.string f.name, .int .i64 f.params, .int .i64 f.locals, .bool f.result, .slice xv f.code.length cv] 39)) := fun W hW => hW.heap (allocOld (alloc_at (w.alloc (.cells #[.slice xa c.fields.length ca, .int .i64 c.glob, .slice xf c.funcs.length cf] 25)) _ (n := w.heap.size + 1) (by simp)) _) (fun h => h)
  have HXI : Hid (∀ W, Ext (((w.alloc (.cells #[.slice xa c.fields.length ca, .int .i64 c.glob, .slice xf c.funcs.length cf] 25)).alloc (.cells #[.string f.name, .int .i64 f.params, .int .i64 f.locals, .bool f.result, .slice xv f.code.length cv] 39)).alloc (.cells #[.int .i64 28, .int .i64 x] 46)) W → W.heap[w.heap.size + 1 + 1]? = some (.cells #[.int .i64 28, .int .i64 x] 46)) := fun W hW => hW.heap (alloc_at ((w.alloc (.cells #[.slice xa c.fields.length ca, .int .i64 c.glob, .slice xf c.funcs.length cf] 25)).alloc (.cells #[.string f.name, .int .i64 f.params, .int .i64 f.locals, .bool f.result, .slice xv f.code.length cv] 39)) _ (n := w.heap.size + 1 + 1) (by simp)) (fun h => h)
  obtain ⟨C8, hC8⟩ : ∃ C8 : Array Value, C8 = #[.int .i64 0, .int .i64 0, .int .i64 0, .int .i64 1, .int .i64 0, .int .i64 1, .int .i64 1, .int .i64 0, .int .i64 0, .int .i64 1, .int .i64 1, .int .i64 0, .int .i64 1, .int .i64 1, .int .i64 2, .int .i64 0, .int .i64 0, .int .i64 1, .int .i64 0, .int .i64 0, .int .i64 0, .int .i64 0, .int .i64 0, .int .i64 0, .int .i64 1, .int .i64 0, .int .i64 0, .int .i64 0, .int .i64 1, .int .i64 1, .int .i64 0, .int .i64 0, .int .i64 0, .int .i64 0, .int .i64 0, .int .i64 0, .int .i64 0, .int .i64 0, .int .i64 0, .int .i64 0, .int .i64 0, .int .i64 0, .int .i64 0, .int .i64 0, .int .i64 0, .int .i64 0, .int .i64 0, .int .i64 0, .int .i64 0, .int .i64 0, .int .i64 0, .int .i64 0, .int .i64 1, .int .i64 1, .int .i64 0, .int .i64 0, .int .i64 0, .int .i64 0, .int .i64 1, .int .i64 1, .int .i64 1, .int .i64 0, .int .i64 1, .int .i64 2] := ⟨_, rfl⟩
  have hs8 : C8.size = 64 := by rw [hC8]; rfl
  have ho8 : C8.all (·.oneCell') = true := by rw [hC8]; kernel_rfl
  have hst : Sem.run Tryd.prog (storeCells ⟨w.heap.size + 1 + 1 + 1, 0, none⟩ C8.toList 0) ((((w.alloc (.cells #[.slice xa c.fields.length ca, .int .i64 c.glob, .slice xf c.funcs.length cf] 25)).alloc (.cells #[.string f.name, .int .i64 f.params, .int .i64 f.locals, .bool f.result, .slice xv f.code.length cv] 39)).alloc (.cells #[.int .i64 28, .int .i64 x] 46)).alloc (.cells #[.int .i64 0, .int .i64 0, .int .i64 0, .int .i64 0, .int .i64 0, .int .i64 0, .int .i64 0, .int .i64 0, .int .i64 0, .int .i64 0, .int .i64 0, .int .i64 0, .int .i64 0, .int .i64 0, .int .i64 0, .int .i64 0, .int .i64 0, .int .i64 0, .int .i64 0, .int .i64 0, .int .i64 0, .int .i64 0, .int .i64 0, .int .i64 0, .int .i64 0, .int .i64 0, .int .i64 0, .int .i64 0, .int .i64 0, .int .i64 0, .int .i64 0, .int .i64 0, .int .i64 0, .int .i64 0, .int .i64 0, .int .i64 0, .int .i64 0, .int .i64 0, .int .i64 0, .int .i64 0, .int .i64 0, .int .i64 0, .int .i64 0, .int .i64 0, .int .i64 0, .int .i64 0, .int .i64 0, .int .i64 0, .int .i64 0, .int .i64 0, .int .i64 0, .int .i64 0, .int .i64 0, .int .i64 0, .int .i64 0, .int .i64 0, .int .i64 0, .int .i64 0, .int .i64 0, .int .i64 0, .int .i64 0, .int .i64 0, .int .i64 0, .int .i64 0] 80)) = .ok () ((((w.alloc (.cells #[.slice xa c.fields.length ca, .int .i64 c.glob, .slice xf c.funcs.length cf] 25)).alloc (.cells #[.string f.name, .int .i64 f.params, .int .i64 f.locals, .bool f.result, .slice xv f.code.length cv] 39)).alloc (.cells #[.int .i64 28, .int .i64 x] 46)).alloc (.cells C8 80)) := by
    have q := run_storeCells_new (P := Tryd.prog) (((w.alloc (.cells #[.slice xa c.fields.length ca, .int .i64 c.glob, .slice xf c.funcs.length cf] 25)).alloc (.cells #[.string f.name, .int .i64 f.params, .int .i64 f.locals, .bool f.result, .slice xv f.code.length cv] 39)).alloc (.cells #[.int .i64 28, .int .i64 x] 46)) 80 #[.int .i64 0, .int .i64 0, .int .i64 0, .int .i64 0, .int .i64 0, .int .i64 0, .int .i64 0, .int .i64 0, .int .i64 0, .int .i64 0, .int .i64 0, .int .i64 0, .int .i64 0, .int .i64 0, .int .i64 0, .int .i64 0, .int .i64 0, .int .i64 0, .int .i64 0, .int .i64 0, .int .i64 0, .int .i64 0, .int .i64 0, .int .i64 0, .int .i64 0, .int .i64 0, .int .i64 0, .int .i64 0, .int .i64 0, .int .i64 0, .int .i64 0, .int .i64 0, .int .i64 0, .int .i64 0, .int .i64 0, .int .i64 0, .int .i64 0, .int .i64 0, .int .i64 0, .int .i64 0, .int .i64 0, .int .i64 0, .int .i64 0, .int .i64 0, .int .i64 0, .int .i64 0, .int .i64 0, .int .i64 0, .int .i64 0, .int .i64 0, .int .i64 0, .int .i64 0, .int .i64 0, .int .i64 0, .int .i64 0, .int .i64 0, .int .i64 0, .int .i64 0, .int .i64 0, .int .i64 0, .int .i64 0, .int .i64 0, .int .i64 0, .int .i64 0] C8 (by rw [hs8]; kernel_rfl) (by rw [hs8]; rfl) ho8
    simp only [alloc_size] at q
    exact q
  have HC8 := Lib.hid hC8
  clear hC8 ho8
  have hm : mvP c f 28 x = (2, 1) := by unfold mvP; simp
  rw [hm]
  dsimp only
  clear h hf hxv hm
  go_enter Tryd.func34, Tryd.ntmps34
  go_wp2_with (with_reducible (refine stop_at (o := ⟨some 25, _, _, _, _, _⟩) ?_))
  refine Stop.go ?_
  refine wpList_run rfl (v := .agg C8) ?_ ?_
  · rw [HC8.out]; kernel_rfl
  go_wp2_with fail
  go_ret2
  exact ⟨rfl, by first | exact HE3.out.ext HE6.out | exact HE3.out.alloc _⟩

set_option maxRecDepth 100000 in
set_option maxHeartbeats 4000000 in
theorem moves_29 (a fv : Value) (c : Cd) (f : Fn) (x : Int) (w : World) (h : CdR w a fv c) (hf : FnR w f) : Calls Tryd.prog 34 #[.agg #[a, .int .i64 c.glob, fv], .agg #[.string f.name, .int .i64 f.params, .int .i64 f.locals, .bool f.result, f.v], .agg #[.int .i64 29, .int .i64 x]] w fun e w' => e = .returned (.tuple #[.int .i64 (mvP c f 29 x).1, .int .i64 (mvP c f 29 x).2]) ∧ Ext w w' := by
  obtain ⟨⟨xa, ca, rfl⟩, xf, cf, rfl⟩ := h.shapes
  obtain ⟨xv, cv, hxv⟩ := hf.shape
  rw [hxv]
  have hl1 := h.l1
  have hl2 := h.l2
  have hl3 := hf.len
  have HE3 : Hid (Ext w (((w.alloc (.cells #[.slice xa c.fields.length ca, .int .i64 c.glob, .slice xf c.funcs.length cf] 25)).alloc (.cells #[.string f.name, .int .i64 f.params, .int .i64 f.locals, .bool f.result, .slice xv f.code.length cv] 39)).alloc (.cells #[.int .i64 29, .int .i64 x] 46))) := (((Upd.refl _ w).alloc _).alloc _).alloc _
  have HXA : Hid (∀ W, Ext (((w.alloc (.cells #[.slice xa c.fields.length ca, .int .i64 c.glob, .slice xf c.funcs.length cf] 25)).alloc (.cells #[.string f.name, .int .i64 f.params, .int .i64 f.locals, .bool f.result, .slice xv f.code.length cv] 39)).alloc (.cells #[.int .i64 29, .int .i64 x] 46)) W → W.heap[w.heap.size]? = some (.cells #[.slice xa c.fields.length ca, .int .i64 c.glob, .slice xf c.funcs.length cf] 25)) := fun W hW => hW.heap (allocOld (allocOld (alloc0 w _) _) _) (fun h => h)
  have HXF : Hid (∀ W, Ext (((w.alloc (.cells #[.slice xa c.fields.length ca, .int .i64 c.glob, .slice xf c.funcs.length cf] 25)).alloc (.cells #[.string f.name, .int .i64 f.params, .int .i64 f.locals, .bool f.result, .slice xv f.code.length cv] 39)).alloc (.cells #[.int .i64 29, .int .i64 x] 46)) W → W.heap[w.heap.size + 1]? = some (.cells #[.string f.name, .int .i64 f.params, .int .i64 f.locals, .bool f.result, .slice xv f.code.length cv] 39)) := fun W hW => hW.heap (allocOld (alloc_at (w.alloc (.cells #[.slice xa c.fields.length ca, .int .i64 c.glob, .slice xf c.funcs.length cf] 25)) _ (n := w.heap.size + 1) (by simp)) _) (fun h => h)
  have HXI : Hid (∀ W, Ext (((w.alloc (.cells #[.slice xa c.fields.length ca, .int .i64 c.glob, .slice xf c.funcs.length cf] 25)).alloc (.cells #[.string f.name, .int .i64 f.params, .int .i64 f.locals, .bool f.result, .slice xv f.code.length cv] 39)).alloc (.cells #[.int .i64 29, .int .i64 x] 46)) W → W.heap[w.heap.size + 1 + 1]? = some (.cells #[.int .i64 29, .int .i64 x] 46)) := fun W hW => hW.heap (alloc_at ((w.alloc (.cells #[.slice xa c.fields.length ca, .int .i64 c.glob, .slice xf c.funcs.length cf] 25)).alloc (.cells #[.string f.name, .int .i64 f.params, .int .i64 f.locals, .bool f.result, .slice xv f.code.length cv] 39)) _ (n := w.heap.size + 1 + 1) (by simp)) (fun h => h)
  obtain ⟨C8, hC8⟩ : ∃ C8 : Array Value, C8 = #[.int .i64 0, .int .i64 0, .int .i64 0, .int .i64 1, .int .i64 0, .int .i64 1, .int .i64 1, .int .i64 0, .int .i64 0, .int .i64 1, .int .i64 1, .int .i64 0, .int .i64 1, .int .i64 1, .int .i64 2, .int .i64 0, .int .i64 0, .int .i64 1, .int .i64 0, .int .i64 0, .int .i64 0, .int .i64 0, .int .i64 0, .int .i64 0, .int .i64 1, .int .i64 0, .int .i64 0, .int .i64 0, .int .i64 1, .int .i64 1, .int .i64 0, .int .i64 0, .int .i64 0, .int .i64 0, .int .i64 0, .int .i64 0, .int .i64 0, .int .i64 0, .int .i64 0, .int .i64 0, .int .i64 0, .int .i64 0, .int .i64 0, .int .i64 0, .int .i64 0, .int .i64 0, .int .i64 0, .int .i64 0, .int .i64 0, .int .i64 0, .int .i64 0, .int .i64 0, .int .i64 1, .int .i64 1, .int .i64 0, .int .i64 0, .int .i64 0, .int .i64 0, .int .i64 1, .int .i64 1, .int .i64 1, .int .i64 0, .int .i64 1, .int .i64 2] := ⟨_, rfl⟩
  have hs8 : C8.size = 64 := by rw [hC8]; rfl
  have ho8 : C8.all (·.oneCell') = true := by rw [hC8]; kernel_rfl
  have ha8 : C8[58]? = some (.int .i64 1) := by rw [hC8]; rfl
  have hb8 : C8[59]? = some (.int .i64 1) := by rw [hC8]; rfl
  have HEQ : Hid (Ext (((w.alloc (.cells #[.slice xa c.fields.length ca, .int .i64 c.glob, .slice xf c.funcs.length cf] 25)).alloc (.cells #[.string f.name, .int .i64 f.params, .int .i64 f.locals, .bool f.result, .slice xv f.code.length cv] 39)).alloc (.cells #[.int .i64 29, .int .i64 x] 46)) ((((w.alloc (.cells #[.slice xa c.fields.length ca, .int .i64 c.glob, .slice xf c.funcs.length cf] 25)).alloc (.cells #[.string f.name, .int .i64 f.params, .int .i64 f.locals, .bool f.result, .slice xv f.code.length cv] 39)).alloc (.cells #[.int .i64 29, .int .i64 x] 46)).alloc (.cells C8 80))) := (Upd.refl _ _).alloc _
  have hA0 : ∀ y : XW ((((w.alloc (.cells #[.slice xa c.fields.length ca, .int .i64 c.glob, .slice xf c.funcs.length cf] 25)).alloc (.cells #[.string f.name, .int .i64 f.params, .int .i64 f.locals, .bool f.result, .slice xv f.code.length cv] 39)).alloc (.cells #[.int .i64 29, .int .i64 x] 46)).alloc (.cells C8 80)), y.val.cell? ⟨w.heap.size + 1 + 1 + 1, 58, none⟩ = some (.int .i64 1) := fun y => cellRow (ext_heap8 y.ext (alloc_at (((w.alloc (.cells #[.slice xa c.fields.length ca, .int .i64 c.glob, .slice xf c.funcs.length cf] 25)).alloc (.cells #[.string f.name, .int .i64 f.params, .int .i64 f.locals, .bool f.result, .slice xv f.code.length cv] 39)).alloc (.cells #[.int .i64 29, .int .i64 x] 46)) _ (by simp))) _ _ ha8
  have hA1 : ∀ y : XW ((((w.alloc (.cells #[.slice xa c.fields.length ca, .int .i64 c.glob, .slice xf c.funcs.length cf] 25)).alloc (.cells #[.string f.name, .int .i64 f.params, .int .i64 f.locals, .bool f.result, .slice xv f.code.length cv] 39)).alloc (.cells #[.int .i64 29, .int .i64 x] 46)).alloc (.cells C8 80)), y.val.cell? ⟨w.heap.size + 1 + 1 + 1, 59, none⟩ = some (.int .i64 1) := fun y => cellRow (ext_heap8 y.ext (alloc_at (((w.alloc (.cells #[.slice xa c.fields.length ca, .int .i64 c.glob, .slice xf c.funcs.length cf] 25)).alloc (.cells #[.string f.name, .int .i64 f.params, .int .i64 f.locals, .bool f.result, .slice xv f.code.length cv] 39)).alloc (.cells #[.int .i64 29, .int .i64 x] 46)) _ (by simp))) _ _ hb8
  have hI0 : ∀ y : XW ((((w.alloc (.cells #[.slice xa c.fields.length ca, .int .i64 c.glob, .slice xf c.funcs.length cf] 25)).alloc (.cells #[.string f.name, .int .i64 f.params, .int .i64 f.locals, .bool f.result, .slice xv f.code.length cv] 39)).alloc (.cells #[.int .i64 29, .int .i64 x] 46)).alloc (.cells C8 80)), y.val.cell? ⟨w.heap.size + 1 + 1, 0, none⟩ = some (.int .i64 29) := fun y => cellRow (HXI.out _ (HEQ.out.ext y.ext)) 0 _ rfl
  have hrf : Ext ((((w.alloc (.cells #[.slice xa c.fields.length ca, .int .i64 c.glob, .slice xf c.funcs.length cf] 25)).alloc (.cells #[.string f.name, .int .i64 f.params, .int .i64 f.locals, .bool f.result, .slice xv f.code.length cv] 39)).alloc (.cells #[.int .i64 29, .int .i64 x] 46)).alloc (.cells C8 80)) ((((w.alloc (.cells #[.slice xa c.fields.length ca, .int .i64 c.glob, .slice xf c.funcs.length cf] 25)).alloc (.cells #[.string f.name, .int .i64 f.params, .int .i64 f.locals, .bool f.result, .slice xv f.code.length cv] 39)).alloc (.cells #[.int .i64 29, .int .i64 x] 46)).alloc (.cells C8 80)) := Upd.refl _ _
  clear ha8 hb8
  have hst : Sem.run Tryd.prog (storeCells ⟨w.heap.size + 1 + 1 + 1, 0, none⟩ C8.toList 0) ((((w.alloc (.cells #[.slice xa c.fields.length ca, .int .i64 c.glob, .slice xf c.funcs.length cf] 25)).alloc (.cells #[.string f.name, .int .i64 f.params, .int .i64 f.locals, .bool f.result, .slice xv f.code.length cv] 39)).alloc (.cells #[.int .i64 29, .int .i64 x] 46)).alloc (.cells #[.int .i64 0, .int .i64 0, .int .i64 0, .int .i64 0, .int .i64 0, .int .i64 0, .int .i64 0, .int .i64 0, .int .i64 0, .int .i64 0, .int .i64 0, .int .i64 0, .int .i64 0, .int .i64 0, .int .i64 0, .int .i64 0, .int .i64 0, .int .i64 0, .int .i64 0, .int .i64 0, .int .i64 0, .int .i64 0, .int .i64 0, .int .i64 0, .int .i64 0, .int .i64 0, .int .i64 0, .int .i64 0, .int .i64 0, .int .i64 0, .int .i64 0, .int .i64 0, .int .i64 0, .int .i64 0, .int .i64 0, .int .i64 0, .int .i64 0, .int .i64 0, .int .i64 0, .int .i64 0, .int .i64 0, .int .i64 0, .int .i64 0, .int .i64 0, .int .i64 0, .int .i64 0, .int .i64 0, .int .i64 0, .int .i64 0, .int .i64 0, .int .i64 0, .int .i64 0, .int .i64 0, .int .i64 0, .int .i64 0, .int .i64 0, .int .i64 0, .int .i64 0, .int .i64 0, .int .i64 0, .int .i64 0, .int .i64 0, .int .i64 0, .int .i64 0] 80)) = .ok () ((((w.alloc (.cells #[.slice xa c.fields.length ca, .int .i64 c.glob, .slice xf c.funcs.length cf] 25)).alloc (.cells #[.string f.name, .int .i64 f.params, .int .i64 f.locals, .bool f.result, .slice xv f.code.length cv] 39)).alloc (.cells #[.int .i64 29, .int .i64 x] 46)).alloc (.cells C8 80)) := by
    have q := run_storeCells_new (P := Tryd.prog) (((w.alloc (.cells #[.slice xa c.fields.length ca, .int .i64 c.glob, .slice xf c.funcs.length cf] 25)).alloc (.cells #[.string f.name, .int .i64 f.params, .int .i64 f.locals, .bool f.result, .slice xv f.code.length cv] 39)).alloc (.cells #[.int .i64 29, .int .i64 x] 46)) 80 #[.int .i64 0, .int .i64 0, .int .i64 0, .int .i64 0, .int .i64 0, .int .i64 0, .int .i64 0, .int .i64 0, .int .i64 0, .int .i64 0, .int .i64 0, .int .i64 0, .int .i64 0, .int .i64 0, .int .i64 0, .int .i64 0, .int .i64 0, .int .i64 0, .int .i64 0, .int .i64 0, .int .i64 0, .int .i64 0, .int .i64 0, .int .i64 0, .int .i64 0, .int .i64 0, .int .i64 0, .int .i64 0, .int .i64 0, .int .i64 0, .int .i64 0, .int .i64 0, .int .i64 0, .int .i64 0, .int .i64 0, .int .i64 0, .int .i64 0, .int .i64 0, .int .i64 0, .int .i64 0, .int .i64 0, .int .i64 0, .int .i64 0, .int .i64 0, .int .i64 0, .int .i64 0, .int .i64 0, .int .i64 0, .int .i64 0, .int .i64 0, .int .i64 0, .int .i64 0, .int .i64 0, .int .i64 0, .int .i64 0, .int .i64 0, .int .i64 0, .int .i64 0, .int .i64 0, .int .i64 0, .int .i64 0, .int .i64 0, .int .i64 0, .int .i64 0] C8 (by rw [hs8]; kernel_rfl) (by rw [hs8]; rfl) ho8
    simp only [alloc_size] at q
    exact q
  have HC8 := Lib.hid hC8
  clear hC8 ho8
  have hm : mvP c f 29 x = (1, 1) := by unfold mvP; simp
  rw [hm]
  dsimp only
  clear h hf hxv hm
  go_enter Tryd.func34, Tryd.ntmps34
  go_wp2_with (with_reducible (refine stop_at (o := ⟨some 25, _, _, _, _, _⟩) ?_))
  refine Stop.go ?_
  refine wpList_run rfl (v := .agg C8) ?_ ?_
  · rw [HC8.out]; kernel_rfl
  go_wp2_with fail
  refine wp_region_ext _ (by assumption) (by kernel_rfl) (by kernel_rfl) ?_
  repeat (first | go_big_quiet_skip | (go_big_quiet_want; go_big_quiet_op; first | go_big_quiet_on | (apply Exists.intro; refine ⟨fun x => ?_, ?_⟩; (fail); go_big_quiet_on)))
  refine wpQuiet_nil ?_
  rintro w6 ⟨⟨_, hyw6⟩, rfl⟩
  try dsimp only
  have HE6 := Lib.hid (HEQ.out.ext hyw6)
  clear hrf hyw6
  go_wp2_with fail
  go_ret2
  exact ⟨rfl, by first | exact HE3.out.ext HE6.out | exact HE3.out.alloc _⟩

set_option maxRecDepth 100000 in
set_option maxHeartbeats 4000000 in
theorem moves_30 (a fv : Value) (c : Cd) (f : Fn) (x : Int) (w : World) (h : CdR w a fv c) (hf : FnR w f) : Calls Tryd.prog 34 #[.agg #[a, .int .i64 c.glob, fv], .agg #[.string f.name, .int .i64 f.params, .int .i64 f.locals, .bool f.result, f.v], .agg #[.int .i64 30, .int .i64 x]] w fun e w' => e = .returned (.tuple #[.int .i64 (mvP c f 30 x).1, .int .i64 (mvP c f 30 x).2]) ∧ Ext w w' := by
  obtain ⟨⟨xa, ca, rfl⟩, xf, cf, rfl⟩ := h.shapes
  obtain ⟨xv, cv, hxv⟩ := hf.shape
  rw [hxv]
  have hl1 := h.l1
  have hl2 := h.l2
  have hl3 := hf.len
  have HE3 : Hid (Ext w (((w.alloc (.cells #[.slice xa c.fields.length ca, .int .i64 c.glob, .slice xf c.funcs.length cf] 25)).alloc (.cells #[.string f.name, .int .i64 f.params, .int .i64 f.locals, .bool f.result, .slice xv f.code.length cv] 39)).alloc (.cells #[.int .i64 30, .int .i64 x] 46))) := (((Upd.refl _ w).alloc _).alloc _).alloc _
  have HXA : Hid (∀ W, Ext (((w.alloc (.cells #[.slice xa c.fields.length ca, .int .i64 c.glob, .slice xf c.funcs.length cf] 25)).alloc (.cells #[.string f.name, .int .i64 f.params, .int .i64 f.locals, .bool f.result, .slice xv f.code.length cv] 39)).alloc (.cells #[.int .i64 30, .int .i64 x] 46)) W → W.heap[w.heap.size]? = some (.cells #[.slice xa c.fields.length ca, .int .i64 c.glob, .slice xf c.funcs.length cf] 25)) := fun W hW => hW.heap (allocOld (allocOld (alloc0 w _) _) _) (fun h => h)
  have HXF : Hid (∀ W, Ext (((w.alloc (.cells #[.slice xa c.fields.length ca, .int .i64 c.glob, .slice xf c.funcs.length cf] 25)).alloc (.cells #[.string f.name, .int .i64 f.params, .int .i64 f.locals, .bool f.result, .slice xv f.code.length cv] 39)).alloc (.cells #[.int .i64 30, .int .i64 x] 46)) W → W.heap[w.heap.size + 1]? = some (.cells #[.string f.name, .int .i64 f.params, .int .i64 f.locals, .bool f.result, .slice xv f.code.length cv] 39)) := fun W hW => hW.heap (allocOld (alloc_at (w.alloc (.cells #[.slice xa c.fields.length ca, .int .i64 c.glob, .slice xf c.funcs.length cf] 25)) _ (n := w.heap.size + 1) (by simp)) _) (fun h => h)
  have HXI : Hid (∀ W, Ext (((w.alloc (.cells #[.slice xa c.fields.length ca, .int .i64 c.glob, .slice xf c.funcs.length cf] 25)).alloc (.cells #[.string f.name, .int .i64 f.params, .int .i64 f.locals, .bool f.result, .slice xv f.code.length cv] 39)).alloc (.cells #[.int .i64 30, .int .i64 x] 46)) W → W.heap[w.heap.size + 1 + 1]? = some (.cells #[.int .i64 30, .int .i64 x] 46)) := fun W hW => hW.heap (alloc_at ((w.alloc (.cells #[.slice xa c.fields.length ca, .int .i64 c.glob, .slice xf c.funcs.length cf] 25)).alloc (.cells #[.string f.name, .int .i64 f.params, .int .i64 f.locals, .bool f.result, .slice xv f.code.length cv] 39)) _ (n := w.heap.size + 1 + 1) (by simp)) (fun h => h)
  obtain ⟨C8, hC8⟩ : ∃ C8 : Array Value, C8 = #[.int .i64 0, .int .i64 0, .int .i64 0, .int .i64 1, .int .i64 0, .int .i64 1, .int .i64 1, .int .i64 0, .int .i64 0, .int .i64 1, .int .i64 1, .int .i64 0, .int .i64 1, .int .i64 1, .int .i64 2, .int .i64 0, .int .i64 0, .int .i64 1, .int .i64 0, .int .i64 0, .int .i64 0, .int .i64 0, .int .i64 0, .int .i64 0, .int .i64 1, .int .i64 0, .int .i64 0, .int .i64 0, .int .i64 1, .int .i64 1, .int .i64 0, .int .i64 0, .int .i64 0, .int .i64 0, .int .i64 0, .int .i64 0, .int .i64 0, .int .i64 0, .int .i64 0, .int .i64 0, .int .i64 0, .int .i64 0, .int .i64 0, .int .i64 0, .int .i64 0, .int .i64 0, .int .i64 0, .int .i64 0, .int .i64 0, .int .i64 0, .int .i64 0, .int .i64 0, .int .i64 1, .int .i64 1, .int .i64 0, .int .i64 0, .int .i64 0, .int .i64 0, .int .i64 1, .int .i64 1, .int .i64 1, .int .i64 0, .int .i64 1, .int .i64 2] := ⟨_, rfl⟩
  have hs8 : C8.size = 64 := by rw [hC8]; rfl
  have ho8 : C8.all (·.oneCell') = true := by rw [hC8]; kernel_rfl
  have ha8 : C8[60]? = some (.int .i64 1) := by rw [hC8]; rfl
  have hb8 : C8[61]? = some (.int .i64 0) := by rw [hC8]; rfl
  have HEQ : Hid (Ext (((w.alloc (.cells #[.slice xa c.fields.length ca, .int .i64 c.glob, .slice xf c.funcs.length cf] 25)).alloc (.cells #[.string f.name, .int .i64 f.params, .int .i64 f.locals, .bool f.result, .slice xv f.code.length cv] 39)).alloc (.cells #[.int .i64 30, .int .i64 x] 46)) ((((w.alloc (.cells #[.slice xa c.fields.length ca, .int .i64 c.glob, .slice xf c.funcs.length cf] 25)).alloc (.cells #[.string f.name, .int .i64 f.params, .int .i64 f.locals, .bool f.result, .slice xv f.code.length cv] 39)).alloc (.cells #[.int .i64 30, .int .i64 x] 46)).alloc (.cells C8 80))) := (Upd.refl _ _).alloc _
  have hA0 : ∀ y : XW ((((w.alloc (.cells #[.slice xa c.fields.length ca, .int .i64 c.glob, .slice xf c.funcs.length cf] 25)).alloc (.cells #[.string f.name, .int .i64 f.params, .int .i64 f.locals, .bool f.result, .slice xv f.code.length cv] 39)).alloc (.cells #[.int .i64 30, .int .i64 x] 46)).alloc (.cells C8 80)), y.val.cell? ⟨w.heap.size + 1 + 1 + 1, 60, none⟩ = some (.int .i64 1) := fun y => cellRow (ext_heap8 y.ext (alloc_at (((w.alloc (.cells #[.slice xa c.fields.length ca, .int .i64 c.glob, .slice xf c.funcs.length cf] 25)).alloc (.cells #[.string f.name, .int .i64 f.params, .int .i64 f.locals, .bool f.result, .slice xv f.code.length cv] 39)).alloc (.cells #[.int .i64 30, .int .i64 x] 46)) _ (by simp))) _ _ ha8
  have hA1 : ∀ y : XW ((((w.alloc (.cells #[.slice xa c.fields.length ca, .int .i64 c.glob, .slice xf c.funcs.length cf] 25)).alloc (.cells #[.string f.name, .int .i64 f.params, .int .i64 f.locals, .bool f.result, .slice xv f.code.length cv] 39)).alloc (.cells #[.int .i64 30, .int .i64 x] 46)).alloc (.cells C8 80)), y.val.cell? ⟨w.heap.size + 1 + 1 + 1, 61, none⟩ = some (.int .i64 0) := fun y => cellRow (ext_heap8 y.ext (alloc_at (((w.alloc (.cells #[.slice xa c.fields.length ca, .int .i64 c.glob, .slice xf c.funcs.length cf] 25)).alloc (.cells #[.string f.name, .int .i64 f.params, .int .i64 f.locals, .bool f.result, .slice xv f.code.length cv] 39)).alloc (.cells #[.int .i64 30, .int .i64 x] 46)) _ (by simp))) _ _ hb8
  have hI0 : ∀ y : XW ((((w.alloc (.cells #[.slice xa c.fields.length ca, .int .i64 c.glob, .slice xf c.funcs.length cf] 25)).alloc (.cells #[.string f.name, .int .i64 f.params, .int .i64 f.locals, .bool f.result, .slice xv f.code.length cv] 39)).alloc (.cells #[.int .i64 30, .int .i64 x] 46)).alloc (.cells C8 80)), y.val.cell? ⟨w.heap.size + 1 + 1, 0, none⟩ = some (.int .i64 30) := fun y => cellRow (HXI.out _ (HEQ.out.ext y.ext)) 0 _ rfl
  have hrf : Ext ((((w.alloc (.cells #[.slice xa c.fields.length ca, .int .i64 c.glob, .slice xf c.funcs.length cf] 25)).alloc (.cells #[.string f.name, .int .i64 f.params, .int .i64 f.locals, .bool f.result, .slice xv f.code.length cv] 39)).alloc (.cells #[.int .i64 30, .int .i64 x] 46)).alloc (.cells C8 80)) ((((w.alloc (.cells #[.slice xa c.fields.length ca, .int .i64 c.glob, .slice xf c.funcs.length cf] 25)).alloc (.cells #[.string f.name, .int .i64 f.params, .int .i64 f.locals, .bool f.result, .slice xv f.code.length cv] 39)).alloc (.cells #[.int .i64 30, .int .i64 x] 46)).alloc (.cells C8 80)) := Upd.refl _ _
  clear ha8 hb8
  have hst : Sem.run Tryd.prog (storeCells ⟨w.heap.size + 1 + 1 + 1, 0, none⟩ C8.toList 0) ((((w.alloc (.cells #[.slice xa c.fields.length ca, .int .i64 c.glob, .slice xf c.funcs.length cf] 25)).alloc (.cells #[.string f.name, .int .i64 f.params, .int .i64 f.locals, .bool f.result, .slice xv f.code.length cv] 39)).alloc (.cells #[.int .i64 30, .int .i64 x] 46)).alloc (.cells #[.int .i64 0, .int .i64 0, .int .i64 0, .int .i64 0, .int .i64 0, .int .i64 0, .int .i64 0, .int .i64 0, .int .i64 0, .int .i64 0, .int .i64 0, .int .i64 0, .int .i64 0, .int .i64 0, .int .i64 0, .int .i64 0, .int .i64 0, .int .i64 0, .int .i64 0, .int .i64 0, .int .i64 0, .int .i64 0, .int .i64 0, .int .i64 0, .int .i64 0, .int .i64 0, .int .i64 0, .int .i64 0, .int .i64 0, .int .i64 0, .int .i64 0, .int .i64 0, .int .i64 0, .int .i64 0, .int .i64 0, .int .i64 0, .int .i64 0, .int .i64 0, .int .i64 0, .int .i64 0, .int .i64 0, .int .i64 0, .int .i64 0, .int .i64 0, .int .i64 0, .int .i64 0, .int .i64 0, .int .i64 0, .int .i64 0, .int .i64 0, .int .i64 0, .int .i64 0, .int .i64 0, .int .i64 0, .int .i64 0, .int .i64 0, .int .i64 0, .int .i64 0, .int .i64 0, .int .i64 0, .int .i64 0, .int .i64 0, .int .i64 0, .int .i64 0] 80)) = .ok () ((((w.alloc (.cells #[.slice xa c.fields.length ca, .int .i64 c.glob, .slice xf c.funcs.length cf] 25)).alloc (.cells #[.string f.name, .int .i64 f.params, .int .i64 f.locals, .bool f.result, .slice xv f.code.length cv] 39)).alloc (.cells #[.int .i64 30, .int .i64 x] 46)).alloc (.cells C8 80)) := by
    have q := run_storeCells_new (P := Tryd.prog) (((w.alloc (.cells #[.slice xa c.fields.length ca, .int .i64 c.glob, .slice xf c.funcs.length cf] 25)).alloc (.cells #[.string f.name, .int .i64 f.params, .int .i64 f.locals, .bool f.result, .slice xv f.code.length cv] 39)).alloc (.cells #[.int .i64 30, .int .i64 x] 46)) 80 #[.int .i64 0, .int .i64 0, .int .i64 0, .int .i64 0, .int .i64 0, .int .i64 0, .int .i64 0, .int .i64 0, .int .i64 0, .int .i64 0, .int .i64 0, .int .i64 0, .int .i64 0, .int .i64 0, .int .i64 0, .int .i64 0, .int .i64 0, .int .i64 0, .int .i64 0, .int .i64 0, .int .i64 0, .int .i64 0, .int .i64 0, .int .i64 0, .int .i64 0, .int .i64 0, .int .i64 0, .int .i64 0, .int .i64 0, .int .i64 0, .int .i64 0, .int .i64 0, .int .i64 0, .int .i64 0, .int .i64 0, .int .i64 0, .int .i64 0, .int .i64 0, .int .i64 0, .int .i64 0, .int .i64 0, .int .i64 0, .int .i64 0, .int .i64 0, .int .i64 0, .int .i64 0, .int .i64 0, .int .i64 0, .int .i64 0, .int .i64 0, .int .i64 0, .int .i64 0, .int .i64 0, .int .i64 0, .int .i64 0, .int .i64 0, .int .i64 0, .int .i64 0, .int .i64 0, .int .i64 0, .int .i64 0, .int .i64 0, .int .i64 0, .int .i64 0] C8 (by rw [hs8]; kernel_rfl) (by rw [hs8]; rfl) ho8
    simp only [alloc_size] at q
    exact q
  have HC8 := Lib.hid hC8
  clear hC8 ho8
  have hm : mvP c f 30 x = (1, 0) := by unfold mvP; simp
  rw [hm]
  dsimp only
  clear h hf hxv hm
  go_enter Tryd.func34, Tryd.ntmps34
  go_wp2_with (with_reducible (refine stop_at (o := ⟨some 25, _, _, _, _, _⟩) ?_))
  refine Stop.go ?_
  refine wpList_run rfl (v := .agg C8) ?_ ?_
  · rw [HC8.out]; kernel_rfl
  go_wp2_with fail
  refine wp_region_ext _ (by assumption) (by kernel_rfl) (by kernel_rfl) ?_
  repeat (first | go_big_quiet_skip | (go_big_quiet_want; go_big_quiet_op; first | go_big_quiet_on | (apply Exists.intro; refine ⟨fun x => ?_, ?_⟩; (fail); go_big_quiet_on)))
  refine wpQuiet_nil ?_
  rintro w6 ⟨⟨_, hyw6⟩, rfl⟩
  try dsimp only
  have HE6 := Lib.hid (HEQ.out.ext hyw6)
  clear hrf hyw6
  go_wp2_with fail
  go_ret2
  exact ⟨rfl, by first | exact HE3.out.ext HE6.out | exact HE3.out.alloc _⟩

set_option maxRecDepth 100000 in
set_option maxHeartbeats 4000000 in
theorem moves_31 (a fv : Value) (c : Cd) (f : Fn) (x : Int) (w : World) (h : CdR w a fv c) (hf : FnR w f) : Calls Tryd.prog 34 #[.agg #[a, .int .i64 c.glob, fv], .agg #[.string f.name, .int .i64 f.params, .int .i64 f.locals, .bool f.result, f.v], .agg #[.int .i64 31, .int .i64 x]] w fun e w' => e = .returned (.tuple #[.int .i64 (mvP c f 31 x).1, .int .i64 (mvP c f 31 x).2]) ∧ Ext w w' := by
  obtain ⟨⟨xa, ca, rfl⟩, xf, cf, rfl⟩ := h.shapes
  obtain ⟨xv, cv, hxv⟩ := hf.shape
  rw [hxv]
  have hl1 := h.l1
  have hl2 := h.l2
  have hl3 := hf.len
  have HE3 : Hid (Ext w (((w.alloc (.cells #[.slice xa c.fields.length ca, .int .i64 c.glob, .slice xf c.funcs.length cf] 25)).alloc (.cells #[.string f.name, .int .i64 f.params, .int .i64 f.locals, .bool f.result, .slice xv f.code.length cv] 39)).alloc (.cells #[.int .i64 31, .int .i64 x] 46))) := (((Upd.refl _ w).alloc _).alloc _).alloc _
  have HXA : Hid (∀ W, Ext (((w.alloc (.cells #[.slice xa c.fields.length ca, .int .i64 c.glob, .slice xf c.funcs.length cf] 25)).alloc (.cells #[.string f.name, .int .i64 f.params, .int .i64 f.locals, .bool f.result, .slice xv f.code.length cv] 39)).alloc (.cells #[.int .i64 31, .int .i64 x] 46)) W → W.heap[w.heap.size]? = some (.cells #[.slice xa c.fields.length ca, .int .i64 c.glob, .slice xf c.funcs.length cf] 25)) := fun W hW => hW.heap (allocOld (allocOld (alloc0 w _) _) _) (fun h => h)
  have HXF : Hid (∀ W, Ext (((w.alloc (.cells #[.slice xa c.fields.length ca, .int .i64 c.glob, .slice xf c.funcs.length cf] 25)).alloc (.cells #[.string f.name, .int .i64 f.params, .int .i64 f.locals, .bool f.result, .slice xv f.code.length cv] 39)).alloc (.cells #[.int .i64 31, .int .i64 x] 46)) W → W.heap[w.heap.size + 1]? = some (.cells #[.string f.name, .int .i64 f.params, .int .i64 f.locals, .bool f.result, .slice xv f.code.length cv] 39)) := fun W hW => hW.heap (allocOld (alloc_at (w.alloc (.cells #[.slice xa c.fields.length ca, .int .i64 c.glob, .slice xf c.funcs.length cf] 25)) _ (n := w.heap.size + 1) (by simp)) _) (fun h => h)
  have HXI : Hid (∀ W, Ext (((w.alloc (.cells #[.slice xa c.fields.length ca, .int .i64 c.glob, .slice xf c.funcs.length cf] 25)).alloc (.cells #[.string f.name, .int .i64 f.params, .int .i64 f.locals, .bool f.result, .slice xv f.code.length cv] 39)).alloc (.cells #[.int .i64 31, .int .i64 x] 46)) W → W.heap[w.heap.size + 1 + 1]? = some (.cells #[.int .i64 31, .int .i64 x] 46)) := fun W hW => hW.heap (alloc_at ((w.alloc (.cells #[.slice xa c.fields.length ca, .int .i64 c.glob, .slice xf c.funcs.length cf] 25)).alloc (.cells #[.string f.name, .int .i64 f.params, .int .i64 f.locals, .bool f.result, .slice xv f.code.length cv] 39)) _ (n := w.heap.size + 1 + 1) (by simp)) (fun h => h)
  obtain ⟨C8, hC8⟩ : ∃ C8 : Array Value, C8 = #[.int .i64 0, .int .i64 0, .int .i64 0, .int .i64 1, .int .i64 0, .int .i64 1, .int .i64 1, .int .i64 0, .int .i64 0, .int .i64 1, .int .i64 1, .int .i64 0, .int .i64 1, .int .i64 1, .int .i64 2, .int .i64 0, .int .i64 0, .int .i64 1, .int .i64 0, .int .i64 0, .int .i64 0, .int .i64 0, .int .i64 0, .int .i64 0, .int .i64 1, .int .i64 0, .int .i64 0, .int .i64 0, .int .i64 1, .int .i64 1, .int .i64 0, .int .i64 0, .int .i64 0, .int .i64 0, .int .i64 0, .int .i64 0, .int .i64 0, .int .i64 0, .int .i64 0, .int .i64 0, .int .i64 0, .int .i64 0, .int .i64 0, .int .i64 0, .int .i64 0, .int .i64 0, .int .i64 0, .int .i64 0, .int .i64 0, .int .i64 0, .int .i64 0, .int .i64 0, .int .i64 1, .int .i64 1, .int .i64 0, .int .i64 0, .int .i64 0, .int .i64 0, .int .i64 1, .int .i64 1, .int .i64 1, .int .i64 0, .int .i64 1, .int .i64 2] := ⟨_, rfl⟩
  have hs8 : C8.size = 64 := by rw [hC8]; rfl
  have ho8 : C8.all (·.oneCell') = true := by rw [hC8]; kernel_rfl
  have ha8 : C8[62]? = some (.int .i64 1) := by rw [hC8]; rfl
  have hb8 : C8[63]? = some (.int .i64 2) := by rw [hC8]; rfl
  have HEQ : Hid (Ext (((w.alloc (.cells #[.slice xa c.fields.length ca, .int .i64 c.glob, .slice xf c.funcs.length cf] 25)).alloc (.cells #[.string f.name, .int .i64 f.params, .int .i64 f.locals, .bool f.result, .slice xv f.code.length cv] 39)).alloc (.cells #[.int .i64 31, .int .i64 x] 46)) ((((w.alloc (.cells #[.slice xa c.fields.length ca, .int .i64 c.glob, .slice xf c.funcs.length cf] 25)).alloc (.cells #[.string f.name, .int .i64 f.params, .int .i64 f.locals, .bool f.result, .slice xv f.code.length cv] 39)).alloc (.cells #[.int .i64 31, .int .i64 x] 46)).alloc (.cells C8 80))) := (Upd.refl _ _).alloc _
  have hA0 : ∀ y : XW ((((w.alloc (.cells #[.slice xa c.fields.length ca, .int .i64 c.glob, .slice xf c.funcs.length cf] 25)).alloc (.cells #[.string f.name, .int .i64 f.params, .int .i64 f.locals, .bool f.result, .slice xv f.code.length cv] 39)).alloc (.cells #[.int .i64 31, .int .i64 x] 46)).alloc (.cells C8 80)), y.val.cell? ⟨w.heap.size + 1 + 1 + 1, 62, none⟩ = some (.int .i64 1) := fun y => cellRow (ext_heap8 y.ext (alloc_at (((w.alloc (.cells #[.slice xa c.fields.length ca, .int .i64 c.glob, .slice xf c.funcs.length cf] 25)).alloc (.cells #[.string f.name, .int .i64 f.params, .int .i64 f.locals, .bool f.result, .slice xv f.code.length cv] 39)).alloc (.cells #[.int .i64 31, .int .i64 x] 46)) _ (by simp))) _ _ ha8
  have hA1 : ∀ y : XW ((((w.alloc (.cells #[.slice xa c.fields.length ca, .int .i64 c.glob, .slice xf c.funcs.length cf] 25)).alloc (.cells #[.string f.name, .int .i64 f.params, .int .i64 f.locals, .bool f.result, .slice xv f.code.length cv] 39)).alloc (.cells #[.int .i64 31, .int .i64 x] 46)).alloc (.cells C8 80)), y.val.cell? ⟨w.heap.size + 1 + 1 + 1, 63, none⟩ = some (.int .i64 2) := fun y => cellRow (ext_heap8 y.ext (alloc_at (((w.alloc (.cells #[.slice xa c.fields.length ca, .int .i64 c.glob, .slice xf c.funcs.length cf] 25)).alloc (.cells #[.string f.name, .int .i64 f.params, .int .i64 f.locals, .bool f.result, .slice xv f.code.length cv] 39)).alloc (.cells #[.int .i64 31, .int .i64 x] 46)) _ (by simp))) _ _ hb8
  have hI0 : ∀ y : XW ((((w.alloc (.cells #[.slice xa c.fields.length ca, .int .i64 c.glob, .slice xf c.funcs.length cf] 25)).alloc (.cells #[.string f.name, .int .i64 f.params, .int .i64 f.locals, .bool f.result, .slice xv f.code.length cv] 39)).alloc (.cells #[.int .i64 31, .int .i64 x] 46)).alloc (.cells C8 80)), y.val.cell? ⟨w.heap.size + 1 + 1, 0, none⟩ = some (.int .i64 31) := fun y => cellRow (HXI.out _ (HEQ.out.ext y.ext)) 0 _ rfl
  have hrf : Ext ((((w.alloc (.cells #[.slice xa c.fields.length ca, .int .i64 c.glob, .slice xf c.funcs.length cf] 25)).alloc (.cells #[.string f.name, .int .i64 f.params, .int .i64 f.locals, .bool f.result, .slice xv f.code.length cv] 39)).alloc (.cells #[.int .i64 31, .int .i64 x] 46)).alloc (.cells C8 80)) ((((w.alloc (.cells #[.slice xa c.fields.length ca, .int .i64 c.glob, .slice xf c.funcs.length cf] 25)).alloc (.cells #[.string f.name, .int .i64 f.params, .int .i64 f.locals, .bool f.result, .slice xv f.code.length cv] 39)).alloc (.cells #[.int .i64 31, .int .i64 x] 46)).alloc (.cells C8 80)) := Upd.refl _ _
  clear ha8 hb8
  have hst : Sem.run Tryd.prog (storeCells ⟨w.heap.size + 1 + 1 + 1, 0, none⟩ C8.toList 0) ((((w.alloc (.cells #[.slice xa c.fields.length ca, .int .i64 c.glob, .slice xf c.funcs.length cf] 25)).alloc (.cells #[.string f.name, .int .i64 f.params, .int .i64 f.locals, .bool f.result, .slice xv f.code.length cv] 39)).alloc (.cells #[.int .i64 31, .int .i64 x] 46)).alloc (.cells #[.int .i64 0, .int .i64 0, .int .i64 0, .int .i64 0, .int .i64 0, .int .i64 0, .int .i64 0, .int .i64 0, .int .i64 0, .int .i64 0, .int .i64 0, .int .i64 0, .int .i64 0, .int .i64 0, .int .i64 0, .int .i64 0, .int .i64 0, .int .i64 0, .int .i64 0, .int .i64 0, .int .i64 0, .int .i64 0, .int .i64 0, .int .i64 0, .int .i64 0, .int .i64 0, .int .i64 0, .int .i64 0, .int .i64 0, .int .i64 0, .int .i64 0, .int .i64 0, .int .i64 0, .int .i64 0, .int .i64 0, .int .i64 0, .int .i64 0, .int .i64 0, .int .i64 0, .int .i64 0, .int .i64 0, .int .i64 0, .int .i64 0, .int .i64 0, .int .i64 0, .int .i64 0, .int .i64 0, .int .i64 0, .int .i64 0, .int .i64 0, .int .i64 0, .int .i64 0, .int .i64 0, .int .i64 0, .int .i64 0, .int .i64 0, .int .i64 0, .int .i64 0, .int .i64 0, .int .i64 0, .int .i64 0, .int .i64 0, .int .i64 0, .int .i64 0] 80)) = .ok () ((((w.alloc (.cells #[.slice xa c.fields.length ca, .int .i64 c.glob, .slice xf c.funcs.length cf] 25)).alloc (.cells #[.string f.name, .int .i64 f.params, .int .i64 f.locals, .bool f.result, .slice xv f.code.length cv] 39)).alloc (.cells #[.int .i64 31, .int .i64 x] 46)).alloc (.cells C8 80)) := by
    have q := run_storeCells_new (P := Tryd.prog) (((w.alloc (.cells #[.slice xa c.fields.length ca, .int .i64 c.glob, .slice xf c.funcs.length cf] 25)).alloc (.cells #[.string f.name, .int .i64 f.params, .int .i64 f.locals, .bool f.result, .slice xv f.code.length cv] 39)).alloc (.cells #[.int .i64 31, .int .i64 x] 46)) 80 #[.int .i64 0, .int .i64 0, .int .i64 0, .int .i64 0, .int .i64 0, .int .i64 0, .int .i64 0, .int .i64 0, .int .i64 0, .int .i64 0, .int .i64 0, .int .i64 0, .int .i64 0, .int .i64 0, .int .i64 0, .int .i64 0, .int .i64 0, .int .i64 0, .int .i64 0, .int .i64 0, .int .i64 0, .int .i64 0, .int .i64 0, .int .i64 0, .int .i64 0, .int .i64 0, .int .i64 0, .int .i64 0, .int .i64 0, .int .i64 0, .int .i64 0, .int .i64 0, .int .i64 0, .int .i64 0, .int .i64 0, .int .i64 0, .int .i64 0, .int .i64 0, .int .i64 0, .int .i64 0, .int .i64 0, .int .i64 0, .int .i64 0, .int .i64 0, .int .i64 0, .int .i64 0, .int .i64 0, .int .i64 0, .int .i64 0, .int .i64 0, .int .i64 0, .int .i64 0, .int .i64 0, .int .i64 0, .int .i64 0, .int .i64 0, .int .i64 0, .int .i64 0, .int .i64 0, .int .i64 0, .int .i64 0, .int .i64 0, .int .i64 0, .int .i64 0] C8 (by rw [hs8]; kernel_rfl) (by rw [hs8]; rfl) ho8
    simp only [alloc_size] at q
    exact q
  have HC8 := Lib.hid hC8
  clear hC8 ho8
  have hm : mvP c f 31 x = (1, 2) := by unfold mvP; simp
  rw [hm]
  dsimp only
  clear h hf hxv hm
  go_enter Tryd.func34, Tryd.ntmps34
  go_wp2_with (with_reducible (refine stop_at (o := ⟨some 25, _, _, _, _, _⟩) ?_))
  refine Stop.go ?_
  refine wpList_run rfl (v := .agg C8) ?_ ?_
  · rw [HC8.out]; kernel_rfl
  go_wp2_with fail
  refine wp_region_ext _ (by assumption) (by kernel_rfl) (by kernel_rfl) ?_
  repeat (first | go_big_quiet_skip | (go_big_quiet_want; go_big_quiet_op; first | go_big_quiet_on | (apply Exists.intro; refine ⟨fun x => ?_, ?_⟩; (fail); go_big_quiet_on)))
  refine wpQuiet_nil ?_
  rintro w6 ⟨⟨_, hyw6⟩, rfl⟩
  try dsimp only
  have HE6 := Lib.hid (HEQ.out.ext hyw6)
  clear hrf hyw6
  go_wp2_with fail
  go_ret2
  exact ⟨rfl, by first | exact HE3.out.ext HE6.out | exact HE3.out.alloc _⟩

set_option maxRecDepth 100000 in
set_option maxHeartbeats 4000000 in
theorem moves_x (a fv : Value) (c : Cd) (f : Fn) (op x : Int) (w : World) (h : CdR w a fv c) (hf : FnR w f) (hr : rightB c f op x = true) : Calls Tryd.prog 34 #[.agg #[a, .int .i64 c.glob, fv], .agg #[.string f.name, .int .i64 f.params, .int .i64 f.locals, .bool f.result, f.v], .agg #[.int .i64 op, .int .i64 x]] w fun e w' => e = .returned (.tuple #[.int .i64 (mvP c f op x).1, .int .i64 (mvP c f op x).2]) ∧ Ext w w' := by
  obtain ⟨o1, o2⟩ := right_range c f op x hr
  have key : op = 1 ∨ op = 2 ∨ op = 3 ∨ op = 4 ∨ op = 5 ∨ op = 6 ∨ op = 7 ∨ op = 8 ∨ op = 9 ∨ op = 10 ∨ op = 11 ∨ op = 12 ∨ op = 13 ∨ op = 14 ∨ op = 15 ∨ op = 16 ∨ op = 17 ∨ op = 18 ∨ op = 19 ∨ op = 20 ∨ op = 21 ∨ op = 22 ∨ op = 23 ∨ op = 24 ∨ op = 25 ∨ op = 26 ∨ op = 27 ∨ op = 28 ∨ op = 29 ∨ op = 30 ∨ op = 31 := by omega
  rcases key with rfl | rfl | rfl | rfl | rfl | rfl | rfl | rfl | rfl | rfl | rfl | rfl | rfl | rfl | rfl | rfl | rfl | rfl | rfl | rfl | rfl | rfl | rfl | rfl | rfl | rfl | rfl | rfl | rfl | rfl | rfl
  · exact moves_1 a fv c f x w h hf
  · exact moves_2 a fv c f x w h hf
  · exact moves_3 a fv c f x w h hf
  · exact moves_4 a fv c f x w h hf
  · exact moves_5 a fv c f x w h hf
  · exact moves_6 a fv c f x w h hf
  · exact moves_7 a fv c f x w h hf
  · exact moves_8 a fv c f x w h hf
  · exact moves_9 a fv c f x w h hf (right9 c f x hr)
  · exact moves_10 a fv c f x w h hf
  · exact moves_11 a fv c f x w h hf
  · exact moves_12 a fv c f x w h hf
  · exact moves_13 a fv c f x w h hf
  · exact moves_14 a fv c f x w h hf
  · exact moves_15 a fv c f x w h hf
  · exact moves_16 a fv c f x w h hf
  · exact moves_17 a fv c f x w h hf
  · exact moves_18 a fv c f x w h hf
  · exact moves_19 a fv c f x w h hf
  · exact moves_20 a fv c f x w h hf
  · exact moves_21 a fv c f x w h hf
  · exact moves_22 a fv c f x w h hf
  · exact moves_23 a fv c f x w h hf
  · exact moves_24 a fv c f x w h hf
  · exact moves_25 a fv c f x w h hf
  · exact moves_26 a fv c f x w h hf
  · exact moves_27 a fv c f x w h hf
  · exact moves_28 a fv c f x w h hf
  · exact moves_29 a fv c f x w h hf
  · exact moves_30 a fv c f x w h hf
  · exact moves_31 a fv c f x w h hf

end Go.Proofs.YtlbnilhbfiidmaaDoor
