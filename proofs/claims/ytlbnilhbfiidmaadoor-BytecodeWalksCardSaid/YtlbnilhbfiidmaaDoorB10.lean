/- ref.Moves. -/
import Derived.Test.YtlbnilhbfiidmaaDoorB2
import Derived.Test.YtlbnilhbfiidmaaDoorL2
namespace Go.Proofs.YtlbnilhbfiidmaaDoor
open Go.RowKit Go.Hw
set_option linter.unusedVariables false
set_option linter.unusedSimpArgs false

theorem ext_heap8 {w w' : World} (h : Ext w w') {b : Nat} {o : Obj} (hb : w.heap[b]? = some o) : w'.heap[b]? = some o := h.heap hb (fun h => h)
def oneB (b : Bool) : Int := if b then 1 else 0
def mvP (c : Cd) (f : Fn) (op x : Int) : Int × Int :=
  if op = 9 then ((c.funcs.getD x.toNat default).params, oneB (c.funcs.getD x.toNat default).result)
  else if op = 10 then (oneB f.result, 0)
  else if op = 1 ∨ op = 2 ∨ op = 4 ∨ op = 8 then (0, 1)
  else if op = 3 ∨ op = 5 ∨ op = 12 ∨ op = 30 then (1, 0)
  else if op = 6 ∨ op = 14 ∨ op = 26 ∨ op = 29 then (1, 1)
  else if op = 7 then (2, 0)
  else if op = 11 ∨ op = 13 then (0, 0)
  else if op = 31 then (1, 2)
  else (2, 1)
theorem right_range (c : Cd) (f : Fn) (op x : Int) (h : rightB c f op x = true) : 1 ≤ op ∧ op ≤ 31 := by
  unfold rightB at h
  split at h; omega
  split at h; omega
  split at h; omega
  split at h; omega
  split at h; omega
  split at h; omega
  split at h; omega
  simp at h; omega
theorem right9 (c : Cd) (f : Fn) (x : Int) (h : rightB c f 9 x = true) : 0 ≤ x ∧ x < c.funcs.length := of_decide_eq_true h
theorem right11 (c : Cd) (f : Fn) (op x : Int) (ho : op = 11 ∨ op = 12) (h : rightB c f op x = true) : 0 ≤ x ∧ x < f.code.length := by
  rcases ho with rfl | rfl <;> exact of_decide_eq_true h

theorem rone_x (b : Bool) (w : World) : Calls Tryd.prog 22 #[.bool b] w fun e w' => e = .returned (.int .i64 (oneB b)) ∧ w = w' := by
  cases b <;> (
    go_enter Tryd.func22, Tryd.ntmps22
    go_wp2_with fail
    go_ret
    exact ⟨rfl, rfl⟩)

theorem one_x (b : Bool) (w : World) : Calls Tryd.prog 45 #[.bool b] w fun e w' => e = .returned (.int .i64 (oneB b)) ∧ w = w' := by
  cases b <;> (
    go_enter Tryd.func45, Tryd.ntmps45
    go_wp2_with fail
    go_ret
    exact ⟨rfl, rfl⟩)

set_option maxRecDepth 100000 in
set_option maxHeartbeats 4000000 in
theorem rmoves_1 (a fv : Value) (c : Cd) (f : Fn) (x : Int) (w : World) (h : CdR w a fv c) (hf : FnR w f) : Calls Tryd.prog 14 #[.agg #[a, .int .i64 c.glob, fv], .agg #[.string f.name, .int .i64 f.params, .int .i64 f.locals, .bool f.result, f.v], .agg #[.int .i64 1, .int .i64 x]] w fun e w' => e = .returned (.tuple #[.int .i64 (mvP c f 1 x).1, .int .i64 (mvP c f 1 x).2]) ∧ Ext w w' := by
  obtain ⟨⟨xa, ca, rfl⟩, xf, cf, rfl⟩ := h.shapes
  obtain ⟨xv, cv, hxv⟩ := hf.shape
  rw [hxv]
  have hl1 := h.l1
  have hl2 := h.l2
  have hl3 := hf.len
  have HE3 : Hid (Ext w (((w.alloc (.cells #[.slice xa c.fields.length ca, .int .i64 c.glob, .slice xf c.funcs.length cf] 25)).alloc (.cells #[.string f.name, .int .i64 f.params, .int .i64 f.locals, .bool f.result, .slice xv f.code.length cv] 39)).alloc (.cells #[.int .i64 1, .int .i64 x] 46))) := (((Upd.refl _ w).alloc _).alloc _).alloc _
  have HXA : Hid (∀ W, Ext (((w.alloc (.cells #[.slice xa c.fields.length ca, .int .i64 c.glob, .slice xf c.funcs.length cf] 25)).alloc (.cells #[.string f.name, .int .i64 f.params, .int .i64 f.locals, .bool f.result, .slice xv f.code.length cv] 39)).alloc (.cells #[.int .i64 1, .int .i64 x] 46)) W → W.heap[w.heap.size]? = some (.cells #[.slice xa c.fields.length ca, .int .i64 c.glob, .slice xf c.funcs.length cf] 25)) := fun W hW => hW.heap (allocOld (allocOld (alloc0 w _) _) _) (fun h => h)
  have HXF : Hid (∀ W, Ext (((w.alloc (.cells #[.slice xa c.fields.length ca, .int .i64 c.glob, .slice xf c.funcs.length cf] 25)).alloc (.cells #[.string f.name, .int .i64 f.params, .int .i64 f.locals, .bool f.result, .slice xv f.code.length cv] 39)).alloc (.cells #[.int .i64 1, .int .i64 x] 46)) W → W.heap[w.heap.size + 1]? = some (.cells #[.string f.name, .int .i64 f.params, .int .i64 f.locals, .bool f.result, .slice xv f.code.length cv] 39)) := fun W hW => hW.heap (allocOld (alloc_at (w.alloc (.cells #[.slice xa c.fields.length ca, .int .i64 c.glob, .slice xf c.funcs.length cf] 25)) _ (n := w.heap.size + 1) (by simp)) _) (fun h => h)
  have HXI : Hid (∀ W, Ext (((w.alloc (.cells #[.slice xa c.fields.length ca, .int .i64 c.glob, .slice xf c.funcs.length cf] 25)).alloc (.cells #[.string f.name, .int .i64 f.params, .int .i64 f.locals, .bool f.result, .slice xv f.code.length cv] 39)).alloc (.cells #[.int .i64 1, .int .i64 x] 46)) W → W.heap[w.heap.size + 1 + 1]? = some (.cells #[.int .i64 1, .int .i64 x] 46)) := fun W hW => hW.heap (alloc_at ((w.alloc (.cells #[.slice xa c.fields.length ca, .int .i64 c.glob, .slice xf c.funcs.length cf] 25)).alloc (.cells #[.string f.name, .int .i64 f.params, .int .i64 f.locals, .bool f.result, .slice xv f.code.length cv] 39)) _ (n := w.heap.size + 1 + 1) (by simp)) (fun h => h)
  have hm : mvP c f 1 x = (0, 1) := by unfold mvP; simp
  rw [hm]
  dsimp only
  clear h hf hxv hm
  go_enter Tryd.func14, Tryd.ntmps14
  go_wp2_with fail
  go_ret2
  exact ⟨rfl, by first | exact HE3.out | exact HE3.out.drewN' _⟩

set_option maxRecDepth 100000 in
set_option maxHeartbeats 4000000 in
theorem rmoves_2 (a fv : Value) (c : Cd) (f : Fn) (x : Int) (w : World) (h : CdR w a fv c) (hf : FnR w f) : Calls Tryd.prog 14 #[.agg #[a, .int .i64 c.glob, fv], .agg #[.string f.name, .int .i64 f.params, .int .i64 f.locals, .bool f.result, f.v], .agg #[.int .i64 2, .int .i64 x]] w fun e w' => e = .returned (.tuple #[.int .i64 (mvP c f 2 x).1, .int .i64 (mvP c f 2 x).2]) ∧ Ext w w' := by
  obtain ⟨⟨xa, ca, rfl⟩, xf, cf, rfl⟩ := h.shapes
  obtain ⟨xv, cv, hxv⟩ := hf.shape
  rw [hxv]
  have hl1 := h.l1
  have hl2 := h.l2
  have hl3 := hf.len
  have HE3 : Hid (Ext w (((w.alloc (.cells #[.slice xa c.fields.length ca, .int .i64 c.glob, .slice xf c.funcs.length cf] 25)).alloc (.cells #[.string f.name, .int .i64 f.params, .int .i64 f.locals, .bool f.result, .slice xv f.code.length cv] 39)).alloc (.cells #[.int .i64 2, .int .i64 x] 46))) := (((Upd.refl _ w).alloc _).alloc _).alloc _
  have HXA : Hid (∀ W, Ext (((w.alloc (.cells #[.slice xa c.fields.length ca, .int .i64 c.glob, .slice xf c.funcs.length cf] 25)).alloc (.cells #[.string f.name, .int .i64 f.params, .int .i64 f.locals, .bool f.result, .slice xv f.code.length cv] 39)).alloc (.cells #[.int .i64 2, .int .i64 x] 46)) W → W.heap[w.heap.size]? = some (.cells #[.slice xa c.fields.length ca, .int .i64 c.glob, .slice xf c.funcs.length cf] 25)) := fun W hW => hW.heap (allocOld (allocOld (alloc0 w _) _) _) (fun h => h)
  have HXF : Hid (∀ W, Ext (((w.alloc (.cells #[.slice xa c.fields.length ca, .int .i64 c.glob, .slice xf c.funcs.length cf] 25)).alloc (.cells #[.string f.name, .int .i64 f.params, .int .i64 f.locals, .bool f.result, .slice xv f.code.length cv] 39)).alloc (.cells #[.int .i64 2, .int .i64 x] 46)) W → W.heap[w.heap.size + 1]? = some (.cells #[.string f.name, .int .i64 f.params, .int .i64 f.locals, .bool f.result, .slice xv f.code.length cv] 39)) := fun W hW => hW.heap (allocOld (alloc_at (w.alloc (.cells #[.slice xa c.fields.length ca, .int .i64 c.glob, .slice xf c.funcs.length cf] 25)) _ (n := w.heap.size + 1) (by simp)) _) (fun h => h)
  have HXI : Hid (∀ W, Ext (((w.alloc (.cells #[.slice xa c.fields.length ca, .int .i64 c.glob, .slice xf c.funcs.length cf] 25)).alloc (.cells #[.string f.name, .int .i64 f.params, .int .i64 f.locals, .bool f.result, .slice xv f.code.length cv] 39)).alloc (.cells #[.int .i64 2, .int .i64 x] 46)) W → W.heap[w.heap.size + 1 + 1]? = some (.cells #[.int .i64 2, .int .i64 x] 46)) := fun W hW => hW.heap (alloc_at ((w.alloc (.cells #[.slice xa c.fields.length ca, .int .i64 c.glob, .slice xf c.funcs.length cf] 25)).alloc (.cells #[.string f.name, .int .i64 f.params, .int .i64 f.locals, .bool f.result, .slice xv f.code.length cv] 39)) _ (n := w.heap.size + 1 + 1) (by simp)) (fun h => h)
  have hm : mvP c f 2 x = (0, 1) := by unfold mvP; simp
  rw [hm]
  dsimp only
  clear h hf hxv hm
  go_enter Tryd.func14, Tryd.ntmps14
  go_wp2_with fail
  go_ret2
  exact ⟨rfl, by first | exact HE3.out | exact HE3.out.drewN' _⟩

set_option maxRecDepth 100000 in
set_option maxHeartbeats 4000000 in
theorem rmoves_3 (a fv : Value) (c : Cd) (f : Fn) (x : Int) (w : World) (h : CdR w a fv c) (hf : FnR w f) : Calls Tryd.prog 14 #[.agg #[a, .int .i64 c.glob, fv], .agg #[.string f.name, .int .i64 f.params, .int .i64 f.locals, .bool f.result, f.v], .agg #[.int .i64 3, .int .i64 x]] w fun e w' => e = .returned (.tuple #[.int .i64 (mvP c f 3 x).1, .int .i64 (mvP c f 3 x).2]) ∧ Ext w w' := by
  obtain ⟨⟨xa, ca, rfl⟩, xf, cf, rfl⟩ := h.shapes
  obtain ⟨xv, cv, hxv⟩ := hf.shape
  rw [hxv]
  have hl1 := h.l1
  have hl2 := h.l2
  have hl3 := hf.len
  have HE3 : Hid (Ext w (((w.alloc (.cells #[.slice xa c.fields.length ca, .int .i64 c.glob, .slice xf c.funcs.length cf] 25)).alloc (.cells #[.string f.name, .int .i64 f.params, .int .i64 f.locals, .bool f.result, .slice xv f.code.length cv] 39)).alloc (.cells #[.int .i64 3, .int .i64 x] 46))) := (((Upd.refl _ w).alloc _).alloc _).alloc _
  have HXA : Hid (∀ W, Ext (((w.alloc (.cells #[.slice xa c.fields.length ca, .int .i64 c.glob, .slice xf c.funcs.length cf] 25)).alloc (.cells #[.string f.name, .int .i64 f.params, .int .i64 f.locals, .bool f.result, .slice xv f.code.length cv] 39)).alloc (.cells #[.int .i64 3, .int .i64 x] 46)) W → W.heap[w.heap.size]? = some (.cells #[.slice xa c.fields.length ca, .int .i64 c.glob, .slice xf c.funcs.length cf] 25)) := fun W hW => hW.heap (allocOld (allocOld (alloc0 w _) _) _) (fun h => h)
  have HXF : Hid (∀ W, Ext (((w.alloc (.cells #[.slice xa c.fields.length ca, .int .i64 c.glob, .slice xf c.funcs.length cf] 25)).alloc (.cells #[.string f.name, .int .i64 f.params, .int .i64 f.locals, .bool f.result, .slice xv f.code.length cv] 39)).alloc (.cells #[.int .i64 3, .int .i64 x] 46)) W → W.heap[w.heap.size + 1]? = some (.cells #[.string f.name, .int .i64 f.params, .int .i64 f.locals, .bool f.result, .slice xv f.code.length cv] 39)) := fun W hW => hW.heap (allocOld (alloc_at (w.alloc (.cells #[.slice xa c.fields.length ca, .int .i64 c.glob, .slice xf c.funcs.length cf] 25)) _ (n := w.heap.size + 1) (by simp)) _) (fun h => h)
  have HXI : Hid (∀ W, Ext (((w.alloc (.cells #[.slice xa c.fields.length ca, .int .i64 c.glob, .slice xf c.funcs.length cf] 25)).alloc (.cells #[.string f.name, .int .i64 f.params, .int .i64 f.locals, .bool f.result, .slice xv f.code.length cv] 39)).alloc (.cells #[.int .i64 3, .int .i64 x] 46)) W → W.heap[w.heap.size + 1 + 1]? = some (.cells #[.int .i64 3, .int .i64 x] 46)) := fun W hW => hW.heap (alloc_at ((w.alloc (.cells #[.slice xa c.fields.length ca, .int .i64 c.glob, .slice xf c.funcs.length cf] 25)).alloc (.cells #[.string f.name, .int .i64 f.params, .int .i64 f.locals, .bool f.result, .slice xv f.code.length cv] 39)) _ (n := w.heap.size + 1 + 1) (by simp)) (fun h => h)
  have hm : mvP c f 3 x = (1, 0) := by unfold mvP; simp
  rw [hm]
  dsimp only
  clear h hf hxv hm
  go_enter Tryd.func14, Tryd.ntmps14
  go_wp2_with fail
  go_ret2
  exact ⟨rfl, by first | exact HE3.out | exact HE3.out.drewN' _⟩

set_option maxRecDepth 100000 in
set_option maxHeartbeats 4000000 in
theorem rmoves_4 (a fv : Value) (c : Cd) (f : Fn) (x : Int) (w : World) (h : CdR w a fv c) (hf : FnR w f) : Calls Tryd.prog 14 #[.agg #[a, .int .i64 c.glob, fv], .agg #[.string f.name, .int .i64 f.params, .int .i64 f.locals, .bool f.result, f.v], .agg #[.int .i64 4, .int .i64 x]] w fun e w' => e = .returned (.tuple #[.int .i64 (mvP c f 4 x).1, .int .i64 (mvP c f 4 x).2]) ∧ Ext w w' := by
  obtain ⟨⟨xa, ca, rfl⟩, xf, cf, rfl⟩ := h.shapes
  obtain ⟨xv, cv, hxv⟩ := hf.shape
  rw [hxv]
  have hl1 := h.l1
  have hl2 := h.l2
  have hl3 := hf.len
  have HE3 : Hid (Ext w (((w.alloc (.cells #[.slice xa c.fields.length ca, .int .i64 c.glob, .slice xf c.funcs.length cf] 25)).alloc (.cells #[.string f.name, .int .i64 f.params, .int .i64 f.locals, .bool f.result, .slice xv f.code.length cv] 39)).alloc (.cells #[.int .i64 4, .int .i64 x] 46))) := (((Upd.refl _ w).alloc _).alloc _).alloc _
  have HXA : Hid (∀ W, Ext (((w.alloc (.cells #[.slice xa c.fields.length ca, .int .i64 c.glob, .slice xf c.funcs.length cf] 25)).alloc (.cells #[.string f.name, .int .i64 f.params, .int .i64 f.locals, .bool f.result, .slice xv f.code.length cv] 39)).alloc (.cells #[.int .i64 4, .int .i64 x] 46)) W → W.heap[w.heap.size]? = some (.cells #[.slice xa c.fields.length ca, .int .i64 c.glob, .slice xf c.funcs.length cf] 25)) := fun W hW => hW.heap (allocOld (allocOld (alloc0 w _) _) _) (fun h => h)
  have HXF : Hid (∀ W, Ext (((w.alloc (.cells #[.slice xa c.fields.length ca, .int .i64 c.glob, .slice xf c.funcs.length cf] 25)).alloc (.cells #[.string f.name, .int .i64 f.params, .int .i64 f.locals, .bool f.result, .slice xv f.code.length cv] 39)).alloc (.cells #[.int .i64 4, .int .i64 x] 46)) W → W.heap[w.heap.size + 1]? = some (.cells #[.string f.name, .int .i64 f.params, .int .i64 f.locals, .bool f.result, .slice xv f.code.length cv] 39)) := fun W hW => hW.heap (allocOld (alloc_at (w.alloc (.cells #[.slice xa c.fields.length ca, .int .i64 c.glob, .slice xf c.funcs.length cf] 25)) _ (n := w.heap.size + 1) (by simp)) _) (fun h => h)
  have HXI : Hid (∀ W, Ext (((w.alloc (.cells #[.slice xa c.fields.length ca, .int .i64 c.glob, .slice xf c.funcs.length cf] 25)).alloc (.cells #[.string f.name, .int .i64 f.params, .int .i64 f.locals, .bool f.result, .slice xv f.code.length cv] 39)).alloc (.cells #[.int .i64 4, .int .i64 x] 46)) W → W.heap[w.heap.size + 1 + 1]? = some (.cells #[.int .i64 4, .int .i64 x] 46)) := fun W hW => hW.heap (alloc_at ((w.alloc (.cells #[.slice xa c.fields.length ca, .int .i64 c.glob, .slice xf c.funcs.length cf] 25)).alloc (.cells #[.string f.name, .int .i64 f.params, .int .i64 f.locals, .bool f.result, .slice xv f.code.length cv] 39)) _ (n := w.heap.size + 1 + 1) (by simp)) (fun h => h)
  have hm : mvP c f 4 x = (0, 1) := by unfold mvP; simp
  rw [hm]
  dsimp only
  clear h hf hxv hm
  go_enter Tryd.func14, Tryd.ntmps14
  go_wp2_with fail
  go_ret2
  exact ⟨rfl, by first | exact HE3.out | exact HE3.out.drewN' _⟩

set_option maxRecDepth 100000 in
set_option maxHeartbeats 4000000 in
theorem rmoves_5 (a fv : Value) (c : Cd) (f : Fn) (x : Int) (w : World) (h : CdR w a fv c) (hf : FnR w f) : Calls Tryd.prog 14 #[.agg #[a, .int .i64 c.glob, fv], .agg #[.string f.name, .int .i64 f.params, .int .i64 f.locals, .bool f.result, f.v], .agg #[.int .i64 5, .int .i64 x]] w fun e w' => e = .returned (.tuple #[.int .i64 (mvP c f 5 x).1, .int .i64 (mvP c f 5 x).2]) ∧ Ext w w' := by
  obtain ⟨⟨xa, ca, rfl⟩, xf, cf, rfl⟩ := h.shapes
  obtain ⟨xv, cv, hxv⟩ := hf.shape
  rw [hxv]
  have hl1 := h.l1
  have hl2 := h.l2
  have hl3 := hf.len
  have HE3 : Hid (Ext w (((w.alloc (.cells #[.slice xa c.fields.length ca, .int .i64 c.glob, .slice xf c.funcs.length cf] 25)).alloc (.cells #[.string f.name, .int .i64 f.params, .int .i64 f.locals, .bool f.result, .slice xv f.code.length cv] 39)).alloc (.cells #[.int .i64 5, .int .i64 x] 46))) := (((Upd.refl _ w).alloc _).alloc _).alloc _
  have HXA : Hid (∀ W, Ext (((w.alloc (.cells #[.slice xa c.fields.length ca, .int .i64 c.glob, .slice xf c.funcs.length cf] 25)).alloc (.cells #[.string f.name, .int .i64 f.params, .int .i64 f.locals, .bool f.result, .slice xv f.code.length cv] 39)).alloc (.cells #[.int .i64 5, .int .i64 x] 46)) W → W.heap[w.heap.size]? = some (.cells #[.slice xa c.fields.length ca, .int .i64 c.glob, .slice xf c.funcs.length cf] 25)) := fun W hW => hW.heap (allocOld (allocOld (alloc0 w _) _) _) (fun h => h)
  have HXF : Hid (∀ W, Ext (((w.alloc (.cells #[.slice xa c.fields.length ca, .int .i64 c.glob, .slice xf c.funcs.length cf] 25)).alloc (.cells #[.string f.name, .int .i64 f.params, .int .i64 f.locals, .bool f.result, .slice xv f.code.length cv] 39)).alloc (.cells #[.int .i64 5, .int .i64 x] 46)) W → W.heap[w.heap.size + 1]? = some (.cells #[.string f.name, .int .i64 f.params, .int .i64 f.locals, .bool f.result, .slice xv f.code.length cv] 39)) := fun W hW => hW.heap (allocOld (alloc_at (w.alloc (.cells #[.slice xa c.fields.length ca, .int .i64 c.glob, .slice xf c.funcs.length cf] 25)) _ (n := w.heap.size + 1) (by simp)) _) (fun h => h)
  have HXI : Hid (∀ W, Ext (((w.alloc (.cells #[.slice xa c.fields.length ca, .int .i64 c.glob, .slice xf c.funcs.length cf] 25)).alloc (.cells #[.string f.name, .int .i64 f.params, .int .i64 f.locals, .bool f.result, .slice xv f.code.length cv] 39)).alloc (.cells #[.int .i64 5, .int .i64 x] 46)) W → W.heap[w.heap.size + 1 + 1]? = some (.cells #[.int .i64 5, .int .i64 x] 46)) := fun W hW => hW.heap (alloc_at ((w.alloc (.cells #[.slice xa c.fields.length ca, .int .i64 c.glob, .slice xf c.funcs.length cf] 25)).alloc (.cells #[.string f.name, .int .i64 f.params, .int .i64 f.locals, .bool f.result, .slice xv f.code.length cv] 39)) _ (n := w.heap.size + 1 + 1) (by simp)) (fun h => h)
  have hm : mvP c f 5 x = (1, 0) := by unfold mvP; simp
  rw [hm]
  dsimp only
  clear h hf hxv hm
  go_enter Tryd.func14, Tryd.ntmps14
  go_wp2_with fail
  go_ret2
  exact ⟨rfl, by first | exact HE3.out | exact HE3.out.drewN' _⟩

set_option maxRecDepth 100000 in
set_option maxHeartbeats 4000000 in
theorem rmoves_6 (a fv : Value) (c : Cd) (f : Fn) (x : Int) (w : World) (h : CdR w a fv c) (hf : FnR w f) : Calls Tryd.prog 14 #[.agg #[a, .int .i64 c.glob, fv], .agg #[.string f.name, .int .i64 f.params, .int .i64 f.locals, .bool f.result, f.v], .agg #[.int .i64 6, .int .i64 x]] w fun e w' => e = .returned (.tuple #[.int .i64 (mvP c f 6 x).1, .int .i64 (mvP c f 6 x).2]) ∧ Ext w w' := by
  obtain ⟨⟨xa, ca, rfl⟩, xf, cf, rfl⟩ := h.shapes
  obtain ⟨xv, cv, hxv⟩ := hf.shape
  rw [hxv]
  have hl1 := h.l1
  have hl2 := h.l2
  have hl3 := hf.len
  have HE3 : Hid (Ext w (((w.alloc (.cells #[.slice xa c.fields.length ca, .int .i64 c.glob, .slice xf c.funcs.length cf] 25)).alloc (.cells #[.string f.name, .int .i64 f.params, .int .i64 f.locals, .bool f.result, .slice xv f.code.length cv] 39)).alloc (.cells #[.int .i64 6, .int .i64 x] 46))) := (((Upd.refl _ w).alloc _).alloc _).alloc _
  have HXA : Hid (∀ W, Ext (((w.alloc (.cells #[.slice xa c.fields.length ca, .int .i64 c.glob, .slice xf c.funcs.length cf] 25)).alloc (.cells #[.string f.name, .int .i64 f.params, .int .i64 f.locals, .bool f.result, .slice xv f.code.length cv] 39)).alloc (.cells #[.int .i64 6, .int .i64 x] 46)) W → W.heap[w.heap.size]? = some (.cells #[.slice xa c.fields.length ca, .int .i64 c.glob, .slice xf c.funcs.length cf] 25)) := fun W hW => hW.heap (allocOld (allocOld (alloc0 w _) _) _) (fun h => h)
  have HXF : Hid (∀ W, Ext (((w.alloc (.cells #[.slice xa c.fields.length ca, .int .i64 c.glob, .slice xf c.funcs.length cf] 25)).alloc (.cells #[.string f.name, .int .i64 f.params, .int .i64 f.locals, .bool f.result, .slice xv f.code.length cv] 39)).alloc (.cells #[.int .i64 6, .int .i64 x] 46)) W → W.heap[w.heap.size + 1]? = some (.cells #[.string f.name, .int .i64 f.params, .int .i64 f.locals, .bool f.result, .slice xv f.code.length cv] 39)) := fun W hW => hW.heap (allocOld (alloc_at (w.alloc (.cells #[.slice xa c.fields.length ca, .int .i64 c.glob, .slice xf c.funcs.length cf] 25)) _ (n := w.heap.size + 1) (by simp)) _) (fun h => h)
  have HXI : Hid (∀ W, Ext (((w.alloc (.cells #[.slice xa c.fields.length ca, .int .i64 c.glob, .slice xf c.funcs.length cf] 25)).alloc (.cells #[.string f.name, .int .i64 f.params, .int .i64 f.locals, .bool f.result, .slice xv f.code.length cv] 39)).alloc (.cells #[.int .i64 6, .int .i64 x] 46)) W → W.heap[w.heap.size + 1 + 1]? = some (.cells #[.int .i64 6, .int .i64 x] 46)) := fun W hW => hW.heap (alloc_at ((w.alloc (.cells #[.slice xa c.fields.length ca, .int .i64 c.glob, .slice xf c.funcs.length cf] 25)).alloc (.cells #[.string f.name, .int .i64 f.params, .int .i64 f.locals, .bool f.result, .slice xv f.code.length cv] 39)) _ (n := w.heap.size + 1 + 1) (by simp)) (fun h => h)
  have hm : mvP c f 6 x = (1, 1) := by unfold mvP; simp
  rw [hm]
  dsimp only
  clear h hf hxv hm
  go_enter Tryd.func14, Tryd.ntmps14
  go_wp2_with fail
  go_ret2
  exact ⟨rfl, by first | exact HE3.out | exact HE3.out.drewN' _⟩

set_option maxRecDepth 100000 in
set_option maxHeartbeats 4000000 in
theorem rmoves_7 (a fv : Value) (c : Cd) (f : Fn) (x : Int) (w : World) (h : CdR w a fv c) (hf : FnR w f) : Calls Tryd.prog 14 #[.agg #[a, .int .i64 c.glob, fv], .agg #[.string f.name, .int .i64 f.params, .int .i64 f.locals, .bool f.result, f.v], .agg #[.int .i64 7, .int .i64 x]] w fun e w' => e = .returned (.tuple #[.int .i64 (mvP c f 7 x).1, .int .i64 (mvP c f 7 x).2]) ∧ Ext w w' := by
  obtain ⟨⟨xa, ca, rfl⟩, xf, cf, rfl⟩ := h.shapes
  obtain ⟨xv, cv, hxv⟩ := hf.shape
  rw [hxv]
  have hl1 := h.l1
  have hl2 := h.l2
  have hl3 := hf.len
  have HE3 : Hid (Ext w (((w.alloc (.cells #[.slice xa c.fields.length ca, .int .i64 c.glob, .slice xf c.funcs.length cf] 25)).alloc (.cells #[.string f.name, .int .i64 f.params, .int .i64 f.locals, .bool f.result, .slice xv f.code.length cv] 39)).alloc (.cells #[.int .i64 7, .int .i64 x] 46))) := (((Upd.refl _ w).alloc _).alloc _).alloc _
  have HXA : Hid (∀ W, Ext (((w.alloc (.cells #[.slice xa c.fields.length ca, .int .i64 c.glob, .slice xf c.funcs.length cf] 25)).alloc (.cells #[.string f.name, .int .i64 f.params, .int .i64 f.locals, .bool f.result, .slice xv f.code.length cv] 39)).alloc (.cells #[.int .i64 7, .int .i64 x] 46)) W → W.heap[w.heap.size]? = some (.cells #[.slice xa c.fields.length ca, .int .i64 c.glob, .slice xf c.funcs.length cf] 25)) := fun W hW => hW.heap (allocOld (allocOld (alloc0 w _) _) _) (fun h => h)
  have HXF : Hid (∀ W, Ext (((w.alloc (.cells #[.slice xa c.fields.length ca, .int .i64 c.glob, .slice xf c.funcs.length cf] 25)).alloc (.cells #[.string f.name, .int .i64 f.params, .int .i64 f.locals, .bool f.result, .slice xv f.code.length cv] 39)).alloc (.cells #[.int .i64 7, .int .i64 x] 46)) W → W.heap[w.heap.size + 1]? = some (.cells #[.string f.name, .int .i64 f.params, .int .i64 f.locals, .bool f.result, .slice xv f.code.length cv] 39)) := fun W hW => hW.heap (allocOld (alloc_at (w.alloc (.cells #[.slice xa c.fields.length ca, .int .i64 c.glob, .slice xf c.funcs.length cf] 25)) _ (n := w.heap.size + 1) (by simp)) _) (fun h => h)
  have HXI : Hid (∀ W, Ext (((w.alloc (.cells #[.slice xa c.fields.length ca, .int .i64 c.glob, .slice xf c.funcs.length cf] 25)).alloc (.cells #[.string f.name, .int .i64 f.params, .int .i64 f.locals, .bool f.result, .slice xv f.code.length cv] 39)).alloc (.cells #[.int .i64 7, .int .i64 x] 46)) W → W.heap[w.heap.size + 1 + 1]? = some (.cells #[.int .i64 7, .int .i64 x] 46)) := fun W hW => hW.heap (alloc_at ((w.alloc (.cells #[.slice xa c.fields.length ca, .int .i64 c.glob, .slice xf c.funcs.length cf] 25)).alloc (.cells #[.string f.name, .int .i64 f.params, .int .i64 f.locals, .bool f.result, .slice xv f.code.length cv] 39)) _ (n := w.heap.size + 1 + 1) (by simp)) (fun h => h)
  have hm : mvP c f 7 x = (2, 0) := by unfold mvP; simp
  rw [hm]
  dsimp only
  clear h hf hxv hm
  go_enter Tryd.func14, Tryd.ntmps14
  go_wp2_with fail
  go_ret2
  exact ⟨rfl, by first | exact HE3.out | exact HE3.out.drewN' _⟩

set_option maxRecDepth 100000 in
set_option maxHeartbeats 4000000 in
theorem rmoves_8 (a fv : Value) (c : Cd) (f : Fn) (x : Int) (w : World) (h : CdR w a fv c) (hf : FnR w f) : Calls Tryd.prog 14 #[.agg #[a, .int .i64 c.glob, fv], .agg #[.string f.name, .int .i64 f.params, .int .i64 f.locals, .bool f.result, f.v], .agg #[.int .i64 8, .int .i64 x]] w fun e w' => e = .returned (.tuple #[.int .i64 (mvP c f 8 x).1, .int .i64 (mvP c f 8 x).2]) ∧ Ext w w' := by
  obtain ⟨⟨xa, ca, rfl⟩, xf, cf, rfl⟩ := h.shapes
  obtain ⟨xv, cv, hxv⟩ := hf.shape
  rw [hxv]
  have hl1 := h.l1
  have hl2 := h.l2
  have hl3 := hf.len
  have HE3 : Hid (Ext w (((w.alloc (.cells #[.slice xa c.fields.length ca, .int .i64 c.glob, .slice xf c.funcs.length cf] 25)).alloc (.cells #[.string f.name, .int .i64 f.params, .int .i64 f.locals, .bool f.result, .slice xv f.code.length cv] 39)).alloc (.cells #[.int .i64 8, .int .i64 x] 46))) := (((Upd.refl _ w).alloc _).alloc _).alloc _
  have HXA : Hid (∀ W, Ext (((w.alloc (.cells #[.slice xa c.fields.length ca, .int .i64 c.glob, .slice xf c.funcs.length cf] 25)).alloc (.cells #[.string f.name, .int .i64 f.params, .int .i64 f.locals, .bool f.result, .slice xv f.code.length cv] 39)).alloc (.cells #[.int .i64 8, .int .i64 x] 46)) W → W.heap[w.heap.size]? = some (.cells #[.slice xa c.fields.length ca, .int .i64 c.glob, .slice xf c.funcs.length cf] 25)) := fun W hW => hW.heap (allocOld (allocOld (alloc0 w _) _) _) (fun h => h)
  have HXF : Hid (∀ W, Ext (((w.alloc (.cells #[.slice xa c.fields.length ca, .int .i64 c.glob, .slice xf c.funcs.length cf] 25)).alloc (.cells #[.string f.name, .int .i64 f.params, .int .i64 f.locals, .bool f.result, .slice xv f.code.length cv] 39)).alloc (.cells #[.int .i64 8, .int .i64 x] 46)) W → W.heap[w.heap.size + 1]? = some (.cells #[.string f.name, .int .i64 f.params, .int .i64 f.locals, .bool f.result, .slice xv f.code.length cv] 39)) := fun W hW => hW.heap (allocOld (alloc_at (w.alloc (.cells #[.slice xa c.fields.length ca, .int .i64 c.glob, .slice xf c.funcs.length cf] 25)) _ (n := w.heap.size + 1) (by simp)) _) (fun h => h)
  have HXI : Hid (∀ W, Ext (((w.alloc (.cells #[.slice xa c.fields.length ca, .int .i64 c.glob, .slice xf c.funcs.length cf] 25)).alloc (.cells #[.string f.name, .int .i64 f.params, .int .i64 f.locals, .bool f.result, .slice xv f.code.length cv] 39)).alloc (.cells #[.int .i64 8, .int .i64 x] 46)) W → W.heap[w.heap.size + 1 + 1]? = some (.cells #[.int .i64 8, .int .i64 x] 46)) := fun W hW => hW.heap (alloc_at ((w.alloc (.cells #[.slice xa c.fields.length ca, .int .i64 c.glob, .slice xf c.funcs.length cf] 25)).alloc (.cells #[.string f.name, .int .i64 f.params, .int .i64 f.locals, .bool f.result, .slice xv f.code.length cv] 39)) _ (n := w.heap.size + 1 + 1) (by simp)) (fun h => h)
  have hm : mvP c f 8 x = (0, 1) := by unfold mvP; simp
  rw [hm]
  dsimp only
  clear h hf hxv hm
  go_enter Tryd.func14, Tryd.ntmps14
  go_wp2_with fail
  go_ret2
  exact ⟨rfl, by first | exact HE3.out | exact HE3.out.drewN' _⟩

set_option maxRecDepth 100000 in
set_option maxHeartbeats 4000000 in
theorem rmoves_9 (a fv : Value) (c : Cd) (f : Fn) (x : Int) (w : World) (h : CdR w a fv c) (hf : FnR w f) (hx : 0 ≤ x ∧ x < c.funcs.length) : Calls Tryd.prog 14 #[.agg #[a, .int .i64 c.glob, fv], .agg #[.string f.name, .int .i64 f.params, .int .i64 f.locals, .bool f.result, f.v], .agg #[.int .i64 9, .int .i64 x]] w fun e w' => e = .returned (.tuple #[.int .i64 (mvP c f 9 x).1, .int .i64 (mvP c f 9 x).2]) ∧ Ext w w' := by
  obtain ⟨i, rfl⟩ : ∃ i : Nat, x = i := ⟨x.toNat, by omega⟩
  have hlt : i < c.funcs.length := by omega
  have HN := Lib.hid h
  have HO := Lib.hid (fun (b : Bool) (W : World) => rone_x b W)
  obtain ⟨⟨xa, ca, rfl⟩, xf, cf, rfl⟩ := h.shapes
  obtain ⟨xv, cv, hxv⟩ := hf.shape
  rw [hxv]
  have hl1 := h.l1
  have hl2 := h.l2
  have hl3 := hf.len
  have HE3 : Hid (Ext w (((w.alloc (.cells #[.slice xa c.fields.length ca, .int .i64 c.glob, .slice xf c.funcs.length cf] 25)).alloc (.cells #[.string f.name, .int .i64 f.params, .int .i64 f.locals, .bool f.result, .slice xv f.code.length cv] 39)).alloc (.cells #[.int .i64 9, .int .i64 i] 46))) := (((Upd.refl _ w).alloc _).alloc _).alloc _
  have HXA : Hid (∀ W, Ext (((w.alloc (.cells #[.slice xa c.fields.length ca, .int .i64 c.glob, .slice xf c.funcs.length cf] 25)).alloc (.cells #[.string f.name, .int .i64 f.params, .int .i64 f.locals, .bool f.result, .slice xv f.code.length cv] 39)).alloc (.cells #[.int .i64 9, .int .i64 i] 46)) W → W.heap[w.heap.size]? = some (.cells #[.slice xa c.fields.length ca, .int .i64 c.glob, .slice xf c.funcs.length cf] 25)) := fun W hW => hW.heap (allocOld (allocOld (alloc0 w _) _) _) (fun h => h)
  have HXF : Hid (∀ W, Ext (((w.alloc (.cells #[.slice xa c.fields.length ca, .int .i64 c.glob, .slice xf c.funcs.length cf] 25)).alloc (.cells #[.string f.name, .int .i64 f.params, .int .i64 f.locals, .bool f.result, .slice xv f.code.length cv] 39)).alloc (.cells #[.int .i64 9, .int .i64 i] 46)) W → W.heap[w.heap.size + 1]? = some (.cells #[.string f.name, .int .i64 f.params, .int .i64 f.locals, .bool f.result, .slice xv f.code.length cv] 39)) := fun W hW => hW.heap (allocOld (alloc_at (w.alloc (.cells #[.slice xa c.fields.length ca, .int .i64 c.glob, .slice xf c.funcs.length cf] 25)) _ (n := w.heap.size + 1) (by simp)) _) (fun h => h)
  have HXI : Hid (∀ W, Ext (((w.alloc (.cells #[.slice xa c.fields.length ca, .int .i64 c.glob, .slice xf c.funcs.length cf] 25)).alloc (.cells #[.string f.name, .int .i64 f.params, .int .i64 f.locals, .bool f.result, .slice xv f.code.length cv] 39)).alloc (.cells #[.int .i64 9, .int .i64 i] 46)) W → W.heap[w.heap.size + 1 + 1]? = some (.cells #[.int .i64 9, .int .i64 i] 46)) := fun W hW => hW.heap (alloc_at ((w.alloc (.cells #[.slice xa c.fields.length ca, .int .i64 c.glob, .slice xf c.funcs.length cf] 25)).alloc (.cells #[.string f.name, .int .i64 f.params, .int .i64 f.locals, .bool f.result, .slice xv f.code.length cv] 39)) _ (n := w.heap.size + 1 + 1) (by simp)) (fun h => h)
  obtain ⟨f0, hf0⟩ : ∃ f0, (c.funcs.getD i default) = f0 := ⟨_, rfl⟩
  have hm : mvP c f 9 (i : Int) = (f0.params, oneB f0.result) := by rw [← hf0]; rfl
  rw [hm]
  dsimp only
  have HF := h.at hlt
  rw [hf0] at HF
  obtain ⟨g, off, cap', hv, hcap, c0, c1, c2, c3, c4, _⟩ := HF
  injection hv with e1 e2 e3
  subst e1; subst e3
  have i0' : (0 : Int) ≤ (i : Int) := by omega
  have i1' : (i : Int) < (c.funcs.length : Int) := by omega
  have hB : g < w.heap.size := World.block_lt_of_cell? _ _ c0
  have hB1 : ¬ g = w.heap.size := by omega
  have hB2 : ¬ g = w.heap.size + 1 := by omega
  have hB3 : ¬ g = w.heap.size + 1 + 1 := by omega
  have hB4 : ¬ g = w.heap.size + 1 + 1 + 1 := by omega
  clear e2 h hf hxv hm hf0 hx hB
  generalize f0.params = PP at *
  generalize f0.result = RR at *
  generalize f0.v = VV at *
  have HO1 := Lib.hid (HO.out RR)
  clear HO
  have HEQ : Hid (Ext (((w.alloc (.cells #[.slice xa c.fields.length ca, .int .i64 c.glob, .slice (some ⟨g, off, none⟩) c.funcs.length cf] 25)).alloc (.cells #[.string f.name, .int .i64 f.params, .int .i64 f.locals, .bool f.result, .slice xv f.code.length cv] 39)).alloc (.cells #[.int .i64 9, .int .i64 i] 46)) (((w.alloc (.cells #[.slice xa c.fields.length ca, .int .i64 c.glob, .slice (some ⟨g, off, none⟩) c.funcs.length cf] 25)).alloc (.cells #[.string f.name, .int .i64 f.params, .int .i64 f.locals, .bool f.result, .slice xv f.code.length cv] 39)).alloc (.cells #[.int .i64 9, .int .i64 i] 46))) := by first | exact Upd.refl _ _ | exact (Upd.refl _ _).alloc _
  have hX0 : ∀ x : XW (((w.alloc (.cells #[.slice xa c.fields.length ca, .int .i64 c.glob, .slice (some ⟨g, off, none⟩) c.funcs.length cf] 25)).alloc (.cells #[.string f.name, .int .i64 f.params, .int .i64 f.locals, .bool f.result, .slice xv f.code.length cv] 39)).alloc (.cells #[.int .i64 9, .int .i64 i] 46)), x.val.cell? ⟨w.heap.size, 0, none⟩ = some (.slice xa c.fields.length ca) := fun x => cellRow (HXA.out _ (HEQ.out.ext x.ext)) 0 _ rfl
  have hX1 : ∀ x : XW (((w.alloc (.cells #[.slice xa c.fields.length ca, .int .i64 c.glob, .slice (some ⟨g, off, none⟩) c.funcs.length cf] 25)).alloc (.cells #[.string f.name, .int .i64 f.params, .int .i64 f.locals, .bool f.result, .slice xv f.code.length cv] 39)).alloc (.cells #[.int .i64 9, .int .i64 i] 46)), x.val.cell? ⟨w.heap.size, 1, none⟩ = some (.int .i64 c.glob) := fun x => cellRow (HXA.out _ (HEQ.out.ext x.ext)) 1 _ rfl
  have hX2 : ∀ x : XW (((w.alloc (.cells #[.slice xa c.fields.length ca, .int .i64 c.glob, .slice (some ⟨g, off, none⟩) c.funcs.length cf] 25)).alloc (.cells #[.string f.name, .int .i64 f.params, .int .i64 f.locals, .bool f.result, .slice xv f.code.length cv] 39)).alloc (.cells #[.int .i64 9, .int .i64 i] 46)), x.val.cell? ⟨w.heap.size, 2, none⟩ = some (.slice (some ⟨g, off, none⟩) c.funcs.length cf) := fun x => cellRow (HXA.out _ (HEQ.out.ext x.ext)) 2 _ rfl
  have hI1 : ∀ x : XW (((w.alloc (.cells #[.slice xa c.fields.length ca, .int .i64 c.glob, .slice (some ⟨g, off, none⟩) c.funcs.length cf] 25)).alloc (.cells #[.string f.name, .int .i64 f.params, .int .i64 f.locals, .bool f.result, .slice xv f.code.length cv] 39)).alloc (.cells #[.int .i64 9, .int .i64 i] 46)), x.val.cell? ⟨w.heap.size + 1 + 1, 1, none⟩ = some (.int .i64 i) := fun x => cellRow (HXI.out _ (HEQ.out.ext x.ext)) 1 _ rfl
  have hY1 : ∀ x : XW (((w.alloc (.cells #[.slice xa c.fields.length ca, .int .i64 c.glob, .slice (some ⟨g, off, none⟩) c.funcs.length cf] 25)).alloc (.cells #[.string f.name, .int .i64 f.params, .int .i64 f.locals, .bool f.result, .slice xv f.code.length cv] 39)).alloc (.cells #[.int .i64 9, .int .i64 i] 46)), x.val.cell? ⟨g, off + i * 5 + 1, none⟩ = some (.int .i64 PP) := fun x => (HE3.out.ext (HEQ.out.ext x.ext)).cell c1 (fun h => h)
  have hY3 : ∀ x : XW (((w.alloc (.cells #[.slice xa c.fields.length ca, .int .i64 c.glob, .slice (some ⟨g, off, none⟩) c.funcs.length cf] 25)).alloc (.cells #[.string f.name, .int .i64 f.params, .int .i64 f.locals, .bool f.result, .slice xv f.code.length cv] 39)).alloc (.cells #[.int .i64 9, .int .i64 i] 46)), x.val.cell? ⟨g, off + i * 5 + 3, none⟩ = some (.bool RR) := fun x => (HE3.out.ext (HEQ.out.ext x.ext)).cell c3 (fun h => h)
  have hrf : Ext (((w.alloc (.cells #[.slice xa c.fields.length ca, .int .i64 c.glob, .slice (some ⟨g, off, none⟩) c.funcs.length cf] 25)).alloc (.cells #[.string f.name, .int .i64 f.params, .int .i64 f.locals, .bool f.result, .slice xv f.code.length cv] 39)).alloc (.cells #[.int .i64 9, .int .i64 i] 46)) (((w.alloc (.cells #[.slice xa c.fields.length ca, .int .i64 c.glob, .slice (some ⟨g, off, none⟩) c.funcs.length cf] 25)).alloc (.cells #[.string f.name, .int .i64 f.params, .int .i64 f.locals, .bool f.result, .slice xv f.code.length cv] 39)).alloc (.cells #[.int .i64 9, .int .i64 i] 46)) := Upd.refl _ _
  clear c0 c1 c2 c3 c4
  go_enter Tryd.func14, Tryd.ntmps14
  go_wp2_with fail
  refine wp_region_ext _ (by assumption) (by kernel_rfl) (by kernel_rfl) ?_
  repeat (first | go_big_quiet_skip | (go_big_quiet_want; go_big_quiet_op; first | go_big_quiet_on | (apply Exists.intro; refine ⟨fun x => ?_, ?_⟩; ((go_at_call 22; exact XW.call ((HO1.out _).mono fun _ _ ⟨h1, h2⟩ => ⟨h1, h2 ▸ Upd.refl _ _⟩))); go_big_quiet_on)))
  refine wpQuiet_nil ?_
  rintro w6 ⟨⟨_, hyw6⟩, rfl⟩
  try dsimp only
  have HE6 := Lib.hid (HEQ.out.ext hyw6)
  clear hX0 hX1 hX2 hI1 hY1 hY3 hrf hyw6
  go_wp2_with fail
  go_ret2
  exact ⟨rfl, HE3.out.ext HE6.out⟩

set_option maxRecDepth 100000 in
set_option maxHeartbeats 4000000 in
theorem rmoves_10 (a fv : Value) (c : Cd) (f : Fn) (x : Int) (w : World) (h : CdR w a fv c) (hf : FnR w f) : Calls Tryd.prog 14 #[.agg #[a, .int .i64 c.glob, fv], .agg #[.string f.name, .int .i64 f.params, .int .i64 f.locals, .bool f.result, f.v], .agg #[.int .i64 10, .int .i64 x]] w fun e w' => e = .returned (.tuple #[.int .i64 (mvP c f 10 x).1, .int .i64 (mvP c f 10 x).2]) ∧ Ext w w' := by
  have HO := Lib.hid (fun (b : Bool) (W : World) => rone_x b W)
  obtain ⟨⟨xa, ca, rfl⟩, xf, cf, rfl⟩ := h.shapes
  obtain ⟨xv, cv, hxv⟩ := hf.shape
  rw [hxv]
  have hl1 := h.l1
  have hl2 := h.l2
  have hl3 := hf.len
  have HE3 : Hid (Ext w (((w.alloc (.cells #[.slice xa c.fields.length ca, .int .i64 c.glob, .slice xf c.funcs.length cf] 25)).alloc (.cells #[.string f.name, .int .i64 f.params, .int .i64 f.locals, .bool f.result, .slice xv f.code.length cv] 39)).alloc (.cells #[.int .i64 10, .int .i64 x] 46))) := (((Upd.refl _ w).alloc _).alloc _).alloc _
  have HXA : Hid (∀ W, Ext (((w.alloc (.cells #[.slice xa c.fields.length ca, .int .i64 c.glob, .slice xf c.funcs.length cf] 25)).alloc (.cells #[.string f.name, .int .i64 f.params, .int .i64 f.locals, .bool f.result, .slice xv f.code.length cv] 39)).alloc (.cells #[.int .i64 10, .int .i64 x] 46)) W → W.heap[w.heap.size]? = some (.cells #[.slice xa c.fields.length ca, .int .i64 c.glob, .slice xf c.funcs.length cf] 25)) := fun W hW => hW.heap (allocOld (allocOld (alloc0 w _) _) _) (fun h => h)
  have HXF : Hid (∀ W, Ext (((w.alloc (.cells #[.slice xa c.fields.length ca, .int .i64 c.glob, .slice xf c.funcs.length cf] 25)).alloc (.cells #[.string f.name, .int .i64 f.params, .int .i64 f.locals, .bool f.result, .slice xv f.code.length cv] 39)).alloc (.cells #[.int .i64 10, .int .i64 x] 46)) W → W.heap[w.heap.size + 1]? = some (.cells #[.string f.name, .int .i64 f.params, .int .i64 f.locals, .bool f.result, .slice xv f.code.length cv] 39)) := fun W hW => hW.heap (allocOld (alloc_at (w.alloc (.cells #[.slice xa c.fields.length ca, .int .i64 c.glob, .slice xf c.funcs.length cf] 25)) _ (n := w.heap.size + 1) (by simp)) _) (fun h => h)
  have HXI : Hid (∀ W, Ext (((w.alloc (.cells #[.slice xa c.fields.length ca, .int .i64 c.glob, .slice xf c.funcs.length cf] 25)).alloc (.cells #[.string f.name, .int .i64 f.params, .int .i64 f.locals, .bool f.result, .slice xv f.code.length cv] 39)).alloc (.cells #[.int .i64 10, .int .i64 x] 46)) W → W.heap[w.heap.size + 1 + 1]? = some (.cells #[.int .i64 10, .int .i64 x] 46)) := fun W hW => hW.heap (alloc_at ((w.alloc (.cells #[.slice xa c.fields.length ca, .int .i64 c.glob, .slice xf c.funcs.length cf] 25)).alloc (.cells #[.string f.name, .int .i64 f.params, .int .i64 f.locals, .bool f.result, .slice xv f.code.length cv] 39)) _ (n := w.heap.size + 1 + 1) (by simp)) (fun h => h)
  have hm : mvP c f 10 x = (oneB f.result, 0) := rfl
  rw [hm]
  dsimp only
  clear h hf hxv hm
  generalize f.result = RR at *
  have HO1 := Lib.hid (HO.out RR)
  clear HO
  go_enter Tryd.func14, Tryd.ntmps14
  go_wp2_with fail
  refine (HO1.out _).mono ?_
  rintro e w' ⟨rfl, rfl⟩
  go_wp2_with fail
  go_ret2
  exact ⟨rfl, by first | exact HE3.out | exact HE3.out.drewN' _⟩

set_option maxRecDepth 100000 in
set_option maxHeartbeats 4000000 in
theorem rmoves_11 (a fv : Value) (c : Cd) (f : Fn) (x : Int) (w : World) (h : CdR w a fv c) (hf : FnR w f) : Calls Tryd.prog 14 #[.agg #[a, .int .i64 c.glob, fv], .agg #[.string f.name, .int .i64 f.params, .int .i64 f.locals, .bool f.result, f.v], .agg #[.int .i64 11, .int .i64 x]] w fun e w' => e = .returned (.tuple #[.int .i64 (mvP c f 11 x).1, .int .i64 (mvP c f 11 x).2]) ∧ Ext w w' := by
  obtain ⟨⟨xa, ca, rfl⟩, xf, cf, rfl⟩ := h.shapes
  obtain ⟨xv, cv, hxv⟩ := hf.shape
  rw [hxv]
  have hl1 := h.l1
  have hl2 := h.l2
  have hl3 := hf.len
  have HE3 : Hid (Ext w (((w.alloc (.cells #[.slice xa c.fields.length ca, .int .i64 c.glob, .slice xf c.funcs.length cf] 25)).alloc (.cells #[.string f.name, .int .i64 f.params, .int .i64 f.locals, .bool f.result, .slice xv f.code.length cv] 39)).alloc (.cells #[.int .i64 11, .int .i64 x] 46))) := (((Upd.refl _ w).alloc _).alloc _).alloc _
  have HXA : Hid (∀ W, Ext (((w.alloc (.cells #[.slice xa c.fields.length ca, .int .i64 c.glob, .slice xf c.funcs.length cf] 25)).alloc (.cells #[.string f.name, .int .i64 f.params, .int .i64 f.locals, .bool f.result, .slice xv f.code.length cv] 39)).alloc (.cells #[.int .i64 11, .int .i64 x] 46)) W → W.heap[w.heap.size]? = some (.cells #[.slice xa c.fields.length ca, .int .i64 c.glob, .slice xf c.funcs.length cf] 25)) := fun W hW => hW.heap (allocOld (allocOld (alloc0 w _) _) _) (fun h => h)
  have HXF : Hid (∀ W, Ext (((w.alloc (.cells #[.slice xa c.fields.length ca, .int .i64 c.glob, .slice xf c.funcs.length cf] 25)).alloc (.cells #[.string f.name, .int .i64 f.params, .int .i64 f.locals, .bool f.result, .slice xv f.code.length cv] 39)).alloc (.cells #[.int .i64 11, .int .i64 x] 46)) W → W.heap[w.heap.size + 1]? = some (.cells #[.string f.name, .int .i64 f.params, .int .i64 f.locals, .bool f.result, .slice xv f.code.length cv] 39)) := fun W hW => hW.heap (allocOld (alloc_at (w.alloc (.cells #[.slice xa c.fields.length ca, .int .i64 c.glob, .slice xf c.funcs.length cf] 25)) _ (n := w.heap.size + 1) (by simp)) _) (fun h => h)
  have HXI : Hid (∀ W, Ext (((w.alloc (.cells #[.slice xa c.fields.length ca, .int .i64 c.glob, .slice xf c.funcs.length cf] 25)).alloc (.cells #[.string f.name, .int .i64 f.params, .int .i64 f.locals, .bool f.result, .slice xv f.code.length cv] 39)).alloc (.cells #[.int .i64 11, .int .i64 x] 46)) W → W.heap[w.heap.size + 1 + 1]? = some (.cells #[.int .i64 11, .int .i64 x] 46)) := fun W hW => hW.heap (alloc_at ((w.alloc (.cells #[.slice xa c.fields.length ca, .int .i64 c.glob, .slice xf c.funcs.length cf] 25)).alloc (.cells #[.string f.name, .int .i64 f.params, .int .i64 f.locals, .bool f.result, .slice xv f.code.length cv] 39)) _ (n := w.heap.size + 1 + 1) (by simp)) (fun h => h)
  have hm : mvP c f 11 x = (0, 0) := by unfold mvP; simp
  rw [hm]
  dsimp only
  clear h hf hxv hm
  go_enter Tryd.func14, Tryd.ntmps14
  go_wp2_with fail
  go_ret2
  exact ⟨rfl, by first | exact HE3.out | exact HE3.out.drewN' _⟩

set_option maxRecDepth 100000 in
set_option maxHeartbeats 4000000 in
theorem rmoves_12 (a fv : Value) (c : Cd) (f : Fn) (x : Int) (w : World) (h : CdR w a fv c) (hf : FnR w f) : Calls Tryd.prog 14 #[.agg #[a, .int .i64 c.glob, fv], .agg #[.string f.name, .int .i64 f.params, .int .i64 f.locals, .bool f.result, f.v], .agg #[.int .i64 12, .int .i64 x]] w fun e w' => e = .returned (.tuple #[.int .i64 (mvP c f 12 x).1, .int .i64 (mvP c f 12 x).2]) ∧ Ext w w' := by
  obtain ⟨⟨xa, ca, rfl⟩, xf, cf, rfl⟩ := h.shapes
  obtain ⟨xv, cv, hxv⟩ := hf.shape
  rw [hxv]
  have hl1 := h.l1
  have hl2 := h.l2
  have hl3 := hf.len
  have HE3 : Hid (Ext w (((w.alloc (.cells #[.slice xa c.fields.length ca, .int .i64 c.glob, .slice xf c.funcs.length cf] 25)).alloc (.cells #[.string f.name, .int .i64 f.params, .int .i64 f.locals, .bool f.result, .slice xv f.code.length cv] 39)).alloc (.cells #[.int .i64 12, .int .i64 x] 46))) := (((Upd.refl _ w).alloc _).alloc _).alloc _
  have HXA : Hid (∀ W, Ext (((w.alloc (.cells #[.slice xa c.fields.length ca, .int .i64 c.glob, .slice xf c.funcs.length cf] 25)).alloc (.cells #[.string f.name, .int .i64 f.params, .int .i64 f.locals, .bool f.result, .slice xv f.code.length cv] 39)).alloc (.cells #[.int .i64 12, .int .i64 x] 46)) W → W.heap[w.heap.size]? = some (.cells #[.slice xa c.fields.length ca, .int .i64 c.glob, .slice xf c.funcs.length cf] 25)) := fun W hW => hW.heap (allocOld (allocOld (alloc0 w _) _) _) (fun h => h)
  have HXF : Hid (∀ W, Ext (((w.alloc (.cells #[.slice xa c.fields.length ca, .int .i64 c.glob, .slice xf c.funcs.length cf] 25)).alloc (.cells #[.string f.name, .int .i64 f.params, .int .i64 f.locals, .bool f.result, .slice xv f.code.length cv] 39)).alloc (.cells #[.int .i64 12, .int .i64 x] 46)) W → W.heap[w.heap.size + 1]? = some (.cells #[.string f.name, .int .i64 f.params, .int .i64 f.locals, .bool f.result, .slice xv f.code.length cv] 39)) := fun W hW => hW.heap (allocOld (alloc_at (w.alloc (.cells #[.slice xa c.fields.length ca, .int .i64 c.glob, .slice xf c.funcs.length cf] 25)) _ (n := w.heap.size + 1) (by simp)) _) (fun h => h)
  have HXI : Hid (∀ W, Ext (((w.alloc (.cells #[.slice xa c.fields.length ca, .int .i64 c.glob, .slice xf c.funcs.length cf] 25)).alloc (.cells #[.string f.name, .int .i64 f.params, .int .i64 f.locals, .bool f.result, .slice xv f.code.length cv] 39)).alloc (.cells #[.int .i64 12, .int .i64 x] 46)) W → W.heap[w.heap.size + 1 + 1]? = some (.cells #[.int .i64 12, .int .i64 x] 46)) := fun W hW => hW.heap (alloc_at ((w.alloc (.cells #[.slice xa c.fields.length ca, .int .i64 c.glob, .slice xf c.funcs.length cf] 25)).alloc (.cells #[.string f.name, .int .i64 f.params, .int .i64 f.locals, .bool f.result, .slice xv f.code.length cv] 39)) _ (n := w.heap.size + 1 + 1) (by simp)) (fun h => h)
  have hm : mvP c f 12 x = (1, 0) := by unfold mvP; simp
  rw [hm]
  dsimp only
  clear h hf hxv hm
  go_enter Tryd.func14, Tryd.ntmps14
  go_wp2_with fail
  go_ret2
  exact ⟨rfl, by first | exact HE3.out | exact HE3.out.drewN' _⟩

set_option maxRecDepth 100000 in
set_option maxHeartbeats 4000000 in
theorem rmoves_13 (a fv : Value) (c : Cd) (f : Fn) (x : Int) (w : World) (h : CdR w a fv c) (hf : FnR w f) : Calls Tryd.prog 14 #[.agg #[a, .int .i64 c.glob, fv], .agg #[.string f.name, .int .i64 f.params, .int .i64 f.locals, .bool f.result, f.v], .agg #[.int .i64 13, .int .i64 x]] w fun e w' => e = .returned (.tuple #[.int .i64 (mvP c f 13 x).1, .int .i64 (mvP c f 13 x).2]) ∧ Ext w w' := by
  obtain ⟨⟨xa, ca, rfl⟩, xf, cf, rfl⟩ := h.shapes
  obtain ⟨xv, cv, hxv⟩ := hf.shape
  rw [hxv]
  have hl1 := h.l1
  have hl2 := h.l2
  have hl3 := hf.len
  have HE3 : Hid (Ext w (((w.alloc (.cells #[.slice xa c.fields.length ca, .int .i64 c.glob, .slice xf c.funcs.length cf] 25)).alloc (.cells #[.string f.name, .int .i64 f.params, .int .i64 f.locals, .bool f.result, .slice xv f.code.length cv] 39)).alloc (.cells #[.int .i64 13, .int .i64 x] 46))) := (((Upd.refl _ w).alloc _).alloc _).alloc _
  have HXA : Hid (∀ W, Ext (((w.alloc (.cells #[.slice xa c.fields.length ca, .int .i64 c.glob, .slice xf c.funcs.length cf] 25)).alloc (.cells #[.string f.name, .int .i64 f.params, .int .i64 f.locals, .bool f.result, .slice xv f.code.length cv] 39)).alloc (.cells #[.int .i64 13, .int .i64 x] 46)) W → W.heap[w.heap.size]? = some (.cells #[.slice xa c.fields.length ca, .int .i64 c.glob, .slice xf c.funcs.length cf] 25)) := fun W hW => hW.heap (allocOld (allocOld (alloc0 w _) _) _) (fun h => h)
  have HXF : Hid (∀ W, Ext (((w.alloc (.cells #[.slice xa c.fields.length ca, .int .i64 c.glob, .slice xf c.funcs.length cf] 25)).alloc (.cells #[.string f.name, .int .i64 f.params, .int .i64 f.locals, .bool f.result, .slice xv f.code.length cv] 39)).alloc (.cells #[.int .i64 13, .int .i64 x] 46)) W → W.heap[w.heap.size + 1]? = some (.cells #[.string f.name, .int .i64 f.params, .int .i64 f.locals, .bool f.result, .slice xv f.code.length cv] 39)) := fun W hW => hW.heap (allocOld (alloc_at (w.alloc (.cells #[.slice xa c.fields.length ca, .int .i64 c.glob, .slice xf c.funcs.length cf] 25)) _ (n := w.heap.size + 1) (by simp)) _) (fun h => h)
  have HXI : Hid (∀ W, Ext (((w.alloc (.cells #[.slice xa c.fields.length ca, .int .i64 c.glob, .slice xf c.funcs.length cf] 25)).alloc (.cells #[.string f.name, .int .i64 f.params, .int .i64 f.locals, .bool f.result, .slice xv f.code.length cv] 39)).alloc (.cells #[.int .i64 13, .int .i64 x] 46)) W → W.heap[w.heap.size + 1 + 1]? = some (.cells #[.int .i64 13, .int .i64 x] 46)) := fun W hW => hW.heap (alloc_at ((w.alloc (.cells #[.slice xa c.fields.length ca, .int .i64 c.glob, .slice xf c.funcs.length cf] 25)).alloc (.cells #[.string f.name, .int .i64 f.params, .int .i64 f.locals, .bool f.result, .slice xv f.code.length cv] 39)) _ (n := w.heap.size + 1 + 1) (by simp)) (fun h => h)
  have hm : mvP c f 13 x = (0, 0) := by unfold mvP; simp
  rw [hm]
  dsimp only
  clear h hf hxv hm
  go_enter Tryd.func14, Tryd.ntmps14
  go_wp2_with fail
  go_ret2
  exact ⟨rfl, by first | exact HE3.out | exact HE3.out.drewN' _⟩

set_option maxRecDepth 100000 in
set_option maxHeartbeats 4000000 in
theorem rmoves_14 (a fv : Value) (c : Cd) (f : Fn) (x : Int) (w : World) (h : CdR w a fv c) (hf : FnR w f) : Calls Tryd.prog 14 #[.agg #[a, .int .i64 c.glob, fv], .agg #[.string f.name, .int .i64 f.params, .int .i64 f.locals, .bool f.result, f.v], .agg #[.int .i64 14, .int .i64 x]] w fun e w' => e = .returned (.tuple #[.int .i64 (mvP c f 14 x).1, .int .i64 (mvP c f 14 x).2]) ∧ Ext w w' := by
  obtain ⟨⟨xa, ca, rfl⟩, xf, cf, rfl⟩ := h.shapes
  obtain ⟨xv, cv, hxv⟩ := hf.shape
  rw [hxv]
  have hl1 := h.l1
  have hl2 := h.l2
  have hl3 := hf.len
  have HE3 : Hid (Ext w (((w.alloc (.cells #[.slice xa c.fields.length ca, .int .i64 c.glob, .slice xf c.funcs.length cf] 25)).alloc (.cells #[.string f.name, .int .i64 f.params, .int .i64 f.locals, .bool f.result, .slice xv f.code.length cv] 39)).alloc (.cells #[.int .i64 14, .int .i64 x] 46))) := (((Upd.refl _ w).alloc _).alloc _).alloc _
  have HXA : Hid (∀ W, Ext (((w.alloc (.cells #[.slice xa c.fields.length ca, .int .i64 c.glob, .slice xf c.funcs.length cf] 25)).alloc (.cells #[.string f.name, .int .i64 f.params, .int .i64 f.locals, .bool f.result, .slice xv f.code.length cv] 39)).alloc (.cells #[.int .i64 14, .int .i64 x] 46)) W → W.heap[w.heap.size]? = some (.cells #[.slice xa c.fields.length ca, .int .i64 c.glob, .slice xf c.funcs.length cf] 25)) := fun W hW => hW.heap (allocOld (allocOld (alloc0 w _) _) _) (fun h => h)
  have HXF : Hid (∀ W, Ext (((w.alloc (.cells #[.slice xa c.fields.length ca, .int .i64 c.glob, .slice xf c.funcs.length cf] 25)).alloc (.cells #[.string f.name, .int .i64 f.params, .int .i64 f.locals, .bool f.result, .slice xv f.code.length cv] 39)).alloc (.cells #[.int .i64 14, .int .i64 x] 46)) W → W.heap[w.heap.size + 1]? = some (.cells #[.string f.name, .int .i64 f.params, .int .i64 f.locals, .bool f.result, .slice xv f.code.length cv] 39)) := fun W hW => hW.heap (allocOld (alloc_at (w.alloc (.cells #[.slice xa c.fields.length ca, .int .i64 c.glob, .slice xf c.funcs.length cf] 25)) _ (n := w.heap.size + 1) (by simp)) _) (fun h => h)
  have HXI : Hid (∀ W, Ext (((w.alloc (.cells #[.slice xa c.fields.length ca, .int .i64 c.glob, .slice xf c.funcs.length cf] 25)).alloc (.cells #[.string f.name, .int .i64 f.params, .int .i64 f.locals, .bool f.result, .slice xv f.code.length cv] 39)).alloc (.cells #[.int .i64 14, .int .i64 x] 46)) W → W.heap[w.heap.size + 1 + 1]? = some (.cells #[.int .i64 14, .int .i64 x] 46)) := fun W hW => hW.heap (alloc_at ((w.alloc (.cells #[.slice xa c.fields.length ca, .int .i64 c.glob, .slice xf c.funcs.length cf] 25)).alloc (.cells #[.string f.name, .int .i64 f.params, .int .i64 f.locals, .bool f.result, .slice xv f.code.length cv] 39)) _ (n := w.heap.size + 1 + 1) (by simp)) (fun h => h)
  have hm : mvP c f 14 x = (1, 1) := by unfold mvP; simp
  rw [hm]
  dsimp only
  clear h hf hxv hm
  go_enter Tryd.func14, Tryd.ntmps14
  go_wp2_with fail
  go_ret2
  exact ⟨rfl, by first | exact HE3.out | exact HE3.out.drewN' _⟩

set_option maxRecDepth 100000 in
set_option maxHeartbeats 4000000 in
theorem rmoves_15 (a fv : Value) (c : Cd) (f : Fn) (x : Int) (w : World) (h : CdR w a fv c) (hf : FnR w f) : Calls Tryd.prog 14 #[.agg #[a, .int .i64 c.glob, fv], .agg #[.string f.name, .int .i64 f.params, .int .i64 f.locals, .bool f.result, f.v], .agg #[.int .i64 15, .int .i64 x]] w fun e w' => e = .returned (.tuple #[.int .i64 (mvP c f 15 x).1, .int .i64 (mvP c f 15 x).2]) ∧ Ext w w' := by
  obtain ⟨⟨xa, ca, rfl⟩, xf, cf, rfl⟩ := h.shapes
  obtain ⟨xv, cv, hxv⟩ := hf.shape
  rw [hxv]
  have hl1 := h.l1
  have hl2 := h.l2
  have hl3 := hf.len
  have HE3 : Hid (Ext w (((w.alloc (.cells #[.slice xa c.fields.length ca, .int .i64 c.glob, .slice xf c.funcs.length cf] 25)).alloc (.cells #[.string f.name, .int .i64 f.params, .int .i64 f.locals, .bool f.result, .slice xv f.code.length cv] 39)).alloc (.cells #[.int .i64 15, .int .i64 x] 46))) := (((Upd.refl _ w).alloc _).alloc _).alloc _
  have HXA : Hid (∀ W, Ext (((w.alloc (.cells #[.slice xa c.fields.length ca, .int .i64 c.glob, .slice xf c.funcs.length cf] 25)).alloc (.cells #[.string f.name, .int .i64 f.params, .int .i64 f.locals, .bool f.result, .slice xv f.code.length cv] 39)).alloc (.cells #[.int .i64 15, .int .i64 x] 46)) W → W.heap[w.heap.size]? = some (.cells #[.slice xa c.fields.length ca, .int .i64 c.glob, .slice xf c.funcs.length cf] 25)) := fun W hW => hW.heap (allocOld (allocOld (alloc0 w _) _) _) (fun h => h)
  have HXF : Hid (∀ W, Ext (((w.alloc (.cells #[.slice xa c.fields.length ca, .int .i64 c.glob, .slice xf c.funcs.length cf] 25)).alloc (.cells #[.string f.name, .int .i64 f.params, .int .i64 f.locals, .bool f.result, .slice xv f.code.length cv] 39)).alloc (.cells #[.int .i64 15, .int .i64 x] 46)) W → W.heap[w.heap.size + 1]? = some (.cells #[.string f.name, .int .i64 f.params, .int .i64 f.locals, .bool f.result, .slice xv f.code.length cv] 39)) := fun W hW => hW.heap (allocOld (alloc_at (w.alloc (.cells #[.slice xa c.fields.length ca, .int .i64 c.glob, .slice xf c.funcs.length cf] 25)) _ (n := w.heap.size + 1) (by simp)) _) (fun h => h)
  have HXI : Hid (∀ W, Ext (((w.alloc (.cells #[.slice xa c.fields.length ca, .int .i64 c.glob, .slice xf c.funcs.length cf] 25)).alloc (.cells #[.string f.name, .int .i64 f.params, .int .i64 f.locals, .bool f.result, .slice xv f.code.length cv] 39)).alloc (.cells #[.int .i64 15, .int .i64 x] 46)) W → W.heap[w.heap.size + 1 + 1]? = some (.cells #[.int .i64 15, .int .i64 x] 46)) := fun W hW => hW.heap (alloc_at ((w.alloc (.cells #[.slice xa c.fields.length ca, .int .i64 c.glob, .slice xf c.funcs.length cf] 25)).alloc (.cells #[.string f.name, .int .i64 f.params, .int .i64 f.locals, .bool f.result, .slice xv f.code.length cv] 39)) _ (n := w.heap.size + 1 + 1) (by simp)) (fun h => h)
  have hm : mvP c f 15 x = (2, 1) := by unfold mvP; simp
  rw [hm]
  dsimp only
  clear h hf hxv hm
  go_enter Tryd.func14, Tryd.ntmps14
  go_wp2_with fail
  go_ret2
  exact ⟨rfl, by first | exact HE3.out | exact HE3.out.drewN' _⟩

set_option maxRecDepth 100000 in
set_option maxHeartbeats 4000000 in
theorem rmoves_16 (a fv : Value) (c : Cd) (f : Fn) (x : Int) (w : World) (h : CdR w a fv c) (hf : FnR w f) : Calls Tryd.prog 14 #[.agg #[a, .int .i64 c.glob, fv], .agg #[.string f.name, .int .i64 f.params, .int .i64 f.locals, .bool f.result, f.v], .agg #[.int .i64 16, .int .i64 x]] w fun e w' => e = .returned (.tuple #[.int .i64 (mvP c f 16 x).1, .int .i64 (mvP c f 16 x).2]) ∧ Ext w w' := by
  obtain ⟨⟨xa, ca, rfl⟩, xf, cf, rfl⟩ := h.shapes
  obtain ⟨xv, cv, hxv⟩ := hf.shape
  rw [hxv]
  have hl1 := h.l1
  have hl2 := h.l2
  have hl3 := hf.len
  have HE3 : Hid (Ext w (((w.alloc (.cells #[.slice xa c.fields.length ca, .int .i64 c.glob, .slice xf c.funcs.length cf] 25)).alloc (.cells #[.string f.name, .int .i64 f.params, .int .i64 f.locals, .bool f.result, .slice xv f.code.length cv] 39)).alloc (.cells #[.int .i64 16, .int .i64 x] 46))) := (((Upd.refl _ w).alloc _).alloc _).alloc _
  have HXA : Hid (∀ W, Ext (((w.alloc (.cells #[.slice xa c.fields.length ca, .int .i64 c.glob, .slice xf c.funcs.length cf] 25)).alloc (.cells #[.string f.name, .int .i64 f.params, .int .i64 f.locals, .bool f.result, .slice xv f.code.length cv] 39)).alloc (.cells #[.int .i64 16, .int .i64 x] 46)) W → W.heap[w.heap.size]? = some (.cells #[.slice xa c.fields.length ca, .int .i64 c.glob, .slice xf c.funcs.length cf] 25)) := fun W hW => hW.heap (allocOld (allocOld (alloc0 w _) _) _) (fun h => h)
  have HXF : Hid (∀ W, Ext (((w.alloc (.cells #[.slice xa c.fields.length ca, .int .i64 c.glob, .slice xf c.funcs.length cf] 25)).alloc (.cells #[.string f.name, .int .i64 f.params, .int .i64 f.locals, .bool f.result, .slice xv f.code.length cv] 39)).alloc (.cells #[.int .i64 16, .int .i64 x] 46)) W → W.heap[w.heap.size + 1]? = some (.cells #[.string f.name, .int .i64 f.params, .int .i64 f.locals, .bool f.result, .slice xv f.code.length cv] 39)) := fun W hW => hW.heap (allocOld (alloc_at (w.alloc (.cells #[.slice xa c.fields.length ca, .int .i64 c.glob, .slice xf c.funcs.length cf] 25)) _ (n := w.heap.size + 1) (by simp)) _) (fun h => h)
  have HXI : Hid (∀ W, Ext (((w.alloc (.cells #[.slice xa c.fields.length ca, .int .i64 c.glob, .slice xf c.funcs.length cf] 25)).alloc (.cells #[.string f.name, .int .i64 f.params, .int .i64 f.locals, .bool f.result, .slice xv f.code.length cv] 39)).alloc (.cells #[.int .i64 16, .int .i64 x] 46)) W → W.heap[w.heap.size + 1 + 1]? = some (.cells #[.int .i64 16, .int .i64 x] 46)) := fun W hW => hW.heap (alloc_at ((w.alloc (.cells #[.slice xa c.fields.length ca, .int .i64 c.glob, .slice xf c.funcs.length cf] 25)).alloc (.cells #[.string f.name, .int .i64 f.params, .int .i64 f.locals, .bool f.result, .slice xv f.code.length cv] 39)) _ (n := w.heap.size + 1 + 1) (by simp)) (fun h => h)
  have hm : mvP c f 16 x = (2, 1) := by unfold mvP; simp
  rw [hm]
  dsimp only
  clear h hf hxv hm
  go_enter Tryd.func14, Tryd.ntmps14
  go_wp2_with fail
  go_ret2
  exact ⟨rfl, by first | exact HE3.out | exact HE3.out.drewN' _⟩

set_option maxRecDepth 100000 in
set_option maxHeartbeats 4000000 in
theorem rmoves_17 (a fv : Value) (c : Cd) (f : Fn) (x : Int) (w : World) (h : CdR w a fv c) (hf : FnR w f) : Calls Tryd.prog 14 #[.agg #[a, .int .i64 c.glob, fv], .agg #[.string f.name, .int .i64 f.params, .int .i64 f.locals, .bool f.result, f.v], .agg #[.int .i64 17, .int .i64 x]] w fun e w' => e = .returned (.tuple #[.int .i64 (mvP c f 17 x).1, .int .i64 (mvP c f 17 x).2]) ∧ Ext w w' := by
  obtain ⟨⟨xa, ca, rfl⟩, xf, cf, rfl⟩ := h.shapes
  obtain ⟨xv, cv, hxv⟩ := hf.shape
  rw [hxv]
  have hl1 := h.l1
  have hl2 := h.l2
  have hl3 := hf.len
  have HE3 : Hid (Ext w (((w.alloc (.cells #[.slice xa c.fields.length ca, .int .i64 c.glob, .slice xf c.funcs.length cf] 25)).alloc (.cells #[.string f.name, .int .i64 f.params, .int .i64 f.locals, .bool f.result, .slice xv f.code.length cv] 39)).alloc (.cells #[.int .i64 17, .int .i64 x] 46))) := (((Upd.refl _ w).alloc _).alloc _).alloc _
  have HXA : Hid (∀ W, Ext (((w.alloc (.cells #[.slice xa c.fields.length ca, .int .i64 c.glob, .slice xf c.funcs.length cf] 25)).alloc (.cells #[.string f.name, .int .i64 f.params, .int .i64 f.locals, .bool f.result, .slice xv f.code.length cv] 39)).alloc (.cells #[.int .i64 17, .int .i64 x] 46)) W → W.heap[w.heap.size]? = some (.cells #[.slice xa c.fields.length ca, .int .i64 c.glob, .slice xf c.funcs.length cf] 25)) := fun W hW => hW.heap (allocOld (allocOld (alloc0 w _) _) _) (fun h => h)
  have HXF : Hid (∀ W, Ext (((w.alloc (.cells #[.slice xa c.fields.length ca, .int .i64 c.glob, .slice xf c.funcs.length cf] 25)).alloc (.cells #[.string f.name, .int .i64 f.params, .int .i64 f.locals, .bool f.result, .slice xv f.code.length cv] 39)).alloc (.cells #[.int .i64 17, .int .i64 x] 46)) W → W.heap[w.heap.size + 1]? = some (.cells #[.string f.name, .int .i64 f.params, .int .i64 f.locals, .bool f.result, .slice xv f.code.length cv] 39)) := fun W hW => hW.heap (allocOld (alloc_at (w.alloc (.cells #[.slice xa c.fields.length ca, .int .i64 c.glob, .slice xf c.funcs.length cf] 25)) _ (n := w.heap.size + 1) (by simp)) _) (fun h => h)
  have HXI : Hid (∀ W, Ext (((w.alloc (.cells #[.slice xa c.fields.length ca, .int .i64 c.glob, .slice xf c.funcs.length cf] 25)).alloc (.cells #[.string f.name, .int .i64 f.params, .int .i64 f.locals, .bool f.result, .slice xv f.code.length cv] 39)).alloc (.cells #[.int .i64 17, .int .i64 x] 46)) W → W.heap[w.heap.size + 1 + 1]? = some (.cells #[.int .i64 17, .int .i64 x] 46)) := fun W hW => hW.heap (alloc_at ((w.alloc (.cells #[.slice xa c.fields.length ca, .int .i64 c.glob, .slice xf c.funcs.length cf] 25)).alloc (.cells #[.string f.name, .int .i64 f.params, .int .i64 f.locals, .bool f.result, .slice xv f.code.length cv] 39)) _ (n := w.heap.size + 1 + 1) (by simp)) (fun h => h)
  have hm : mvP c f 17 x = (2, 1) := by unfold mvP; simp
  rw [hm]
  dsimp only
  clear h hf hxv hm
  go_enter Tryd.func14, Tryd.ntmps14
  go_wp2_with fail
  go_ret2
  exact ⟨rfl, by first | exact HE3.out | exact HE3.out.drewN' _⟩

set_option maxRecDepth 100000 in
set_option maxHeartbeats 4000000 in
theorem rmoves_18 (a fv : Value) (c : Cd) (f : Fn) (x : Int) (w : World) (h : CdR w a fv c) (hf : FnR w f) : Calls Tryd.prog 14 #[.agg #[a, .int .i64 c.glob, fv], .agg #[.string f.name, .int .i64 f.params, .int .i64 f.locals, .bool f.result, f.v], .agg #[.int .i64 18, .int .i64 x]] w fun e w' => e = .returned (.tuple #[.int .i64 (mvP c f 18 x).1, .int .i64 (mvP c f 18 x).2]) ∧ Ext w w' := by
  obtain ⟨⟨xa, ca, rfl⟩, xf, cf, rfl⟩ := h.shapes
  obtain ⟨xv, cv, hxv⟩ := hf.shape
  rw [hxv]
  have hl1 := h.l1
  have hl2 := h.l2
  have hl3 := hf.len
  have HE3 : Hid (Ext w (((w.alloc (.cells #[.slice xa c.fields.length ca, .int .i64 c.glob, .slice xf c.funcs.length cf] 25)).alloc (.cells #[.string f.name, .int .i64 f.params, .int .i64 f.locals, .bool f.result, .slice xv f.code.length cv] 39)).alloc (.cells #[.int .i64 18, .int .i64 x] 46))) := (((Upd.refl _ w).alloc _).alloc _).alloc _
  have HXA : Hid (∀ W, Ext (((w.alloc (.cells #[.slice xa c.fields.length ca, .int .i64 c.glob, .slice xf c.funcs.length cf] 25)).alloc (.cells #[.string f.name, .int .i64 f.params, .int .i64 f.locals, .bool f.result, .slice xv f.code.length cv] 39)).alloc (.cells #[.int .i64 18, .int .i64 x] 46)) W → W.heap[w.heap.size]? = some (.cells #[.slice xa c.fields.length ca, .int .i64 c.glob, .slice xf c.funcs.length cf] 25)) := fun W hW => hW.heap (allocOld (allocOld (alloc0 w _) _) _) (fun h => h)
  have HXF : Hid (∀ W, Ext (((w.alloc (.cells #[.slice xa c.fields.length ca, .int .i64 c.glob, .slice xf c.funcs.length cf] 25)).alloc (.cells #[.string f.name, .int .i64 f.params, .int .i64 f.locals, .bool f.result, .slice xv f.code.length cv] 39)).alloc (.cells #[.int .i64 18, .int .i64 x] 46)) W → W.heap[w.heap.size + 1]? = some (.cells #[.string f.name, .int .i64 f.params, .int .i64 f.locals, .bool f.result, .slice xv f.code.length cv] 39)) := fun W hW => hW.heap (allocOld (alloc_at (w.alloc (.cells #[.slice xa c.fields.length ca, .int .i64 c.glob, .slice xf c.funcs.length cf] 25)) _ (n := w.heap.size + 1) (by simp)) _) (fun h => h)
  have HXI : Hid (∀ W, Ext (((w.alloc (.cells #[.slice xa c.fields.length ca, .int .i64 c.glob, .slice xf c.funcs.length cf] 25)).alloc (.cells #[.string f.name, .int .i64 f.params, .int .i64 f.locals, .bool f.result, .slice xv f.code.length cv] 39)).alloc (.cells #[.int .i64 18, .int .i64 x] 46)) W → W.heap[w.heap.size + 1 + 1]? = some (.cells #[.int .i64 18, .int .i64 x] 46)) := fun W hW => hW.heap (alloc_at ((w.alloc (.cells #[.slice xa c.fields.length ca, .int .i64 c.glob, .slice xf c.funcs.length cf] 25)).alloc (.cells #[.string f.name, .int .i64 f.params, .int .i64 f.locals, .bool f.result, .slice xv f.code.length cv] 39)) _ (n := w.heap.size + 1 + 1) (by simp)) (fun h => h)
  have hm : mvP c f 18 x = (2, 1) := by unfold mvP; simp
  rw [hm]
  dsimp only
  clear h hf hxv hm
  go_enter Tryd.func14, Tryd.ntmps14
  go_wp2_with fail
  go_ret2
  exact ⟨rfl, by first | exact HE3.out | exact HE3.out.drewN' _⟩

set_option maxRecDepth 100000 in
set_option maxHeartbeats 4000000 in
theorem rmoves_19 (a fv : Value) (c : Cd) (f : Fn) (x : Int) (w : World) (h : CdR w a fv c) (hf : FnR w f) : Calls Tryd.prog 14 #[.agg #[a, .int .i64 c.glob, fv], .agg #[.string f.name, .int .i64 f.params, .int .i64 f.locals, .bool f.result, f.v], .agg #[.int .i64 19, .int .i64 x]] w fun e w' => e = .returned (.tuple #[.int .i64 (mvP c f 19 x).1, .int .i64 (mvP c f 19 x).2]) ∧ Ext w w' := by
  obtain ⟨⟨xa, ca, rfl⟩, xf, cf, rfl⟩ := h.shapes
  obtain ⟨xv, cv, hxv⟩ := hf.shape
  rw [hxv]
  have hl1 := h.l1
  have hl2 := h.l2
  have hl3 := hf.len
  have HE3 : Hid (Ext w (((w.alloc (.cells #[.slice xa c.fields.length ca, .int .i64 c.glob, .slice xf c.funcs.length cf] 25)).alloc (.cells #[.string f.name, .int .i64 f.params, .int .i64 f.locals, .bool f.result, .slice xv f.code.length cv] 39)).alloc (.cells #[.int .i64 19, .int .i64 x] 46))) := (((Upd.refl _ w).alloc _).alloc _).alloc _
  have HXA : Hid (∀ W, Ext (((w.alloc (.cells #[.slice xa c.fields.length ca, .int .i64 c.glob, .slice xf c.funcs.length cf] 25)).alloc (.cells #[.string f.name, .int .i64 f.params, .int .i64 f.locals, .bool f.result, .slice xv f.code.length cv] 39)).alloc (.cells #[.int .i64 19, .int .i64 x] 46)) W → W.heap[w.heap.size]? = some (.cells #[.slice xa c.fields.length ca, .int .i64 c.glob, .slice xf c.funcs.length cf] 25)) := fun W hW => hW.heap (allocOld (allocOld (alloc0 w _) _) _) (fun h => h)
  have HXF : Hid (∀ W, Ext (((w.alloc (.cells #[.slice xa c.fields.length ca, .int .i64 c.glob, .slice xf c.funcs.length cf] 25)).alloc (.cells #[.string f.name, .int .i64 f.params, .int .i64 f.locals, .bool f.result, .slice xv f.code.length cv] 39)).alloc (.cells #[.int .i64 19, .int .i64 x] 46)) W → W.heap[w.heap.size + 1]? = some (.cells #[.string f.name, .int .i64 f.params, .int .i64 f.locals, .bool f.result, .slice xv f.code.length cv] 39)) := fun W hW => hW.heap (allocOld (alloc_at (w.alloc (.cells #[.slice xa c.fields.length ca, .int .i64 c.glob, .slice xf c.funcs.length cf] 25)) _ (n := w.heap.size + 1) (by simp)) _) (fun h => h)
  have HXI : Hid (∀ W, Ext (((w.alloc (.cells #[.slice xa c.fields.length ca, .int .i64 c.glob, .slice xf c.funcs.length cf] 25)).alloc (.cells #[.string f.name, .int .i64 f.params, .int .i64 f.locals, .bool f.result, .slice xv f.code.length cv] 39)).alloc (.cells #[.int .i64 19, .int .i64 x] 46)) W → W.heap[w.heap.size + 1 + 1]? = some (.cells #[.int .i64 19, .int .i64 x] 46)) := fun W hW => hW.heap (alloc_at ((w.alloc (.cells #[.slice xa c.fields.length ca, .int .i64 c.glob, .slice xf c.funcs.length cf] 25)).alloc (.cells #[.string f.name, .int .i64 f.params, .int .i64 f.locals, .bool f.result, .slice xv f.code.length cv] 39)) _ (n := w.heap.size + 1 + 1) (by simp)) (fun h => h)
  have hm : mvP c f 19 x = (2, 1) := by unfold mvP; simp
  rw [hm]
  dsimp only
  clear h hf hxv hm
  go_enter Tryd.func14, Tryd.ntmps14
  go_wp2_with fail
  go_ret2
  exact ⟨rfl, by first | exact HE3.out | exact HE3.out.drewN' _⟩

set_option maxRecDepth 100000 in
set_option maxHeartbeats 4000000 in
theorem rmoves_20 (a fv : Value) (c : Cd) (f : Fn) (x : Int) (w : World) (h : CdR w a fv c) (hf : FnR w f) : Calls Tryd.prog 14 #[.agg #[a, .int .i64 c.glob, fv], .agg #[.string f.name, .int .i64 f.params, .int .i64 f.locals, .bool f.result, f.v], .agg #[.int .i64 20, .int .i64 x]] w fun e w' => e = .returned (.tuple #[.int .i64 (mvP c f 20 x).1, .int .i64 (mvP c f 20 x).2]) ∧ Ext w w' := by
  obtain ⟨⟨xa, ca, rfl⟩, xf, cf, rfl⟩ := h.shapes
  obtain ⟨xv, cv, hxv⟩ := hf.shape
  rw [hxv]
  have hl1 := h.l1
  have hl2 := h.l2
  have hl3 := hf.len
  have HE3 : Hid (Ext w (((w.alloc (.cells #[.slice xa c.fields.length ca, .int .i64 c.glob, .slice xf c.funcs.length cf] 25)).alloc (.cells #[.string f.name, .int .i64 f.params, .int .i64 f.locals, .bool f.result, .slice xv f.code.length cv] 39)).alloc (.cells #[.int .i64 20, .int .i64 x] 46))) := (((Upd.refl _ w).alloc _).alloc _).alloc _
  have HXA : Hid (∀ W, Ext (((w.alloc (.cells #[.slice xa c.fields.length ca, .int .i64 c.glob, .slice xf c.funcs.length cf] 25)).alloc (.cells #[.string f.name, .int .i64 f.params, .int .i64 f.locals, .bool f.result, .slice xv f.code.length cv] 39)).alloc (.cells #[.int .i64 20, .int .i64 x] 46)) W → W.heap[w.heap.size]? = some (.cells #[.slice xa c.fields.length ca, .int .i64 c.glob, .slice xf c.funcs.length cf] 25)) := fun W hW => hW.heap (allocOld (allocOld (alloc0 w _) _) _) (fun h => h)
  have HXF : Hid (∀ W, Ext (((w.alloc (.cells #[.slice xa c.fields.length ca, .int .i64 c.glob, .slice xf c.funcs.length cf] 25)).alloc (.cells #[.string f.name, .int .i64 f.params, .int .i64 f.locals, .bool f.result, .slice xv f.code.length cv] 39)).alloc (.cells #[.int .i64 20, .int .i64 x] 46)) W → W.heap[w.heap.size + 1]? = some (.cells #[.string f.name, .int .i64 f.params, .int .i64 f.locals, .bool f.result, .slice xv f.code.length cv] 39)) := fun W hW => hW.heap (allocOld (alloc_at (w.alloc (.cells #[.slice xa c.fields.length ca, .int .i64 c.glob, .slice xf c.funcs.length cf] 25)) _ (n := w.heap.size + 1) (by simp)) _) (fun h => h)
  have HXI : Hid (∀ W, Ext (((w.alloc (.cells #[.slice xa c.fields.length ca, .int .i64 c.glob, .slice xf c.funcs.length cf] 25)).alloc (.cells #[.string f.name, .int .i64 f.params, .int .i64 f.locals, .bool f.result, .slice xv f.code.length cv] 39)).alloc (.cells #[.int .i64 20, .int .i64 x] 46)) W → W.heap[w.heap.size + 1 + 1]? = some (.cells #[.int .i64 20, .int .i64 x] 46)) := fun W hW => hW.heap (alloc_at ((w.alloc (.cells #[.slice xa c.fields.length ca, .int .i64 c.glob, .slice xf c.funcs.length cf] 25)).alloc (.cells #[.string f.name, .int .i64 f.params, .int .i64 f.locals, .bool f.result, .slice xv f.code.length cv] 39)) _ (n := w.heap.size + 1 + 1) (by simp)) (fun h => h)
  have hm : mvP c f 20 x = (2, 1) := by unfold mvP; simp
  rw [hm]
  dsimp only
  clear h hf hxv hm
  go_enter Tryd.func14, Tryd.ntmps14
  go_wp2_with fail
  go_ret2
  exact ⟨rfl, by first | exact HE3.out | exact HE3.out.drewN' _⟩

set_option maxRecDepth 100000 in
set_option maxHeartbeats 4000000 in
theorem rmoves_21 (a fv : Value) (c : Cd) (f : Fn) (x : Int) (w : World) (h : CdR w a fv c) (hf : FnR w f) : Calls Tryd.prog 14 #[.agg #[a, .int .i64 c.glob, fv], .agg #[.string f.name, .int .i64 f.params, .int .i64 f.locals, .bool f.result, f.v], .agg #[.int .i64 21, .int .i64 x]] w fun e w' => e = .returned (.tuple #[.int .i64 (mvP c f 21 x).1, .int .i64 (mvP c f 21 x).2]) ∧ Ext w w' := by
  obtain ⟨⟨xa, ca, rfl⟩, xf, cf, rfl⟩ := h.shapes
  obtain ⟨xv, cv, hxv⟩ := hf.shape
  rw [hxv]
  have hl1 := h.l1
  have hl2 := h.l2
  have hl3 := hf.len
  have HE3 : Hid (Ext w (((w.alloc (.cells #[.slice xa c.fields.length ca, .int .i64 c.glob, .slice xf c.funcs.length cf] 25)).alloc (.cells #[.string f.name, .int .i64 f.params, .int .i64 f.locals, .bool f.result, .slice xv f.code.length cv] 39)).alloc (.cells #[.int .i64 21, .int .i64 x] 46))) := (((Upd.refl _ w).alloc _).alloc _).alloc _
  have HXA : Hid (∀ W, Ext (((w.alloc (.cells #[.slice xa c.fields.length ca, .int .i64 c.glob, .slice xf c.funcs.length cf] 25)).alloc (.cells #[.string f.name, .int .i64 f.params, .int .i64 f.locals, .bool f.result, .slice xv f.code.length cv] 39)).alloc (.cells #[.int .i64 21, .int .i64 x] 46)) W → W.heap[w.heap.size]? = some (.cells #[.slice xa c.fields.length ca, .int .i64 c.glob, .slice xf c.funcs.length cf] 25)) := fun W hW => hW.heap (allocOld (allocOld (alloc0 w _) _) _) (fun h => h)
  have HXF : Hid (∀ W, Ext (((w.alloc (.cells #[.slice xa c.fields.length ca, .int .i64 c.glob, .slice xf c.funcs.length cf] 25)).alloc (.cells #[.string f.name, .int .i64 f.params, .int .i64 f.locals, .bool f.result, .slice xv f.code.length cv] 39)).alloc (.cells #[.int .i64 21, .int .i64 x] 46)) W → W.heap[w.heap.size + 1]? = some (.cells #[.string f.name, .int .i64 f.params, .int .i64 f.locals, .bool f.result, .slice xv f.code.length cv] 39)) := fun W hW => hW.heap (allocOld (alloc_at (w.alloc (.cells #[.slice xa c.fields.length ca, .int .i64 c.glob, .slice xf c.funcs.length cf] 25)) _ (n := w.heap.size + 1) (by simp)) _) (fun h => h)
  have HXI : Hid (∀ W, Ext (((w.alloc (.cells #[.slice xa c.fields.length ca, .int .i64 c.glob, .slice xf c.funcs.length cf] 25)).alloc (.cells #[.string f.name, .int .i64 f.params, .int .i64 f.locals, .bool f.result, .slice xv f.code.length cv] 39)).alloc (.cells #[.int .i64 21, .int .i64 x] 46)) W → W.heap[w.heap.size + 1 + 1]? = some (.cells #[.int .i64 21, .int .i64 x] 46)) := fun W hW => hW.heap (alloc_at ((w.alloc (.cells #[.slice xa c.fields.length ca, .int .i64 c.glob, .slice xf c.funcs.length cf] 25)).alloc (.cells #[.string f.name, .int .i64 f.params, .int .i64 f.locals, .bool f.result, .slice xv f.code.length cv] 39)) _ (n := w.heap.size + 1 + 1) (by simp)) (fun h => h)
  have hm : mvP c f 21 x = (2, 1) := by unfold mvP; simp
  rw [hm]
  dsimp only
  clear h hf hxv hm
  go_enter Tryd.func14, Tryd.ntmps14
  go_wp2_with fail
  go_ret2
  exact ⟨rfl, by first | exact HE3.out | exact HE3.out.drewN' _⟩

set_option maxRecDepth 100000 in
set_option maxHeartbeats 4000000 in
theorem rmoves_22 (a fv : Value) (c : Cd) (f : Fn) (x : Int) (w : World) (h : CdR w a fv c) (hf : FnR w f) : Calls Tryd.prog 14 #[.agg #[a, .int .i64 c.glob, fv], .agg #[.string f.name, .int .i64 f.params, .int .i64 f.locals, .bool f.result, f.v], .agg #[.int .i64 22, .int .i64 x]] w fun e w' => e = .returned (.tuple #[.int .i64 (mvP c f 22 x).1, .int .i64 (mvP c f 22 x).2]) ∧ Ext w w' := by
  obtain ⟨⟨xa, ca, rfl⟩, xf, cf, rfl⟩ := h.shapes
  obtain ⟨xv, cv, hxv⟩ := hf.shape
  rw [hxv]
  have hl1 := h.l1
  have hl2 := h.l2
  have hl3 := hf.len
  have HE3 : Hid (Ext w (((w.alloc (.cells #[.slice xa c.fields.length ca, .int .i64 c.glob, .slice xf c.funcs.length cf] 25)).alloc (.cells #[.string f.name, .int .i64 f.params, .int .i64 f.locals, .bool f.result, .slice xv f.code.length cv] 39)).alloc (.cells #[.int .i64 22, .int .i64 x] 46))) := (((Upd.refl _ w).alloc _).alloc _).alloc _
  have HXA : Hid (∀ W, Ext (((w.alloc (.cells #[.slice xa c.fields.length ca, .int .i64 c.glob, .slice xf c.funcs.length cf] 25)).alloc (.cells #[.string f.name, .int .i64 f.params, .int .i64 f.locals, .bool f.result, .slice xv f.code.length cv] 39)).alloc (.cells #[.int .i64 22, .int .i64 x] 46)) W → W.heap[w.heap.size]? = some (.cells #[.slice xa c.fields.length ca, .int .i64 c.glob, .slice xf c.funcs.length cf] 25)) := fun W hW => hW.heap (allocOld (allocOld (alloc0 w _) _) _) (fun h => h)
  have HXF : Hid (∀ W, Ext (((w.alloc (.cells #[.slice xa c.fields.length ca, .int .i64 c.glob, .slice xf c.funcs.length cf] 25)).alloc (.cells #[.string f.name, .int .i64 f.params, .int .i64 f.locals, .bool f.result, .slice xv f.code.length cv] 39)).alloc (.cells #[.int .i64 22, .int .i64 x] 46)) W → W.heap[w.heap.size + 1]? = some (.cells #[.string f.name, .int .i64 f.params, .int .i64 f.locals, .bool f.result, .slice xv f.code.length cv] 39)) := fun W hW => hW.heap (allocOld (alloc_at (w.alloc (.cells #[.slice xa c.fields.length ca, .int .i64 c.glob, .slice xf c.funcs.length cf] 25)) _ (n := w.heap.size + 1) (by simp)) _) (fun h => h)
  have HXI : Hid (∀ W, Ext (((w.alloc (.cells #[.slice xa c.fields.length ca, .int .i64 c.glob, .slice xf c.funcs.length cf] 25)).alloc (.cells #[.string f.name, .int .i64 f.params, .int .i64 f.locals, .bool f.result, .slice xv f.code.length cv] 39)).alloc (.cells #[.int .i64 22, .int .i64 x] 46)) W → W.heap[w.heap.size + 1 + 1]? = some (.cells #[.int .i64 22, .int .i64 x] 46)) := fun W hW => hW.heap (alloc_at ((w.alloc (.cells #[.slice xa c.fields.length ca, .int .i64 c.glob, .slice xf c.funcs.length cf] 25)).alloc (.cells #[.string f.name, .int .i64 f.params, .int .i64 f.locals, .bool f.result, .slice xv f.code.length cv] 39)) _ (n := w.heap.size + 1 + 1) (by simp)) (fun h => h)
  have hm : mvP c f 22 x = (2, 1) := by unfold mvP; simp
  rw [hm]
  dsimp only
  clear h hf hxv hm
  go_enter Tryd.func14, Tryd.ntmps14
  go_wp2_with fail
  go_ret2
  exact ⟨rfl, by first | exact HE3.out | exact HE3.out.drewN' _⟩

set_option maxRecDepth 100000 in
set_option maxHeartbeats 4000000 in
theorem rmoves_23 (a fv : Value) (c : Cd) (f : Fn) (x : Int) (w : World) (h : CdR w a fv c) (hf : FnR w f) : Calls Tryd.prog 14 #[.agg #[a, .int .i64 c.glob, fv], .agg #[.string f.name, .int .i64 f.params, .int .i64 f.locals, .bool f.result, f.v], .agg #[.int .i64 23, .int .i64 x]] w fun e w' => e = .returned (.tuple #[.int .i64 (mvP c f 23 x).1, .int .i64 (mvP c f 23 x).2]) ∧ Ext w w' := by
  obtain ⟨⟨xa, ca, rfl⟩, xf, cf, rfl⟩ := h.shapes
  obtain ⟨xv, cv, hxv⟩ := hf.shape
  rw [hxv]
  have hl1 := h.l1
  have hl2 := h.l2
  have hl3 := hf.len
  have HE3 : Hid (Ext w (((w.alloc (.cells #[.slice xa c.fields.length ca, .int .i64 c.glob, .slice xf c.funcs.length cf] 25)).alloc (.cells #[.string f.name, .int .i64 f.params, .int .i64 f.locals, .bool f.result, .slice xv f.code.length cv] 39)).alloc (.cells #[.int .i64 23, .int .i64 x] 46))) := (((Upd.refl _ w).alloc _).alloc _).alloc _
  have HXA : Hid (∀ W, Ext (((w.alloc (.cells #[.slice xa c.fields.length ca, .int .i64 c.glob, .slice xf c.funcs.length cf] 25)).alloc (.cells #[.string f.name, .int .i64 f.params, .int .i64 f.locals, .bool f.result, .slice xv f.code.length cv] 39)).alloc (.cells #[.int .i64 23, .int .i64 x] 46)) W → W.heap[w.heap.size]? = some (.cells #[.slice xa c.fields.length ca, .int .i64 c.glob, .slice xf c.funcs.length cf] 25)) := fun W hW => hW.heap (allocOld (allocOld (alloc0 w _) _) _) (fun h => h)
  have HXF : Hid (∀ W, Ext (((w.alloc (.cells #[.slice xa c.fields.length ca, .int .i64 c.glob, .slice xf c.funcs.length cf] 25)).alloc (.cells #[.string f.name, .int .i64 f.params, .int .i64 f.locals, .bool f.result, .slice xv f.code.length cv] 39)).alloc (.cells #[.int .i64 23, .int .i64 x] 46)) W → W.heap[w.heap.size + 1]? = some (.cells #[.string f.name, .int .i64 f.params, .int .i64 f.locals, .bool f.result, .slice xv f.code.length cv] 39)) := fun W hW => hW.heap (allocOld (alloc_at (w.alloc (.cells #[.slice xa c.fields.length ca, .int .i64 c.glob, .slice xf c.funcs.length cf] 25)) _ (n := w.heap.size + 1) (by simp)) _) (fun h => h)
  have HXI : Hid (∀ W, Ext (((w.alloc (.cells #[.slice xa c.fields.length ca, .int .i64 c.glob, .slice xf c.funcs.length cf] 25)).alloc (.cells #[.string f.name, .int .i64 f.params, .int .i64 f.locals, .bool f.result, .slice xv f.code.length cv] 39)).alloc (.cells #[.int .i64 23, .int .i64 x] 46)) W → W.heap[w.heap.size + 1 + 1]? = some (.cells #[.int .i64 23, .int .i64 x] 46)) := fun W hW => hW.heap (alloc_at ((w.alloc (.cells #[.slice xa c.fields.length ca, .int .i64 c.glob, .slice xf c.funcs.length cf] 25)).alloc (.cells #[.string f.name, .int .i64 f.params, .int .i64 f.locals, .bool f.result, .slice xv f.code.length cv] 39)) _ (n := w.heap.size + 1 + 1) (by simp)) (fun h => h)
  have hm : mvP c f 23 x = (2, 1) := by unfold mvP; simp
  rw [hm]
  dsimp only
  clear h hf hxv hm
  go_enter Tryd.func14, Tryd.ntmps14
  go_wp2_with fail
  go_ret2
  exact ⟨rfl, by first | exact HE3.out | exact HE3.out.drewN' _⟩

set_option maxRecDepth 100000 in
set_option maxHeartbeats 4000000 in
theorem rmoves_24 (a fv : Value) (c : Cd) (f : Fn) (x : Int) (w : World) (h : CdR w a fv c) (hf : FnR w f) : Calls Tryd.prog 14 #[.agg #[a, .int .i64 c.glob, fv], .agg #[.string f.name, .int .i64 f.params, .int .i64 f.locals, .bool f.result, f.v], .agg #[.int .i64 24, .int .i64 x]] w fun e w' => e = .returned (.tuple #[.int .i64 (mvP c f 24 x).1, .int .i64 (mvP c f 24 x).2]) ∧ Ext w w' := by
  obtain ⟨⟨xa, ca, rfl⟩, xf, cf, rfl⟩ := h.shapes
  obtain ⟨xv, cv, hxv⟩ := hf.shape
  rw [hxv]
  have hl1 := h.l1
  have hl2 := h.l2
  have hl3 := hf.len
  have HE3 : Hid (Ext w (((w.alloc (.cells #[.slice xa c.fields.length ca, .int .i64 c.glob, .slice xf c.funcs.length cf] 25)).alloc (.cells #[.string f.name, .int .i64 f.params, .int .i64 f.locals, .bool f.result, .slice xv f.code.length cv] 39)).alloc (.cells #[.int .i64 24, .int .i64 x] 46))) := (((Upd.refl _ w).alloc _).alloc _).alloc _
  have HXA : Hid (∀ W, Ext (((w.alloc (.cells #[.slice xa c.fields.length ca, .int .i64 c.glob, .slice xf c.funcs.length cf] 25)).alloc (.cells #[.string f.name, .int .i64 f.params, .int .i64 f.locals, .bool f.result, .slice xv f.code.length cv] 39)).alloc (.cells #[.int .i64 24, .int .i64 x] 46)) W → W.heap[w.heap.size]? = some (.cells #[.slice xa c.fields.length ca, .int .i64 c.glob, .slice xf c.funcs.length cf] 25)) := fun W hW => hW.heap (allocOld (allocOld (alloc0 w _) _) _) (fun h => h)
  have HXF : Hid (∀ W, Ext (((w.alloc (.cells #[.slice xa c.fields.length ca, .int .i64 c.glob, .slice xf c.funcs.length cf] 25)).alloc (.cells #[.string f.name, .int .i64 f.params, .int .i64 f.locals, .bool f.result, .slice xv f.code.length cv] 39)).alloc (.cells #[.int .i64 24, .int .i64 x] 46)) W → W.heap[w.heap.size + 1]? = some (.cells #[.string f.name, .int .i64 f.params, .int .i64 f.locals, .bool f.result, .slice xv f.code.length cv] 39)) := fun W hW => hW.heap (allocOld (alloc_at (w.alloc (.cells #[.slice xa c.fields.length ca, .int .i64 c.glob, .slice xf c.funcs.length cf] 25)) _ (n := w.heap.size + 1) (by simp)) _) (fun h => h)
  have HXI : Hid (∀ W, Ext (((w.alloc (.cells #[.slice xa c.fields.length ca, .int .i64 c.glob, .slice xf c.funcs.length cf] 25)).alloc (.cells #[.string f.name, .int .i64 f.params, .int .i64 f.locals, .bool f.result, .slice xv f.code.length cv] 39)).alloc (.cells #[.int .i64 24, .int .i64 x] 46)) W → W.heap[w.heap.size + 1 + 1]? = some (.cells #[.int .i64 24, .int .i64 x] 46)) := fun W hW => hW.heap (alloc_at ((w.alloc (.cells #[.slice xa c.fields.length ca, .int .i64 c.glob, .slice xf c.funcs.length cf] 25)).alloc (.cells #[.string f.name, .int .i64 f.params, .int .i64 f.locals, .bool f.result, .slice xv f.code.length cv] 39)) _ (n := w.heap.size + 1 + 1) (by simp)) (fun h => h)
  have hm : mvP c f 24 x = (2, 1) := by unfold mvP; simp
  rw [hm]
  dsimp only
  clear h hf hxv hm
  go_enter Tryd.func14, Tryd.ntmps14
  go_wp2_with fail
  go_ret2
  exact ⟨rfl, by first | exact HE3.out | exact HE3.out.drewN' _⟩

set_option maxRecDepth 100000 in
set_option maxHeartbeats 4000000 in
theorem rmoves_25 (a fv : Value) (c : Cd) (f : Fn) (x : Int) (w : World) (h : CdR w a fv c) (hf : FnR w f) : Calls Tryd.prog 14 #[.agg #[a, .int .i64 c.glob, fv], .agg #[.string f.name, .int .i64 f.params, .int .i64 f.locals, .bool f.result, f.v], .agg #[.int .i64 25, .int .i64 x]] w fun e w' => e = .returned (.tuple #[.int .i64 (mvP c f 25 x).1, .int .i64 (mvP c f 25 x).2]) ∧ Ext w w' := by
  obtain ⟨⟨xa, ca, rfl⟩, xf, cf, rfl⟩ := h.shapes
  obtain ⟨xv, cv, hxv⟩ := hf.shape
  rw [hxv]
  have hl1 := h.l1
  have hl2 := h.l2
  have hl3 := hf.len
  have HE3 : Hid (Ext w (((w.alloc (.cells #[.slice xa c.fields.length ca, .int .i64 c.glob, .slice xf c.funcs.length cf] 25)).alloc (.cells #[.string f.name, .int .i64 f.params, .int .i64 f.locals, .bool f.result, .slice xv f.code.length cv] 39)).alloc (.cells #[.int .i64 25, .int .i64 x] 46))) := (((Upd.refl _ w).alloc _).alloc _).alloc _
  have HXA : Hid (∀ W, Ext (((w.alloc (.cells #[.slice xa c.fields.length ca, .int .i64 c.glob, .slice xf c.funcs.length cf] 25)).alloc (.cells #[.string f.name, .int .i64 f.params, .int .i64 f.locals, .bool f.result, .slice xv f.code.length cv] 39)).alloc (.cells #[.int .i64 25, .int .i64 x] 46)) W → W.heap[w.heap.size]? = some (.cells #[.slice xa c.fields.length ca, .int .i64 c.glob, .slice xf c.funcs.length cf] 25)) := fun W hW => hW.heap (allocOld (allocOld (alloc0 w _) _) _) (fun h => h)
  have HXF : Hid (∀ W, Ext (((w.alloc (.cells #[.slice xa c.fields.length ca, .int .i64 c.glob, .slice xf c.funcs.length cf] 25)).alloc (.cells #[.string f.name, .int .i64 f.params, .int .i64 f.locals, .bool f.result, .slice xv f.code.length cv] 39)).alloc (.cells #[.int .i64 25, .int .i64 x] 46)) W → W.heap[w.heap.size + 1]? = some (.cells #[.string f.name, .int .i64 f.params, .int .i64 f.locals, .bool f.result, .slice xv f.code.length cv] 39)) := fun W hW => hW.heap (allocOld (alloc_at (w.alloc (.cells #[.slice xa c.fields.length ca, .int .i64 c.glob, .slice xf c.funcs.length cf] 25)) _ (n := w.heap.size + 1) (by simp)) _) (fun h => h)
  have HXI : Hid (∀ W, Ext (((w.alloc (.cells #[.slice xa c.fields.length ca, .int .i64 c.glob, .slice xf c.funcs.length cf] 25)).alloc (.cells #[.string f.name, .int .i64 f.params, .int .i64 f.locals, .bool f.result, .slice xv f.code.length cv] 39)).alloc (.cells #[.int .i64 25, .int .i64 x] 46)) W → W.heap[w.heap.size + 1 + 1]? = some (.cells #[.int .i64 25, .int .i64 x] 46)) := fun W hW => hW.heap (alloc_at ((w.alloc (.cells #[.slice xa c.fields.length ca, .int .i64 c.glob, .slice xf c.funcs.length cf] 25)).alloc (.cells #[.string f.name, .int .i64 f.params, .int .i64 f.locals, .bool f.result, .slice xv f.code.length cv] 39)) _ (n := w.heap.size + 1 + 1) (by simp)) (fun h => h)
  have hm : mvP c f 25 x = (2, 1) := by unfold mvP; simp
  rw [hm]
  dsimp only
  clear h hf hxv hm
  go_enter Tryd.func14, Tryd.ntmps14
  go_wp2_with fail
  go_ret2
  exact ⟨rfl, by first | exact HE3.out | exact HE3.out.drewN' _⟩

set_option maxRecDepth 100000 in
set_option maxHeartbeats 4000000 in
theorem rmoves_26 (a fv : Value) (c : Cd) (f : Fn) (x : Int) (w : World) (h : CdR w a fv c) (hf : FnR w f) : Calls Tryd.prog 14 #[.agg #[a, .int .i64 c.glob, fv], .agg #[.string f.name, .int .i64 f.params, .int .i64 f.locals, .bool f.result, f.v], .agg #[.int .i64 26, .int .i64 x]] w fun e w' => e = .returned (.tuple #[.int .i64 (mvP c f 26 x).1, .int .i64 (mvP c f 26 x).2]) ∧ Ext w w' := by
  obtain ⟨⟨xa, ca, rfl⟩, xf, cf, rfl⟩ := h.shapes
  obtain ⟨xv, cv, hxv⟩ := hf.shape
  rw [hxv]
  have hl1 := h.l1
  have hl2 := h.l2
  have hl3 := hf.len
  have HE3 : Hid (Ext w (((w.alloc (.cells #[.slice xa c.fields.length ca, .int .i64 c.glob, .slice xf c.funcs.length cf] 25)).alloc (.cells #[.string f.name, .int .i64 f.params, .int .i64 f.locals, .bool f.result, .slice xv f.code.length cv] 39)).alloc (.cells #[.int .i64 26, .int .i64 x] 46))) := (((Upd.refl _ w).alloc _).alloc _).alloc _
  have HXA : Hid (∀ W, Ext (((w.alloc (.cells #[.slice xa c.fields.length ca, .int .i64 c.glob, .slice xf c.funcs.length cf] 25)).alloc (.cells #[.string f.name, .int .i64 f.params, .int .i64 f.locals, .bool f.result, .slice xv f.code.length cv] 39)).alloc (.cells #[.int .i64 26, .int .i64 x] 46)) W → W.heap[w.heap.size]? = some (.cells #[.slice xa c.fields.length ca, .int .i64 c.glob, .slice xf c.funcs.length cf] 25)) := fun W hW => hW.heap (allocOld (allocOld (alloc0 w _) _) _) (fun h => h)
  have HXF : Hid (∀ W, Ext (((w.alloc (.cells #[.slice xa c.fields.length ca, .int .i64 c.glob, .slice xf c.funcs.length cf] 25)).alloc (.cells #[.string f.name, .int .i64 f.params, .int .i64 f.locals, .bool f.result, .slice xv f.code.length cv] 39)).alloc (.cells #[.int .i64 26, .int .i64 x] 46)) W → W.heap[w.heap.size + 1]? = some (.cells #[.string f.name, .int .i64 f.params, .int .i64 f.locals, .bool f.result, .slice xv f.code.length cv] 39)) := fun W hW => hW.heap (allocOld (alloc_at (w.alloc (.cells #[.slice xa c.fields.length ca, .int .i64 c.glob, .slice xf c.funcs.length cf] 25)) _ (n := w.heap.size + 1) (by simp)) _) (fun h => h)
  have HXI : Hid (∀ W, Ext (((w.alloc (.cells #[.slice xa c.fields.length ca, .int .i64 c.glob, .slice xf c.funcs.length cf] 25)).alloc (.cells #[.string f.name, .int .i64 f.params, .int .i64 f.locals, .bool f.result, .slice xv f.code.length cv] 39)).alloc (.cells #[.int .i64 26, .int .i64 x] 46)) W → W.heap[w.heap.size + 1 + 1]? = some (.cells #[.int .i64 26, .int .i64 x] 46)) := fun W hW => hW.heap (alloc_at ((w.alloc (.cells #[.slice xa c.fields.length ca, .int .i64 c.glob, .slice xf c.funcs.length cf] 25)).alloc (.cells #[.string f.name, .int .i64 f.params, .int .i64 f.locals, .bool f.result, .slice xv f.code.length cv] 39)) _ (n := w.heap.size + 1 + 1) (by simp)) (fun h => h)
  have hm : mvP c f 26 x = (1, 1) := by unfold mvP; simp
  rw [hm]
  dsimp only
  clear h hf hxv hm
  go_enter Tryd.func14, Tryd.ntmps14
  go_wp2_with fail
  go_ret2
  exact ⟨rfl, by first | exact HE3.out | exact HE3.out.drewN' _⟩

set_option maxRecDepth 100000 in
set_option maxHeartbeats 4000000 in
theorem rmoves_27 (a fv : Value) (c : Cd) (f : Fn) (x : Int) (w : World) (h : CdR w a fv c) (hf : FnR w f) : Calls Tryd.prog 14 #[.agg #[a, .int .i64 c.glob, fv], .agg #[.string f.name, .int .i64 f.params, .int .i64 f.locals, .bool f.result, f.v], .agg #[.int .i64 27, .int .i64 x]] w fun e w' => e = .returned (.tuple #[.int .i64 (mvP c f 27 x).1, .int .i64 (mvP c f 27 x).2]) ∧ Ext w w' := by
  obtain ⟨⟨xa, ca, rfl⟩, xf, cf, rfl⟩ := h.shapes
  obtain ⟨xv, cv, hxv⟩ := hf.shape
  rw [hxv]
  have hl1 := h.l1
  have hl2 := h.l2
  have hl3 := hf.len
  have HE3 : Hid (Ext w (((w.alloc (.cells #[.slice xa c.fields.length ca, .int .i64 c.glob, .slice xf c.funcs.length cf] 25)).alloc (.cells #[.string f.name, .int .i64 f.params, .int .i64 f.locals, .bool f.result, .slice xv f.code.length cv] 39)).alloc (.cells #[.int .i64 27, .int .i64 x] 46))) := (((Upd.refl _ w).alloc _).alloc _).alloc _
  have HXA : Hid (∀ W, Ext (((w.alloc (.cells #[.slice xa c.fields.length ca, .int .i64 c.glob, .slice xf c.funcs.length cf] 25)).alloc (.cells #[.string f.name, .int .i64 f.params, .int .i64 f.locals, .bool f.result, .slice xv f.code.length cv] 39)).alloc (.cells #[.int .i64 27, .int .i64 x] 46)) W → W.heap[w.heap.size]? = some (.cells #[.slice xa c.fields.length ca, .int .i64 c.glob, .slice xf c.funcs.length cf] 25)) := fun W hW => hW.heap (allocOld (allocOld (alloc0 w _) _) _) (fun h => h)
  have HXF : Hid (∀ W, Ext (((w.alloc (.cells #[.slice xa c.fields.length ca, .int .i64 c.glob, .slice xf c.funcs.length cf] 25)).alloc (.cells #[.string f.name, .int .i64 f.params, .int .i64 f.locals, .bool f.result, .slice xv f.code.length cv] 39)).alloc (.cells #[.int .i64 27, .int .i64 x] 46)) W → W.heap[w.heap.size + 1]? = some (.cells #[.string f.name, .int .i64 f.params, .int .i64 f.locals, .bool f.result, .slice xv f.code.length cv] 39)) := fun W hW => hW.heap (allocOld (alloc_at (w.alloc (.cells #[.slice xa c.fields.length ca, .int .i64 c.glob, .slice xf c.funcs.length cf] 25)) _ (n := w.heap.size + 1) (by simp)) _) (fun h => h)
  have HXI : Hid (∀ W, Ext (((w.alloc (.cells #[.slice xa c.fields.length ca, .int .i64 c.glob, .slice xf c.funcs.length cf] 25)).alloc (.cells #[.string f.name, .int .i64 f.params, .int .i64 f.locals, .bool f.result, .slice xv f.code.length cv] 39)).alloc (.cells #[.int .i64 27, .int .i64 x] 46)) W → W.heap[w.heap.size + 1 + 1]? = some (.cells #[.int .i64 27, .int .i64 x] 46)) := fun W hW => hW.heap (alloc_at ((w.alloc (.cells #[.slice xa c.fields.length ca, .int .i64 c.glob, .slice xf c.funcs.length cf] 25)).alloc (.cells #[.string f.name, .int .i64 f.params, .int .i64 f.locals, .bool f.result, .slice xv f.code.length cv] 39)) _ (n := w.heap.size + 1 + 1) (by simp)) (fun h => h)
  have hm : mvP c f 27 x = (2, 1) := by unfold mvP; simp
  rw [hm]
  dsimp only
  clear h hf hxv hm
  go_enter Tryd.func14, Tryd.ntmps14
  go_wp2_with fail
  go_ret2
  exact ⟨rfl, by first | exact HE3.out | exact HE3.out.drewN' _⟩

set_option maxRecDepth 100000 in
set_option maxHeartbeats 4000000 in
theorem rmoves_28 (a fv : Value) (c : Cd) (f : Fn) (x : Int) (w : World) (h : CdR w a fv c) (hf : FnR w f) : Calls Tryd.prog 14 #[.agg #[a, .int .i64 c.glob, fv], .agg #[.string f.name, .int .i64 f.params, .int .i64 f.locals, .bool f.result, f.v], .agg #[.int .i64 28, .int .i64 x]] w fun e w' => e = .returned (.tuple #[.int .i64 (mvP c f 28 x).1, .int .i64 (mvP c f 28 x).2]) ∧ Ext w w' := by
  obtain ⟨⟨xa, ca, rfl⟩, xf, cf, rfl⟩ := h.shapes
  obtain ⟨xv, cv, hxv⟩ := hf.shape
  rw [hxv]
  have hl1 := h.l1
  have hl2 := h.l2
  have hl3 := hf.len
  have HE3 : Hid (Ext w (((w.alloc (.cells #[.slice xa c.fields.length ca, .int .i64 c.glob, .slice xf c.funcs.length cf] 25)).alloc (.cells #[.string f.name, .int .i64 f.params, .int .i64 f.locals, .bool f.result, .slice xv f.code.length cv] 39)).alloc (.cells #[.int .i64 28, .int .i64 x] 46))) := (((Upd.refl _ w).alloc _).alloc _).alloc _
  have HXA : Hid (∀ W, Ext (((w.alloc (.cells #[.slice xa c.fields.length ca, .int .i64 c.glob, .slice xf c.funcs.length cf] 25)).alloc (.cells #[.string f.name, .int .i64 f.params, .int .i64 f.locals, .bool f.result, .slice xv f.code.length cv] 39)).alloc (.cells #[.int .i64 28, .int .i64 x] 46)) W → W.heap[w.heap.size]? = some (.cells #[.slice xa c.fields.length ca, .int .i64 c.glob, .slice xf c.funcs.length cf] 25)) := fun W hW => hW.heap (allocOld (allocOld (alloc0 w _) _) _) (fun h => h)
  have HXF : Hid (∀ W, Ext (((w.alloc (.cells #[.slice xa c.fields.length ca, .int .i64 c.glob, .slice xf c.funcs.length cf] 25)).alloc (.cells #[.string f.name, .int .i64 f.params, .int .i64 f.locals, .bool f.result, .slice xv f.code.length cv] 39)).alloc (.cells #[.int .i64 28, .int .i64 x] 46)) W → W.heap[w.heap.size + 1]? = some (.cells #[.string f.name, .int .i64 f.params, .int .i64 f.locals, .bool f.result, .slice xv f.code.length cv] 39)) := fun W hW => hW.heap (allocOld (alloc_at (w.alloc (.cells #[.slice xa c.fields.length ca, .int .i64 c.glob, .slice xf c.funcs.length cf] 25)) _ (n := w.heap.size + 1) (by simp)) _) (fun h => h)
  have HXI : Hid (∀ W, Ext (((w.alloc (.cells #[.slice xa c.fields.length ca, .int .i64 c.glob, .slice xf c.funcs.length cf] 25)).alloc (.cells #[.string f.name, .int .i64 f.params, .int .i64 f.locals, .bool f.result, .slice xv f.code.length cv] 39)).alloc (.cells #[.int .i64 28, .int .i64 x] 46)) W → W.heap[w.heap.size + 1 + 1]? = some (.cells #[.int .i64 28, .int .i64 x] 46)) := fun W hW => hW.heap (alloc_at ((w.alloc (.cells #[.slice xa c.fields.length ca, .int .i64 c.glob, .slice xf c.funcs.length cf] 25)).alloc (.cells #[.string f.name, .int .i64 f.params, .int .i64 f.locals, .bool f.result, .slice xv f.code.length cv] 39)) _ (n := w.heap.size + 1 + 1) (by simp)) (fun h => h)
  have hm : mvP c f 28 x = (2, 1) := by unfold mvP; simp
  rw [hm]
  dsimp only
  clear h hf hxv hm
  go_enter Tryd.func14, Tryd.ntmps14
  go_wp2_with fail
  go_ret2
  exact ⟨rfl, by first | exact HE3.out | exact HE3.out.drewN' _⟩

set_option maxRecDepth 100000 in
set_option maxHeartbeats 4000000 in
theorem rmoves_29 (a fv : Value) (c : Cd) (f : Fn) (x : Int) (w : World) (h : CdR w a fv c) (hf : FnR w f) : Calls Tryd.prog 14 #[.agg #[a, .int .i64 c.glob, fv], .agg #[.string f.name, .int .i64 f.params, .int .i64 f.locals, .bool f.result, f.v], .agg #[.int .i64 29, .int .i64 x]] w fun e w' => e = .returned (.tuple #[.int .i64 (mvP c f 29 x).1, .int .i64 (mvP c f 29 x).2]) ∧ Ext w w' := by
  obtain ⟨⟨xa, ca, rfl⟩, xf, cf, rfl⟩ := h.shapes
  obtain ⟨xv, cv, hxv⟩ := hf.shape
  rw [hxv]
  have hl1 := h.l1
  have hl2 := h.l2
  have hl3 := hf.len
  have HE3 : Hid (Ext w (((w.alloc (.cells #[.slice xa c.fields.length ca, .int .i64 c.glob, .slice xf c.funcs.length cf] 25)).alloc (.cells #[.string f.name, .int .i64 f.params, .int .i64 f.locals, .bool f.result, .slice xv f.code.length cv] 39)).alloc (.cells #[.int .i64 29, .int .i64 x] 46))) := (((Upd.refl _ w).alloc _).alloc _).alloc _
  have HXA : Hid (∀ W, Ext (((w.alloc (.cells #[.slice xa c.fields.length ca, .int .i64 c.glob, .slice xf c.funcs.length cf] 25)).alloc (.cells #[.string f.name, .int .i64 f.params, .int .i64 f.locals, .bool f.result, .slice xv f.code.length cv] 39)).alloc (.cells #[.int .i64 29, .int .i64 x] 46)) W → W.heap[w.heap.size]? = some (.cells #[.slice xa c.fields.length ca, .int .i64 c.glob, .slice xf c.funcs.length cf] 25)) := fun W hW => hW.heap (allocOld (allocOld (alloc0 w _) _) _) (fun h => h)
  have HXF : Hid (∀ W, Ext (((w.alloc (.cells #[.slice xa c.fields.length ca, .int .i64 c.glob, .slice xf c.funcs.length cf] 25)).alloc (.cells #[.string f.name, .int .i64 f.params, .int .i64 f.locals, .bool f.result, .slice xv f.code.length cv] 39)).alloc (.cells #[.int .i64 29, .int .i64 x] 46)) W → W.heap[w.heap.size + 1]? = some (.cells #[.string f.name, .int .i64 f.params, .int .i64 f.locals, .bool f.result, .slice xv f.code.length cv] 39)) := fun W hW => hW.heap (allocOld (alloc_at (w.alloc (.cells #[.slice xa c.fields.length ca, .int .i64 c.glob, .slice xf c.funcs.length cf] 25)) _ (n := w.heap.size + 1) (by simp)) _) (fun h => h)
  have HXI : Hid (∀ W, Ext (((w.alloc (.cells #[.slice xa c.fields.length ca, .int .i64 c.glob, .slice xf c.funcs.length cf] 25)).alloc (.cells #[.string f.name, .int .i64 f.params, .int .i64 f.locals, .bool f.result, .slice xv f.code.length cv] 39)).alloc (.cells #[.int .i64 29, .int .i64 x] 46)) W → W.heap[w.heap.size + 1 + 1]? = some (.cells #[.int .i64 29, .int .i64 x] 46)) := fun W hW => hW.heap (alloc_at ((w.alloc (.cells #[.slice xa c.fields.length ca, .int .i64 c.glob, .slice xf c.funcs.length cf] 25)).alloc (.cells #[.string f.name, .int .i64 f.params, .int .i64 f.locals, .bool f.result, .slice xv f.code.length cv] 39)) _ (n := w.heap.size + 1 + 1) (by simp)) (fun h => h)
  have hm : mvP c f 29 x = (1, 1) := by unfold mvP; simp
  rw [hm]
  dsimp only
  clear h hf hxv hm
  go_enter Tryd.func14, Tryd.ntmps14
  go_wp2_with fail
  go_ret2
  exact ⟨rfl, by first | exact HE3.out | exact HE3.out.drewN' _⟩

set_option maxRecDepth 100000 in
set_option maxHeartbeats 4000000 in
theorem rmoves_30 (a fv : Value) (c : Cd) (f : Fn) (x : Int) (w : World) (h : CdR w a fv c) (hf : FnR w f) : Calls Tryd.prog 14 #[.agg #[a, .int .i64 c.glob, fv], .agg #[.string f.name, .int .i64 f.params, .int .i64 f.locals, .bool f.result, f.v], .agg #[.int .i64 30, .int .i64 x]] w fun e w' => e = .returned (.tuple #[.int .i64 (mvP c f 30 x).1, .int .i64 (mvP c f 30 x).2]) ∧ Ext w w' := by
  obtain ⟨⟨xa, ca, rfl⟩, xf, cf, rfl⟩ := h.shapes
  obtain ⟨xv, cv, hxv⟩ := hf.shape
  rw [hxv]
  have hl1 := h.l1
  have hl2 := h.l2
  have hl3 := hf.len
  have HE3 : Hid (Ext w (((w.alloc (.cells #[.slice xa c.fields.length ca, .int .i64 c.glob, .slice xf c.funcs.length cf] 25)).alloc (.cells #[.string f.name, .int .i64 f.params, .int .i64 f.locals, .bool f.result, .slice xv f.code.length cv] 39)).alloc (.cells #[.int .i64 30, .int .i64 x] 46))) := (((Upd.refl _ w).alloc _).alloc _).alloc _
  have HXA : Hid (∀ W, Ext (((w.alloc (.cells #[.slice xa c.fields.length ca, .int .i64 c.glob, .slice xf c.funcs.length cf] 25)).alloc (.cells #[.string f.name, .int .i64 f.params, .int .i64 f.locals, .bool f.result, .slice xv f.code.length cv] 39)).alloc (.cells #[.int .i64 30, .int .i64 x] 46)) W → W.heap[w.heap.size]? = some (.cells #[.slice xa c.fields.length ca, .int .i64 c.glob, .slice xf c.funcs.length cf] 25)) := fun W hW => hW.heap (allocOld (allocOld (alloc0 w _) _) _) (fun h => h)
  have HXF : Hid (∀ W, Ext (((w.alloc (.cells #[.slice xa c.fields.length ca, .int .i64 c.glob, .slice xf c.funcs.length cf] 25)).alloc (.cells #[.string f.name, .int .i64 f.params, .int .i64 f.locals, .bool f.result, .slice xv f.code.length cv] 39)).alloc (.cells #[.int .i64 30, .int .i64 x] 46)) W → W.heap[w.heap.size + 1]? = some (.cells #[.string f.name, .int .i64 f.params, .int .i64 f.locals, .bool f.result, .slice xv f.code.length cv] 39)) := fun W hW => hW.heap (allocOld (alloc_at (w.alloc (.cells #[.slice xa c.fields.length ca, .int .i64 c.glob, .slice xf c.funcs.length cf] 25)) _ (n := w.heap.size + 1) (by simp)) _) (fun h => h)
  have HXI : Hid (∀ W, Ext (((w.alloc (.cells #[.slice xa c.fields.length ca, .int .i64 c.glob, .slice xf c.funcs.length cf] 25)).alloc (.cells #[.string f.name, .int .i64 f.params, .int .i64 f.locals, .bool f.result, .slice xv f.code.length cv] 39)).alloc (.cells #[.int .i64 30, .int .i64 x] 46)) W → W.heap[w.heap.size + 1 + 1]? = some (.cells #[.int .i64 30, .int .i64 x] 46)) := fun W hW => hW.heap (alloc_at ((w.alloc (.cells #[.slice xa c.fields.length ca, .int .i64 c.glob, .slice xf c.funcs.length cf] 25)).alloc (.cells #[.string f.name, .int .i64 f.params, .int .i64 f.locals, .bool f.result, .slice xv f.code.length cv] 39)) _ (n := w.heap.size + 1 + 1) (by simp)) (fun h => h)
  have hm : mvP c f 30 x = (1, 0) := by unfold mvP; simp
  rw [hm]
  dsimp only
  clear h hf hxv hm
  go_enter Tryd.func14, Tryd.ntmps14
  go_wp2_with fail
  go_ret2
  exact ⟨rfl, by first | exact HE3.out | exact HE3.out.drewN' _⟩

set_option maxRecDepth 100000 in
set_option maxHeartbeats 4000000 in
theorem rmoves_31 (a fv : Value) (c : Cd) (f : Fn) (x : Int) (w : World) (h : CdR w a fv c) (hf : FnR w f) : Calls Tryd.prog 14 #[.agg #[a, .int .i64 c.glob, fv], .agg #[.string f.name, .int .i64 f.params, .int .i64 f.locals, .bool f.result, f.v], .agg #[.int .i64 31, .int .i64 x]] w fun e w' => e = .returned (.tuple #[.int .i64 (mvP c f 31 x).1, .int .i64 (mvP c f 31 x).2]) ∧ Ext w w' := by
  obtain ⟨⟨xa, ca, rfl⟩, xf, cf, rfl⟩ := h.shapes
  obtain ⟨xv, cv, hxv⟩ := hf.shape
  rw [hxv]
  have hl1 := h.l1
  have hl2 := h.l2
  have hl3 := hf.len
  have HE3 : Hid (Ext w (((w.alloc (.cells #[.slice xa c.fields.length ca, .int .i64 c.glob, .slice xf c.funcs.length cf] 25)).alloc (.cells #[.string f.name, .int .i64 f.params, .int .i64 f.locals, .bool f.result, .slice xv f.code.length cv] 39)).alloc (.cells #[.int .i64 31, .int .i64 x] 46))) := (((Upd.refl _ w).alloc _).alloc _).alloc _
  have HXA : Hid (∀ W, Ext (((w.alloc (.cells #[.slice xa c.fields.length ca, .int .i64 c.glob, .slice xf c.funcs.length cf] 25)).alloc (.cells #[.string f.name, .int .i64 f.params, .int .i64 f.locals, .bool f.result, .slice xv f.code.length cv] 39)).alloc (.cells #[.int .i64 31, .int .i64 x] 46)) W → W.heap[w.heap.size]? = some (.cells #[.slice xa c.fields.length ca, .int .i64 c.glob, .slice xf c.funcs.length cf] 25)) := fun W hW => hW.heap (allocOld (allocOld (alloc0 w _) _) _) (fun h => h)
  have HXF : Hid (∀ W, Ext (((w.alloc (.cells #[.slice xa c.fields.length ca, .int .i64 c.glob, .slice xf c.funcs.length cf] 25)).alloc (.cells #[.string f.name, .int .i64 f.params, .int .i64 f.locals, .bool f.result, .slice xv f.code.length cv] 39)).alloc (.cells #[.int .i64 31, .int .i64 x] 46)) W → W.heap[w.heap.size + 1]? = some (.cells #[.string f.name, .int .i64 f.params, .int .i64 f.locals, .bool f.result, .slice xv f.code.length cv] 39)) := fun W hW => hW.heap (allocOld (alloc_at (w.alloc (.cells #[.slice xa c.fields.length ca, .int .i64 c.glob, .slice xf c.funcs.length cf] 25)) _ (n := w.heap.size + 1) (by simp)) _) (fun h => h)
  have HXI : Hid (∀ W, Ext (((w.alloc (.cells #[.slice xa c.fields.length ca, .int .i64 c.glob, .slice xf c.funcs.length cf] 25)).alloc (.cells #[.string f.name, .int .i64 f.params, .int .i64 f.locals, .bool f.result, .slice xv f.code.length cv] 39)).alloc (.cells #[.int .i64 31, .int .i64 x] 46)) W → W.heap[w.heap.size + 1 + 1]? = some (.cells #[.int .i64 31, .int .i64 x] 46)) := fun W hW => hW.heap (alloc_at ((w.alloc (.cells #[.slice xa c.fields.length ca, .int .i64 c.glob, .slice xf c.funcs.length cf] 25)).alloc (.cells #[.string f.name, .int .i64 f.params, .int .i64 f.locals, .bool f.result, .slice xv f.code.length cv] 39)) _ (n := w.heap.size + 1 + 1) (by simp)) (fun h => h)
  have hm : mvP c f 31 x = (1, 2) := by unfold mvP; simp
  rw [hm]
  dsimp only
  clear h hf hxv hm
  go_enter Tryd.func14, Tryd.ntmps14
  go_wp2_with fail
  go_ret2
  exact ⟨rfl, by first | exact HE3.out | exact HE3.out.drewN' _⟩

set_option maxRecDepth 100000 in
set_option maxHeartbeats 4000000 in
theorem rmoves_x (a fv : Value) (c : Cd) (f : Fn) (op x : Int) (w : World) (h : CdR w a fv c) (hf : FnR w f) (hr : rightB c f op x = true) : Calls Tryd.prog 14 #[.agg #[a, .int .i64 c.glob, fv], .agg #[.string f.name, .int .i64 f.params, .int .i64 f.locals, .bool f.result, f.v], .agg #[.int .i64 op, .int .i64 x]] w fun e w' => e = .returned (.tuple #[.int .i64 (mvP c f op x).1, .int .i64 (mvP c f op x).2]) ∧ Ext w w' := by
  obtain ⟨o1, o2⟩ := right_range c f op x hr
  have key : op = 1 ∨ op = 2 ∨ op = 3 ∨ op = 4 ∨ op = 5 ∨ op = 6 ∨ op = 7 ∨ op = 8 ∨ op = 9 ∨ op = 10 ∨ op = 11 ∨ op = 12 ∨ op = 13 ∨ op = 14 ∨ op = 15 ∨ op = 16 ∨ op = 17 ∨ op = 18 ∨ op = 19 ∨ op = 20 ∨ op = 21 ∨ op = 22 ∨ op = 23 ∨ op = 24 ∨ op = 25 ∨ op = 26 ∨ op = 27 ∨ op = 28 ∨ op = 29 ∨ op = 30 ∨ op = 31 := by omega
  rcases key with rfl | rfl | rfl | rfl | rfl | rfl | rfl | rfl | rfl | rfl | rfl | rfl | rfl | rfl | rfl | rfl | rfl | rfl | rfl | rfl | rfl | rfl | rfl | rfl | rfl | rfl | rfl | rfl | rfl | rfl | rfl
  · exact rmoves_1 a fv c f x w h hf
  · exact rmoves_2 a fv c f x w h hf
  · exact rmoves_3 a fv c f x w h hf
  · exact rmoves_4 a fv c f x w h hf
  · exact rmoves_5 a fv c f x w h hf
  · exact rmoves_6 a fv c f x w h hf
  · exact rmoves_7 a fv c f x w h hf
  · exact rmoves_8 a fv c f x w h hf
  · exact rmoves_9 a fv c f x w h hf (right9 c f x hr)
  · exact rmoves_10 a fv c f x w h hf
  · exact rmoves_11 a fv c f x w h hf
  · exact rmoves_12 a fv c f x w h hf
  · exact rmoves_13 a fv c f x w h hf
  · exact rmoves_14 a fv c f x w h hf
  · exact rmoves_15 a fv c f x w h hf
  · exact rmoves_16 a fv c f x w h hf
  · exact rmoves_17 a fv c f x w h hf
  · exact rmoves_18 a fv c f x w h hf
  · exact rmoves_19 a fv c f x w h hf
  · exact rmoves_20 a fv c f x w h hf
  · exact rmoves_21 a fv c f x w h hf
  · exact rmoves_22 a fv c f x w h hf
  · exact rmoves_23 a fv c f x w h hf
  · exact rmoves_24 a fv c f x w h hf
  · exact rmoves_25 a fv c f x w h hf
  · exact rmoves_26 a fv c f x w h hf
  · exact rmoves_27 a fv c f x w h hf
  · exact rmoves_28 a fv c f x w h hf
  · exact rmoves_29 a fv c f x w h hf
  · exact rmoves_30 a fv c f x w h hf
  · exact rmoves_31 a fv c f x w h hf

end Go.Proofs.YtlbnilhbfiidmaaDoor
