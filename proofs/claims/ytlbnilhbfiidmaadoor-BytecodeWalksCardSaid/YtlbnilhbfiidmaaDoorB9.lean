/- formed. -/
import Derived.Test.YtlbnilhbfiidmaaDoorB8
import Derived.Test.YtlbnilhbfiidmaaDoorB3
import Derived.Test.YtlbnilhbfiidmaaDoorB4
namespace Go.Proofs.YtlbnilhbfiidmaaDoor
open Go.RowKit Go.Hw
set_option linter.unusedVariables false
set_option linter.unusedSimpArgs false

theorem formed_x (a fv : Value) (c : Cd) (w : World) (h : CdR w a fv c) (htab : AscT w) : Calls Tryd.prog 20 #[.agg #[a, .int .i64 c.glob, fv]] w fun e w' => e = .returned (.bool (formB c)) ∧ Ext w w' := by
  obtain ⟨⟨xa, ca, rfl⟩, xf, cf, rfl⟩ := h.shapes
  have HN := Lib.hid h
  have HX : Hid (∀ W, Ext (w.alloc (.cells #[.slice xa c.fields.length ca, .int .i64 c.glob, .slice xf c.funcs.length cf] 25)) W → W.heap[w.heap.size]? = some (.cells #[.slice xa c.fields.length ca, .int .i64 c.glob, .slice xf c.funcs.length cf] 25)) := fun W hW => hW.heap (alloc0 w _) (fun h => h)
  have HE0 : Hid (Ext w (w.alloc (.cells #[.slice xa c.fields.length ca, .int .i64 c.glob, .slice xf c.funcs.length cf] 25))) := (Upd.refl _ w).alloc _
  have hl1 := h.l1
  have hl2 := h.l2
  clear h
  have CH : Hid (∀ W, Ext w W → Calls Tryd.prog 16 #[.agg #[.slice xa c.fields.length ca, .int .i64 c.glob, .slice xf c.funcs.length cf]] W fun e w' => e = .returned (.bool (headB c)) ∧ Ext W w') := fun W hW => head_x _ _ c W (HN.out.kept hW) (asc_ext htab hW)
  have CW : Hid (∀ W, Ext w W → Calls Tryd.prog 17 #[.agg #[.slice xa c.fields.length ca, .int .i64 c.glob, .slice xf c.funcs.length cf]] W fun e w' => e = .returned (.tuple #[.int .i64 (wrP c).1, .int .i64 (wrP c).2.1, .bool (wrP c).2.2]) ∧ Ext W w') := fun W hW => wrong_x _ _ c W (HN.out.kept hW)
  clear HN htab
  obtain ⟨⟨x1, x2, x3⟩, hX⟩ : ∃ X, wrP c = X := ⟨_, rfl⟩
  have hf : formB c = (headB c && !x3) := by unfold formB; rw [hX]
  rw [hX] at CW
  rw [hf]
  dsimp only at CW
  clear hX hf
  have k0 := cellRow (HX.out _ (Upd.refl _ _)) 0 _ rfl
  have k1 := cellRow (HX.out _ (Upd.refl _ _)) 1 _ rfl
  have k2 := cellRow (HX.out _ (Upd.refl _ _)) 2 _ rfl
  cases hh : headB c with
  | false =>
    rw [hh] at CH
    clear hh
    go_enter Tryd.func20, Tryd.ntmps20
    go_wp2_with fail
    refine (CH.out _ HE0.out).mono ?_
    rintro e w3 ⟨rfl, h3⟩
    have H3 := Lib.hid h3
    clear h3
    go_wp2_with fail
    go_ret
    exact ⟨rfl, HE0.out.ext H3.out⟩
  | true =>
    rw [hh] at CH
    clear hh
    go_enter Tryd.func20, Tryd.ntmps20
    go_wp2_with fail
    refine (CH.out _ HE0.out).mono ?_
    rintro e w3 ⟨rfl, h3⟩
    have H3 := Lib.hid h3
    clear h3 k0 k1 k2
    have hz := HX.out w3 H3.out
    have k0 := cellRow hz 0 _ rfl
    have k1 := cellRow hz 1 _ rfl
    have k2 := cellRow hz 2 _ rfl
    clear hz
    go_wp2_with fail
    refine (CW.out _ (HE0.out.ext H3.out)).mono ?_
    rintro e w4 ⟨rfl, h4⟩
    have H4 := Lib.hid (H3.out.ext h4)
    clear h4
    cases x3 <;> (
      go_wp2_with fail
      go_ret
      exact ⟨rfl, HE0.out.ext H4.out⟩)

theorem rformed_x (a fv : Value) (c : Cd) (w : World) (h : CdR w a fv c) : Calls Tryd.prog 11 #[.agg #[a, .int .i64 c.glob, fv]] w fun e w' => e = .returned (.bool (formB c)) ∧ Ext w w' := by
  obtain ⟨⟨xa, ca, rfl⟩, xf, cf, rfl⟩ := h.shapes
  have HN := Lib.hid h
  have HX : Hid (∀ W, Ext (w.alloc (.cells #[.slice xa c.fields.length ca, .int .i64 c.glob, .slice xf c.funcs.length cf] 25)) W → W.heap[w.heap.size]? = some (.cells #[.slice xa c.fields.length ca, .int .i64 c.glob, .slice xf c.funcs.length cf] 25)) := fun W hW => hW.heap (alloc0 w _) (fun h => h)
  have HE0 : Hid (Ext w (w.alloc (.cells #[.slice xa c.fields.length ca, .int .i64 c.glob, .slice xf c.funcs.length cf] 25))) := (Upd.refl _ w).alloc _
  have hl1 := h.l1
  have hl2 := h.l2
  clear h
  have CH : Hid (∀ W, Ext w W → Calls Tryd.prog 10 #[.agg #[.slice xa c.fields.length ca, .int .i64 c.glob, .slice xf c.funcs.length cf]] W fun e w' => e = .returned (.bool (headB c)) ∧ Ext W w') := fun W hW => rhead_x _ _ c W (HN.out.kept hW)
  have CW : Hid (∀ W, Ext w W → Calls Tryd.prog 19 #[.agg #[.slice xa c.fields.length ca, .int .i64 c.glob, .slice xf c.funcs.length cf]] W fun e w' => e = .returned (.tuple #[.int .i64 (wrP c).1, .int .i64 (wrP c).2.1, .bool (wrP c).2.2]) ∧ Ext W w') := fun W hW => rwrong_x _ _ c W (HN.out.kept hW)
  clear HN
  obtain ⟨⟨x1, x2, x3⟩, hX⟩ : ∃ X, wrP c = X := ⟨_, rfl⟩
  have hf : formB c = (headB c && !x3) := by unfold formB; rw [hX]
  rw [hX] at CW
  rw [hf]
  dsimp only at CW
  clear hX hf
  have k0 := cellRow (HX.out _ (Upd.refl _ _)) 0 _ rfl
  have k1 := cellRow (HX.out _ (Upd.refl _ _)) 1 _ rfl
  have k2 := cellRow (HX.out _ (Upd.refl _ _)) 2 _ rfl
  cases hh : headB c with
  | false =>
    rw [hh] at CH
    clear hh
    go_enter Tryd.func11, Tryd.ntmps11
    go_wp2_with fail
    refine (CH.out _ HE0.out).mono ?_
    rintro e w3 ⟨rfl, h3⟩
    have H3 := Lib.hid h3
    clear h3
    go_wp2_with fail
    go_ret
    exact ⟨rfl, HE0.out.ext H3.out⟩
  | true =>
    rw [hh] at CH
    clear hh
    go_enter Tryd.func11, Tryd.ntmps11
    go_wp2_with fail
    refine (CH.out _ HE0.out).mono ?_
    rintro e w3 ⟨rfl, h3⟩
    have H3 := Lib.hid h3
    clear h3 k0 k1 k2
    have hz := HX.out w3 H3.out
    have k0 := cellRow hz 0 _ rfl
    have k1 := cellRow hz 1 _ rfl
    have k2 := cellRow hz 2 _ rfl
    clear hz
    go_wp2_with fail
    refine (CW.out _ (HE0.out.ext H3.out)).mono ?_
    rintro e w4 ⟨rfl, h4⟩
    have H4 := Lib.hid (H3.out.ext h4)
    clear h4
    cases x3 <;> (
      go_wp2_with fail
      go_ret
      exact ⟨rfl, HE0.out.ext H4.out⟩)

end Go.Proofs.YtlbnilhbfiidmaaDoor
