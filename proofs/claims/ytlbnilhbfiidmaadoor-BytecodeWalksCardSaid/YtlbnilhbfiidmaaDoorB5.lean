/- ref.Right. -/
import Derived.Test.YtlbnilhbfiidmaaDoorB2
namespace Go.Proofs.YtlbnilhbfiidmaaDoor
open Go.RowKit Go.Hw
set_option linter.unusedVariables false
set_option linter.unusedSimpArgs false

theorem below_x (a n : Int) (w : World) : Calls Tryd.prog 46 #[.int .i64 a, .int .i64 n] w fun e w' => e = .returned (.bool (belB a n)) ∧ w = w' := by
  by_cases p1 : 0 ≤ a
  · by_cases p2 : a < n
    · rw [show belB a n = true from decide_eq_true ⟨p1, p2⟩]
      go_enter Tryd.func46, Tryd.ntmps46
      go_wp2_with fail
      go_ret
      exact ⟨rfl, rfl⟩
    · rw [show belB a n = false from decide_eq_false (fun q => p2 q.2)]
      go_enter Tryd.func46, Tryd.ntmps46
      go_wp2_with fail
      go_ret
      exact ⟨rfl, rfl⟩
  · rw [show belB a n = false from decide_eq_false (fun q => p1 q.1)]
    go_enter Tryd.func46, Tryd.ntmps46
    go_wp2_with fail
    go_ret
    exact ⟨rfl, rfl⟩

set_option maxRecDepth 100000 in
set_option maxHeartbeats 4000000 in
/-- ref.Right -/
theorem rright_x (a fv : Value) (c : Cd) (f : Fn) (op x : Int) (w : World) (h : CdR w a fv c) (hf : FnR w f) : Calls Tryd.prog 35 #[.agg #[a, .int .i64 c.glob, fv], .agg #[.string f.name, .int .i64 f.params, .int .i64 f.locals, .bool f.result, f.v], .agg #[.int .i64 op, .int .i64 x]] w fun e w' => e = .returned (.bool (rightB c f op x)) ∧ Ext w w' := by
  obtain ⟨⟨xa, ca, rfl⟩, xf, cf, rfl⟩ := h.shapes
  obtain ⟨xv, cv, hxv⟩ := hf.shape
  rw [hxv]
  have hl1 := h.l1
  have hl2 := h.l2
  have hl3 := hf.len
  have HE3 : Hid (Ext w (((w.alloc (.cells #[.slice xa c.fields.length ca, .int .i64 c.glob, .slice xf c.funcs.length cf] 25)).alloc (.cells #[.string f.name, .int .i64 f.params, .int .i64 f.locals, .bool f.result, .slice xv f.code.length cv] 39)).alloc (.cells #[.int .i64 op, .int .i64 x] 46))) := (((Upd.refl _ w).alloc _).alloc _).alloc _
  have HXA : Hid (∀ W, Ext (((w.alloc (.cells #[.slice xa c.fields.length ca, .int .i64 c.glob, .slice xf c.funcs.length cf] 25)).alloc (.cells #[.string f.name, .int .i64 f.params, .int .i64 f.locals, .bool f.result, .slice xv f.code.length cv] 39)).alloc (.cells #[.int .i64 op, .int .i64 x] 46)) W → W.heap[w.heap.size]? = some (.cells #[.slice xa c.fields.length ca, .int .i64 c.glob, .slice xf c.funcs.length cf] 25)) := fun W hW => hW.heap (allocOld (allocOld (alloc0 w _) _) _) (fun h => h)
  have HXF : Hid (∀ W, Ext (((w.alloc (.cells #[.slice xa c.fields.length ca, .int .i64 c.glob, .slice xf c.funcs.length cf] 25)).alloc (.cells #[.string f.name, .int .i64 f.params, .int .i64 f.locals, .bool f.result, .slice xv f.code.length cv] 39)).alloc (.cells #[.int .i64 op, .int .i64 x] 46)) W → W.heap[w.heap.size + 1]? = some (.cells #[.string f.name, .int .i64 f.params, .int .i64 f.locals, .bool f.result, .slice xv f.code.length cv] 39)) := fun W hW => hW.heap (allocOld (alloc_at (w.alloc (.cells #[.slice xa c.fields.length ca, .int .i64 c.glob, .slice xf c.funcs.length cf] 25)) _ (n := w.heap.size + 1) (by simp)) _) (fun h => h)
  have HXI : Hid (∀ W, Ext (((w.alloc (.cells #[.slice xa c.fields.length ca, .int .i64 c.glob, .slice xf c.funcs.length cf] 25)).alloc (.cells #[.string f.name, .int .i64 f.params, .int .i64 f.locals, .bool f.result, .slice xv f.code.length cv] 39)).alloc (.cells #[.int .i64 op, .int .i64 x] 46)) W → W.heap[w.heap.size + 1 + 1]? = some (.cells #[.int .i64 op, .int .i64 x] 46)) := fun W hW => hW.heap (alloc_at ((w.alloc (.cells #[.slice xa c.fields.length ca, .int .i64 c.glob, .slice xf c.funcs.length cf] 25)).alloc (.cells #[.string f.name, .int .i64 f.params, .int .i64 f.locals, .bool f.result, .slice xv f.code.length cv] 39)) _ (n := w.heap.size + 1 + 1) (by simp)) (fun h => h)
  have BX := Lib.hid (fun (a n : Int) (W : World) => below_x a n W)
  clear h hf hxv
  by_cases q1 : op = 1
  · subst q1
    by_cases r1 : -1099511627776 ≤ x
    · by_cases r2 : x ≤ 1099511627776
      · rw [show rightB c f 1 x = true from decide_eq_true ⟨r1, r2⟩]
        go_enter Tryd.func35, Tryd.ntmps35
        go_wp2_with fail
        go_ret
        exact ⟨rfl, HE3.out⟩
      · rw [show rightB c f 1 x = false from decide_eq_false (fun q => r2 q.2)]
        go_enter Tryd.func35, Tryd.ntmps35
        go_wp2_with fail
        go_ret
        exact ⟨rfl, HE3.out⟩
    · rw [show rightB c f 1 x = false from decide_eq_false (fun q => r1 q.1)]
      go_enter Tryd.func35, Tryd.ntmps35
      go_wp2_with fail
      go_ret
      exact ⟨rfl, HE3.out⟩
  · skip
    by_cases q2 : op = 2
    · subst q2
      rw [show rightB c f 2 x = belB x f.locals from rfl]
      have hB := BX.out x f.locals
      generalize belB x f.locals = Y at *
      have HB := Lib.hid hB
      clear hB
      go_enter Tryd.func35, Tryd.ntmps35
      go_wp2_with fail
      refine (HB.out _).mono ?_
      rintro e w' ⟨rfl, rfl⟩
      go_wp2_with fail
      go_ret
      exact ⟨rfl, HE3.out⟩
    · skip
      by_cases q3 : op = 3
      · subst q3
        rw [show rightB c f 3 x = belB x f.locals from rfl]
        have hB := BX.out x f.locals
        generalize belB x f.locals = Y at *
        have HB := Lib.hid hB
        clear hB
        go_enter Tryd.func35, Tryd.ntmps35
        go_wp2_with fail
        refine (HB.out _).mono ?_
        rintro e w' ⟨rfl, rfl⟩
        go_wp2_with fail
        go_ret
        exact ⟨rfl, HE3.out⟩
      · skip
        by_cases q4 : op = 4
        · subst q4
          rw [show rightB c f 4 x = belB x c.glob from rfl]
          have hB := BX.out x c.glob
          generalize belB x c.glob = Y at *
          have HB := Lib.hid hB
          clear hB
          go_enter Tryd.func35, Tryd.ntmps35
          go_wp2_with fail
          refine (HB.out _).mono ?_
          rintro e w' ⟨rfl, rfl⟩
          go_wp2_with fail
          go_ret
          exact ⟨rfl, HE3.out⟩
        · skip
          by_cases q5 : op = 5
          · subst q5
            rw [show rightB c f 5 x = belB x c.glob from rfl]
            have hB := BX.out x c.glob
            generalize belB x c.glob = Y at *
            have HB := Lib.hid hB
            clear hB
            go_enter Tryd.func35, Tryd.ntmps35
            go_wp2_with fail
            refine (HB.out _).mono ?_
            rintro e w' ⟨rfl, rfl⟩
            go_wp2_with fail
            go_ret
            exact ⟨rfl, HE3.out⟩
          · skip
            by_cases q6 : op = 6
            · subst q6
              rw [show rightB c f 6 x = belB x 12 from rfl]
              have hB := BX.out x 12
              generalize belB x 12 = Y at *
              have HB := Lib.hid hB
              clear hB
              go_enter Tryd.func35, Tryd.ntmps35
              go_wp2_with fail
              refine (HB.out _).mono ?_
              rintro e w' ⟨rfl, rfl⟩
              go_wp2_with fail
              go_ret
              exact ⟨rfl, HE3.out⟩
            · skip
              by_cases q7 : op = 7
              · subst q7
                rw [show rightB c f 7 x = belB x 12 from rfl]
                have hB := BX.out x 12
                generalize belB x 12 = Y at *
                have HB := Lib.hid hB
                clear hB
                go_enter Tryd.func35, Tryd.ntmps35
                go_wp2_with fail
                refine (HB.out _).mono ?_
                rintro e w' ⟨rfl, rfl⟩
                go_wp2_with fail
                go_ret
                exact ⟨rfl, HE3.out⟩
              · skip
                by_cases q8 : op = 8
                · subst q8
                  rw [show rightB c f 8 x = belB x (c.fields.length : Int) from rfl]
                  have hB := BX.out x (c.fields.length : Int)
                  generalize belB x (c.fields.length : Int) = Y at *
                  have HB := Lib.hid hB
                  clear hB
                  go_enter Tryd.func35, Tryd.ntmps35
                  go_wp2_with fail
                  refine (HB.out _).mono ?_
                  rintro e w' ⟨rfl, rfl⟩
                  go_wp2_with fail
                  go_ret
                  exact ⟨rfl, HE3.out⟩
                · skip
                  by_cases q9 : op = 9
                  · subst q9
                    rw [show rightB c f 9 x = belB x (c.funcs.length : Int) from rfl]
                    have hB := BX.out x (c.funcs.length : Int)
                    generalize belB x (c.funcs.length : Int) = Y at *
                    have HB := Lib.hid hB
                    clear hB
                    go_enter Tryd.func35, Tryd.ntmps35
                    go_wp2_with fail
                    refine (HB.out _).mono ?_
                    rintro e w' ⟨rfl, rfl⟩
                    go_wp2_with fail
                    go_ret
                    exact ⟨rfl, HE3.out⟩
                  · skip
                    by_cases q11 : op = 11
                    · subst q11
                      rw [show rightB c f 11 x = belB x (f.code.length : Int) from rfl]
                      have hB := BX.out x (f.code.length : Int)
                      generalize belB x (f.code.length : Int) = Y at *
                      have HB := Lib.hid hB
                      clear hB
                      go_enter Tryd.func35, Tryd.ntmps35
                      go_wp2_with fail
                      refine (HB.out _).mono ?_
                      rintro e w' ⟨rfl, rfl⟩
                      go_wp2_with fail
                      go_ret
                      exact ⟨rfl, HE3.out⟩
                    · skip
                      by_cases q12 : op = 12
                      · subst q12
                        rw [show rightB c f 12 x = belB x (f.code.length : Int) from rfl]
                        have hB := BX.out x (f.code.length : Int)
                        generalize belB x (f.code.length : Int) = Y at *
                        have HB := Lib.hid hB
                        clear hB
                        go_enter Tryd.func35, Tryd.ntmps35
                        go_wp2_with fail
                        refine (HB.out _).mono ?_
                        rintro e w' ⟨rfl, rfl⟩
                        go_wp2_with fail
                        go_ret
                        exact ⟨rfl, HE3.out⟩
                      · skip
                        have hr : rightB c f op x = (decide (1 ≤ op ∧ op ≤ 31) && decide (x = 0)) := by
                          unfold rightB
                          rw [if_neg q1, if_neg (by omega), if_neg (by omega), if_neg (by omega), if_neg q8, if_neg q9, if_neg (by omega)]
                        rw [hr]
                        clear hr
                        have e1 : (op == 1) = false := beq_eq_false_iff_ne.2 q1
                        have e2 : (op == 2) = false := beq_eq_false_iff_ne.2 q2
                        have e3 : (op == 3) = false := beq_eq_false_iff_ne.2 q3
                        have e4 : (op == 4) = false := beq_eq_false_iff_ne.2 q4
                        have e5 : (op == 5) = false := beq_eq_false_iff_ne.2 q5
                        have e6 : (op == 6) = false := beq_eq_false_iff_ne.2 q6
                        have e7 : (op == 7) = false := beq_eq_false_iff_ne.2 q7
                        have e8 : (op == 8) = false := beq_eq_false_iff_ne.2 q8
                        have e9 : (op == 9) = false := beq_eq_false_iff_ne.2 q9
                        have e11 : (op == 11) = false := beq_eq_false_iff_ne.2 q11
                        have e12 : (op == 12) = false := beq_eq_false_iff_ne.2 q12
                        by_cases r1 : 1 ≤ op
                        · by_cases r2 : op ≤ 31
                          · rw [decide_eq_true ⟨r1, r2⟩, Bool.true_and]
                            by_cases r3 : x = 0
                            · rw [decide_eq_true r3]
                              have r4 : (x == 0) = true := beq_iff_eq.2 r3
                              subst r3
                              go_enter Tryd.func35, Tryd.ntmps35
                              go_wp2_with fail
                              go_ret
                              exact ⟨rfl, HE3.out⟩
                            · rw [decide_eq_false r3]
                              have r4 : (x == 0) = false := beq_eq_false_iff_ne.2 r3
                              go_enter Tryd.func35, Tryd.ntmps35
                              go_wp2_with fail
                              go_ret
                              exact ⟨rfl, HE3.out⟩
                          · rw [decide_eq_false (fun q => r2 q.2), Bool.false_and]
                            go_enter Tryd.func35, Tryd.ntmps35
                            go_wp2_with fail
                            go_ret
                            exact ⟨rfl, HE3.out⟩
                        · rw [decide_eq_false (fun q => r1 q.1), Bool.false_and]
                          go_enter Tryd.func35, Tryd.ntmps35
                          go_wp2_with fail
                          go_ret
                          exact ⟨rfl, HE3.out⟩

end Go.Proofs.YtlbnilhbfiidmaaDoor
