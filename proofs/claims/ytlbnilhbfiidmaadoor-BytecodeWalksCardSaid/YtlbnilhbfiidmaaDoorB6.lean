/- operand. -/
import Derived.Test.YtlbnilhbfiidmaaDoorB2
import Derived.Test.YtlbnilhbfiidmaaDoorL5
namespace Go.Proofs.YtlbnilhbfiidmaaDoor
open Go.RowKit Go.Hw Go.Maps
set_option linter.unusedVariables false
set_option linter.unusedSimpArgs false

theorem zero3 (w : World) : (zeroValue 3).run Tryd.prog w = .ok (.int .i64 0) w := by kernel_rfl
def limF (c : Cd) (f : Fn) : Int → Option Int := (updF (updF (updF (updF (updF (updF (updF (updF (updF (updF (fun _ => none) 2 f.locals) 3 f.locals) 4 c.glob) 5 c.glob) 6 12) 7 12) 8 (c.fields.length : Int)) 9 (c.funcs.length : Int)) 11 (f.code.length : Int)) 12 (f.code.length : Int))
set_option maxRecDepth 100000 in
set_option maxHeartbeats 8000000 in
/-- operand -/
theorem operand_x (a fv : Value) (c : Cd) (f : Fn) (op x : Int) (w : World) (h : CdR w a fv c) (hf : FnR w f) (hop : I64 op) : Calls Tryd.prog 30 #[.agg #[a, .int .i64 c.glob, fv], .agg #[.string f.name, .int .i64 f.params, .int .i64 f.locals, .bool f.result, f.v], .agg #[.int .i64 op, .int .i64 x]] w fun e w' => e = .returned (.bool (rightB c f op x)) ∧ Ext w w' := by
  obtain ⟨⟨xa, ca, rfl⟩, xf, cf, rfl⟩ := h.shapes
  obtain ⟨xv, cv, hxv⟩ := hf.shape
  rw [hxv]
  have hl1 := h.l1
  have hl2 := h.l2
  have hl3 := hf.len
  have HE3 : Hid (Ext w (((w.alloc (.cells #[.slice xa c.fields.length ca, .int .i64 c.glob, .slice xf c.funcs.length cf] 25)).alloc (.cells #[.string f.name, .int .i64 f.params, .int .i64 f.locals, .bool f.result, .slice xv f.code.length cv] 39)).alloc (.cells #[.int .i64 op, .int .i64 x] 46))) := (((Upd.refl _ w).alloc _).alloc _).alloc _
  have HXA : Hid (∀ W, Ext (((w.alloc (.cells #[.slice xa c.fields.length ca, .int .i64 c.glob, .slice xf c.funcs.length cf] 25)).alloc (.cells #[.string f.name, .int .i64 f.params, .int .i64 f.locals, .bool f.result, .slice xv f.code.length cv] 39)).alloc (.cells #[.int .i64 op, .int .i64 x] 46)) W → W.heap[w.heap.size]? = some (.cells #[.slice xa c.fields.length ca, .int .i64 c.glob, .slice xf c.funcs.length cf] 25)) := fun W hW => hW.heap (allocOld (allocOld (alloc0 w _) _) _) (fun h => h)
  have HXF : Hid (∀ W, Ext (((w.alloc (.cells #[.slice xa c.fields.length ca, .int .i64 c.glob, .slice xf c.funcs.length cf] 25)).alloc (.cells #[.string f.name, .int .i64 f.params, .int .i64 f.locals, .bool f.result, .slice xv f.code.length cv] 39)).alloc (.cells #[.int .i64 op, .int .i64 x] 46)) W → W.heap[w.heap.size + 1]? = some (.cells #[.string f.name, .int .i64 f.params, .int .i64 f.locals, .bool f.result, .slice xv f.code.length cv] 39)) := fun W hW => hW.heap (allocOld (alloc_at (w.alloc (.cells #[.slice xa c.fields.length ca, .int .i64 c.glob, .slice xf c.funcs.length cf] 25)) _ (n := w.heap.size + 1) (by simp)) _) (fun h => h)
  have HXI : Hid (∀ W, Ext (((w.alloc (.cells #[.slice xa c.fields.length ca, .int .i64 c.glob, .slice xf c.funcs.length cf] 25)).alloc (.cells #[.string f.name, .int .i64 f.params, .int .i64 f.locals, .bool f.result, .slice xv f.code.length cv] 39)).alloc (.cells #[.int .i64 op, .int .i64 x] 46)) W → W.heap[w.heap.size + 1 + 1]? = some (.cells #[.int .i64 op, .int .i64 x] 46)) := fun W hW => hW.heap (alloc_at ((w.alloc (.cells #[.slice xa c.fields.length ca, .int .i64 c.glob, .slice xf c.funcs.length cf] 25)).alloc (.cells #[.string f.name, .int .i64 f.params, .int .i64 f.locals, .bool f.result, .slice xv f.code.length cv] 39)) _ (n := w.heap.size + 1 + 1) (by simp)) (fun h => h)
  have LB : Hid (Fits f.locals) := hf.lb
  have GB : Hid (Fits c.glob) := h.gb
  have OB : Hid (Fits op) := hop
  obtain ⟨R, hR⟩ : ∃ R, rightB c f op x = R := ⟨_, rfl⟩
  rw [hR]
  have HR := Lib.hid hR
  clear h hf hxv hop hR
  have hmm := @run_makeMap Tryd.prog
  have HU0 : Hid (Ext (((w.alloc (.cells #[.slice xa c.fields.length ca, .int .i64 c.glob, .slice xf c.funcs.length cf] 25)).alloc (.cells #[.string f.name, .int .i64 f.params, .int .i64 f.locals, .bool f.result, .slice xv f.code.length cv] 39)).alloc (.cells #[.int .i64 op, .int .i64 x] 46)) ((((w.alloc (.cells #[.slice xa c.fields.length ca, .int .i64 c.glob, .slice xf c.funcs.length cf] 25)).alloc (.cells #[.string f.name, .int .i64 f.params, .int .i64 f.locals, .bool f.result, .slice xv f.code.length cv] 39)).alloc (.cells #[.int .i64 op, .int .i64 x] 46)).alloc (.map #[] 0))) := (Upd.refl _ _).alloc _
  have HM := IMap.made (P := Tryd.prog) 3 (((w.alloc (.cells #[.slice xa c.fields.length ca, .int .i64 c.glob, .slice xf c.funcs.length cf] 25)).alloc (.cells #[.string f.name, .int .i64 f.params, .int .i64 f.locals, .bool f.result, .slice xv f.code.length cv] 39)).alloc (.cells #[.int .i64 op, .int .i64 x] 46))
  simp only [alloc_size] at HM
  have m20 := cellRow (HXF.out ((((w.alloc (.cells #[.slice xa c.fields.length ca, .int .i64 c.glob, .slice xf c.funcs.length cf] 25)).alloc (.cells #[.string f.name, .int .i64 f.params, .int .i64 f.locals, .bool f.result, .slice xv f.code.length cv] 39)).alloc (.cells #[.int .i64 op, .int .i64 x] 46)).alloc (.map #[] 0)) HU0.out) 2 _ rfl
  obtain ⟨w1, hr1, HM, hU⟩ := HM.put Tryd.underlying3 Tryd.underlying72 (by unfold maxLen; omega) 2 f.locals (by unfold Fits; omega) LB.out
  have HU1 : Hid (Ext (((w.alloc (.cells #[.slice xa c.fields.length ca, .int .i64 c.glob, .slice xf c.funcs.length cf] 25)).alloc (.cells #[.string f.name, .int .i64 f.params, .int .i64 f.locals, .bool f.result, .slice xv f.code.length cv] 39)).alloc (.cells #[.int .i64 op, .int .i64 x] 46)) w1) := HU0.out.trans' hU (fun j hj he => by simp at hj; omega)
  clear hU
  have m21 := cellRow (HXF.out w1 HU1.out) 2 _ rfl
  obtain ⟨w2, hr2, HM, hU⟩ := HM.put Tryd.underlying3 Tryd.underlying72 (by unfold maxLen; omega) 3 f.locals (by unfold Fits; omega) LB.out
  have HU2 : Hid (Ext (((w.alloc (.cells #[.slice xa c.fields.length ca, .int .i64 c.glob, .slice xf c.funcs.length cf] 25)).alloc (.cells #[.string f.name, .int .i64 f.params, .int .i64 f.locals, .bool f.result, .slice xv f.code.length cv] 39)).alloc (.cells #[.int .i64 op, .int .i64 x] 46)) w2) := HU1.out.trans' hU (fun j hj he => by simp at hj; omega)
  clear hU
  have k12 := cellRow (HXA.out w2 HU2.out) 1 _ rfl
  obtain ⟨w3, hr3, HM, hU⟩ := HM.put Tryd.underlying3 Tryd.underlying72 (by unfold maxLen; omega) 4 c.glob (by unfold Fits; omega) GB.out
  have HU3 : Hid (Ext (((w.alloc (.cells #[.slice xa c.fields.length ca, .int .i64 c.glob, .slice xf c.funcs.length cf] 25)).alloc (.cells #[.string f.name, .int .i64 f.params, .int .i64 f.locals, .bool f.result, .slice xv f.code.length cv] 39)).alloc (.cells #[.int .i64 op, .int .i64 x] 46)) w3) := HU2.out.trans' hU (fun j hj he => by simp at hj; omega)
  clear hU
  have k13 := cellRow (HXA.out w3 HU3.out) 1 _ rfl
  obtain ⟨w4, hr4, HM, hU⟩ := HM.put Tryd.underlying3 Tryd.underlying72 (by unfold maxLen; omega) 5 c.glob (by unfold Fits; omega) GB.out
  have HU4 : Hid (Ext (((w.alloc (.cells #[.slice xa c.fields.length ca, .int .i64 c.glob, .slice xf c.funcs.length cf] 25)).alloc (.cells #[.string f.name, .int .i64 f.params, .int .i64 f.locals, .bool f.result, .slice xv f.code.length cv] 39)).alloc (.cells #[.int .i64 op, .int .i64 x] 46)) w4) := HU3.out.trans' hU (fun j hj he => by simp at hj; omega)
  clear hU
  obtain ⟨w5, hr5, HM, hU⟩ := HM.put Tryd.underlying3 Tryd.underlying72 (by unfold maxLen; omega) 6 12 (by unfold Fits; omega) (by unfold Fits; omega)
  have HU5 : Hid (Ext (((w.alloc (.cells #[.slice xa c.fields.length ca, .int .i64 c.glob, .slice xf c.funcs.length cf] 25)).alloc (.cells #[.string f.name, .int .i64 f.params, .int .i64 f.locals, .bool f.result, .slice xv f.code.length cv] 39)).alloc (.cells #[.int .i64 op, .int .i64 x] 46)) w5) := HU4.out.trans' hU (fun j hj he => by simp at hj; omega)
  clear hU
  obtain ⟨w6, hr6, HM, hU⟩ := HM.put Tryd.underlying3 Tryd.underlying72 (by unfold maxLen; omega) 7 12 (by unfold Fits; omega) (by unfold Fits; omega)
  have HU6 : Hid (Ext (((w.alloc (.cells #[.slice xa c.fields.length ca, .int .i64 c.glob, .slice xf c.funcs.length cf] 25)).alloc (.cells #[.string f.name, .int .i64 f.params, .int .i64 f.locals, .bool f.result, .slice xv f.code.length cv] 39)).alloc (.cells #[.int .i64 op, .int .i64 x] 46)) w6) := HU5.out.trans' hU (fun j hj he => by simp at hj; omega)
  clear hU
  have k06 := cellRow (HXA.out w6 HU6.out) 0 _ rfl
  obtain ⟨w7, hr7, HM, hU⟩ := HM.put Tryd.underlying3 Tryd.underlying72 (by unfold maxLen; omega) 8 (c.fields.length : Int) (by unfold Fits; omega) (by unfold Fits; omega)
  have HU7 : Hid (Ext (((w.alloc (.cells #[.slice xa c.fields.length ca, .int .i64 c.glob, .slice xf c.funcs.length cf] 25)).alloc (.cells #[.string f.name, .int .i64 f.params, .int .i64 f.locals, .bool f.result, .slice xv f.code.length cv] 39)).alloc (.cells #[.int .i64 op, .int .i64 x] 46)) w7) := HU6.out.trans' hU (fun j hj he => by simp at hj; omega)
  clear hU
  have k27 := cellRow (HXA.out w7 HU7.out) 2 _ rfl
  obtain ⟨w8, hr8, HM, hU⟩ := HM.put Tryd.underlying3 Tryd.underlying72 (by unfold maxLen; omega) 9 (c.funcs.length : Int) (by unfold Fits; omega) (by unfold Fits; omega)
  have HU8 : Hid (Ext (((w.alloc (.cells #[.slice xa c.fields.length ca, .int .i64 c.glob, .slice xf c.funcs.length cf] 25)).alloc (.cells #[.string f.name, .int .i64 f.params, .int .i64 f.locals, .bool f.result, .slice xv f.code.length cv] 39)).alloc (.cells #[.int .i64 op, .int .i64 x] 46)) w8) := HU7.out.trans' hU (fun j hj he => by simp at hj; omega)
  clear hU
  have m48 := cellRow (HXF.out w8 HU8.out) 4 _ rfl
  obtain ⟨w9, hr9, HM, hU⟩ := HM.put Tryd.underlying3 Tryd.underlying72 (by unfold maxLen; omega) 11 (f.code.length : Int) (by unfold Fits; omega) (by unfold Fits; omega)
  have HU9 : Hid (Ext (((w.alloc (.cells #[.slice xa c.fields.length ca, .int .i64 c.glob, .slice xf c.funcs.length cf] 25)).alloc (.cells #[.string f.name, .int .i64 f.params, .int .i64 f.locals, .bool f.result, .slice xv f.code.length cv] 39)).alloc (.cells #[.int .i64 op, .int .i64 x] 46)) w9) := HU8.out.trans' hU (fun j hj he => by simp at hj; omega)
  clear hU
  have m49 := cellRow (HXF.out w9 HU9.out) 4 _ rfl
  obtain ⟨w10, hr10, HM, hU⟩ := HM.put Tryd.underlying3 Tryd.underlying72 (by unfold maxLen; omega) 12 (f.code.length : Int) (by unfold Fits; omega) (by unfold Fits; omega)
  have HU10 : Hid (Ext (((w.alloc (.cells #[.slice xa c.fields.length ca, .int .i64 c.glob, .slice xf c.funcs.length cf] 25)).alloc (.cells #[.string f.name, .int .i64 f.params, .int .i64 f.locals, .bool f.result, .slice xv f.code.length cv] 39)).alloc (.cells #[.int .i64 op, .int .i64 x] 46)) w10) := HU9.out.trans' hU (fun j hj he => by simp at hj; omega)
  clear hU
  have HF : IMap Tryd.prog 3 w10 (w.heap.size + 1 + 1 + 1) 10 (limF c f) := HM
  have HG := Lib.hid (HF.get Tryd.underlying3 Tryd.underlying72 (zero3 _) op OB.out)
  clear HM HF
  have hz := HXA.out w10 HU10.out
  have k0 := cellRow hz 0 _ rfl
  have k1 := cellRow hz 1 _ rfl
  have k2 := cellRow hz 2 _ rfl
  have hz := HXF.out w10 HU10.out
  have m0 := cellRow hz 0 _ rfl
  have m1 := cellRow hz 1 _ rfl
  have m2 := cellRow hz 2 _ rfl
  have m3 := cellRow hz 3 _ rfl
  have m4 := cellRow hz 4 _ rfl
  have hz := HXI.out w10 HU10.out
  have i0 := cellRow hz 0 _ rfl
  have i1 := cellRow hz 1 _ rfl
  clear hz
  clear HU0 HU1 HU2 HU3 HU4 HU5 HU6 HU7 HU8 HU9
  go_enter Tryd.func30, Tryd.ntmps30
  go_wp2_with (with_reducible (refine stop_at (o := ⟨some 36, _, _, _, _, _⟩) ?_))
  refine Stop.go ?_
  have hG := HG.out
  clear HG
  by_cases q1 : op = 1
  · subst q1
    have hn : limF c f 1 = none := by simp [limF, updF]
    rw [hn] at hG
    dsimp only [Option.getD, Option.isSome] at hG
    by_cases r1 : -1099511627776 ≤ x
    · by_cases r2 : x ≤ 1099511627776
      · obtain rfl : R = true := HR.out.symm.trans (decide_eq_true ⟨r1, r2⟩)
        clear HR hn
        go_wp2_with fail
        go_ret
        exact ⟨rfl, HE3.out.ext HU10.out⟩
      · obtain rfl : R = false := HR.out.symm.trans (decide_eq_false (fun q => r2 q.2))
        clear HR hn
        go_wp2_with fail
        go_ret
        exact ⟨rfl, HE3.out.ext HU10.out⟩
    · obtain rfl : R = false := HR.out.symm.trans (decide_eq_false (fun q => r1 q.1))
      clear HR hn
      go_wp2_with fail
      go_ret
      exact ⟨rfl, HE3.out.ext HU10.out⟩
  · skip
    by_cases q2 : op = 2
    · subst q2
      have hn : limF c f 2 = some f.locals := by simp [limF, updF]
      rw [hn] at hG
      dsimp only [Option.getD, Option.isSome] at hG
      have hb : rightB c f 2 x = belB x f.locals := rfl
      by_cases r1 : 0 ≤ x
      · by_cases r2 : x < f.locals
        · obtain rfl : R = true := HR.out.symm.trans (hb.trans (decide_eq_true ⟨r1, r2⟩))
          clear HR hn hb
          go_wp2_with fail
          go_ret
          exact ⟨rfl, HE3.out.ext HU10.out⟩
        · obtain rfl : R = false := HR.out.symm.trans (hb.trans (decide_eq_false (fun q => r2 q.2)))
          clear HR hn hb
          go_wp2_with fail
          go_ret
          exact ⟨rfl, HE3.out.ext HU10.out⟩
      · obtain rfl : R = false := HR.out.symm.trans (hb.trans (decide_eq_false (fun q => r1 q.1)))
        clear HR hn hb
        go_wp2_with fail
        go_ret
        exact ⟨rfl, HE3.out.ext HU10.out⟩
    · skip
      by_cases q3 : op = 3
      · subst q3
        have hn : limF c f 3 = some f.locals := by simp [limF, updF]
        rw [hn] at hG
        dsimp only [Option.getD, Option.isSome] at hG
        have hb : rightB c f 3 x = belB x f.locals := rfl
        by_cases r1 : 0 ≤ x
        · by_cases r2 : x < f.locals
          · obtain rfl : R = true := HR.out.symm.trans (hb.trans (decide_eq_true ⟨r1, r2⟩))
            clear HR hn hb
            go_wp2_with fail
            go_ret
            exact ⟨rfl, HE3.out.ext HU10.out⟩
          · obtain rfl : R = false := HR.out.symm.trans (hb.trans (decide_eq_false (fun q => r2 q.2)))
            clear HR hn hb
            go_wp2_with fail
            go_ret
            exact ⟨rfl, HE3.out.ext HU10.out⟩
        · obtain rfl : R = false := HR.out.symm.trans (hb.trans (decide_eq_false (fun q => r1 q.1)))
          clear HR hn hb
          go_wp2_with fail
          go_ret
          exact ⟨rfl, HE3.out.ext HU10.out⟩
      · skip
        by_cases q4 : op = 4
        · subst q4
          have hn : limF c f 4 = some c.glob := by simp [limF, updF]
          rw [hn] at hG
          dsimp only [Option.getD, Option.isSome] at hG
          have hb : rightB c f 4 x = belB x c.glob := rfl
          by_cases r1 : 0 ≤ x
          · by_cases r2 : x < c.glob
            · obtain rfl : R = true := HR.out.symm.trans (hb.trans (decide_eq_true ⟨r1, r2⟩))
              clear HR hn hb
              go_wp2_with fail
              go_ret
              exact ⟨rfl, HE3.out.ext HU10.out⟩
            · obtain rfl : R = false := HR.out.symm.trans (hb.trans (decide_eq_false (fun q => r2 q.2)))
              clear HR hn hb
              go_wp2_with fail
              go_ret
              exact ⟨rfl, HE3.out.ext HU10.out⟩
          · obtain rfl : R = false := HR.out.symm.trans (hb.trans (decide_eq_false (fun q => r1 q.1)))
            clear HR hn hb
            go_wp2_with fail
            go_ret
            exact ⟨rfl, HE3.out.ext HU10.out⟩
        · skip
          by_cases q5 : op = 5
          · subst q5
            have hn : limF c f 5 = some c.glob := by simp [limF, updF]
            rw [hn] at hG
            dsimp only [Option.getD, Option.isSome] at hG
            have hb : rightB c f 5 x = belB x c.glob := rfl
            by_cases r1 : 0 ≤ x
            · by_cases r2 : x < c.glob
              · obtain rfl : R = true := HR.out.symm.trans (hb.trans (decide_eq_true ⟨r1, r2⟩))
                clear HR hn hb
                go_wp2_with fail
                go_ret
                exact ⟨rfl, HE3.out.ext HU10.out⟩
              · obtain rfl : R = false := HR.out.symm.trans (hb.trans (decide_eq_false (fun q => r2 q.2)))
                clear HR hn hb
                go_wp2_with fail
                go_ret
                exact ⟨rfl, HE3.out.ext HU10.out⟩
            · obtain rfl : R = false := HR.out.symm.trans (hb.trans (decide_eq_false (fun q => r1 q.1)))
              clear HR hn hb
              go_wp2_with fail
              go_ret
              exact ⟨rfl, HE3.out.ext HU10.out⟩
          · skip
            by_cases q6 : op = 6
            · subst q6
              have hn : limF c f 6 = some 12 := by simp [limF, updF]
              rw [hn] at hG
              dsimp only [Option.getD, Option.isSome] at hG
              have hb : rightB c f 6 x = belB x 12 := rfl
              by_cases r1 : 0 ≤ x
              · by_cases r2 : x < 12
                · obtain rfl : R = true := HR.out.symm.trans (hb.trans (decide_eq_true ⟨r1, r2⟩))
                  clear HR hn hb
                  go_wp2_with fail
                  go_ret
                  exact ⟨rfl, HE3.out.ext HU10.out⟩
                · obtain rfl : R = false := HR.out.symm.trans (hb.trans (decide_eq_false (fun q => r2 q.2)))
                  clear HR hn hb
                  go_wp2_with fail
                  go_ret
                  exact ⟨rfl, HE3.out.ext HU10.out⟩
              · obtain rfl : R = false := HR.out.symm.trans (hb.trans (decide_eq_false (fun q => r1 q.1)))
                clear HR hn hb
                go_wp2_with fail
                go_ret
                exact ⟨rfl, HE3.out.ext HU10.out⟩
            · skip
              by_cases q7 : op = 7
              · subst q7
                have hn : limF c f 7 = some 12 := by simp [limF, updF]
                rw [hn] at hG
                dsimp only [Option.getD, Option.isSome] at hG
                have hb : rightB c f 7 x = belB x 12 := rfl
                by_cases r1 : 0 ≤ x
                · by_cases r2 : x < 12
                  · obtain rfl : R = true := HR.out.symm.trans (hb.trans (decide_eq_true ⟨r1, r2⟩))
                    clear HR hn hb
                    go_wp2_with fail
                    go_ret
                    exact ⟨rfl, HE3.out.ext HU10.out⟩
                  · obtain rfl : R = false := HR.out.symm.trans (hb.trans (decide_eq_false (fun q => r2 q.2)))
                    clear HR hn hb
                    go_wp2_with fail
                    go_ret
                    exact ⟨rfl, HE3.out.ext HU10.out⟩
                · obtain rfl : R = false := HR.out.symm.trans (hb.trans (decide_eq_false (fun q => r1 q.1)))
                  clear HR hn hb
                  go_wp2_with fail
                  go_ret
                  exact ⟨rfl, HE3.out.ext HU10.out⟩
              · skip
                by_cases q8 : op = 8
                · subst q8
                  have hn : limF c f 8 = some (c.fields.length : Int) := by simp [limF, updF]
                  rw [hn] at hG
                  dsimp only [Option.getD, Option.isSome] at hG
                  have hb : rightB c f 8 x = belB x (c.fields.length : Int) := rfl
                  by_cases r1 : 0 ≤ x
                  · by_cases r2 : x < (c.fields.length : Int)
                    · obtain rfl : R = true := HR.out.symm.trans (hb.trans (decide_eq_true ⟨r1, r2⟩))
                      clear HR hn hb
                      go_wp2_with fail
                      go_ret
                      exact ⟨rfl, HE3.out.ext HU10.out⟩
                    · obtain rfl : R = false := HR.out.symm.trans (hb.trans (decide_eq_false (fun q => r2 q.2)))
                      clear HR hn hb
                      go_wp2_with fail
                      go_ret
                      exact ⟨rfl, HE3.out.ext HU10.out⟩
                  · obtain rfl : R = false := HR.out.symm.trans (hb.trans (decide_eq_false (fun q => r1 q.1)))
                    clear HR hn hb
                    go_wp2_with fail
                    go_ret
                    exact ⟨rfl, HE3.out.ext HU10.out⟩
                · skip
                  by_cases q9 : op = 9
                  · subst q9
                    have hn : limF c f 9 = some (c.funcs.length : Int) := by simp [limF, updF]
                    rw [hn] at hG
                    dsimp only [Option.getD, Option.isSome] at hG
                    have hb : rightB c f 9 x = belB x (c.funcs.length : Int) := rfl
                    by_cases r1 : 0 ≤ x
                    · by_cases r2 : x < (c.funcs.length : Int)
                      · obtain rfl : R = true := HR.out.symm.trans (hb.trans (decide_eq_true ⟨r1, r2⟩))
                        clear HR hn hb
                        go_wp2_with fail
                        go_ret
                        exact ⟨rfl, HE3.out.ext HU10.out⟩
                      · obtain rfl : R = false := HR.out.symm.trans (hb.trans (decide_eq_false (fun q => r2 q.2)))
                        clear HR hn hb
                        go_wp2_with fail
                        go_ret
                        exact ⟨rfl, HE3.out.ext HU10.out⟩
                    · obtain rfl : R = false := HR.out.symm.trans (hb.trans (decide_eq_false (fun q => r1 q.1)))
                      clear HR hn hb
                      go_wp2_with fail
                      go_ret
                      exact ⟨rfl, HE3.out.ext HU10.out⟩
                  · skip
                    by_cases q11 : op = 11
                    · subst q11
                      have hn : limF c f 11 = some (f.code.length : Int) := by simp [limF, updF]
                      rw [hn] at hG
                      dsimp only [Option.getD, Option.isSome] at hG
                      have hb : rightB c f 11 x = belB x (f.code.length : Int) := rfl
                      by_cases r1 : 0 ≤ x
                      · by_cases r2 : x < (f.code.length : Int)
                        · obtain rfl : R = true := HR.out.symm.trans (hb.trans (decide_eq_true ⟨r1, r2⟩))
                          clear HR hn hb
                          go_wp2_with fail
                          go_ret
                          exact ⟨rfl, HE3.out.ext HU10.out⟩
                        · obtain rfl : R = false := HR.out.symm.trans (hb.trans (decide_eq_false (fun q => r2 q.2)))
                          clear HR hn hb
                          go_wp2_with fail
                          go_ret
                          exact ⟨rfl, HE3.out.ext HU10.out⟩
                      · obtain rfl : R = false := HR.out.symm.trans (hb.trans (decide_eq_false (fun q => r1 q.1)))
                        clear HR hn hb
                        go_wp2_with fail
                        go_ret
                        exact ⟨rfl, HE3.out.ext HU10.out⟩
                    · skip
                      by_cases q12 : op = 12
                      · subst q12
                        have hn : limF c f 12 = some (f.code.length : Int) := by simp [limF, updF]
                        rw [hn] at hG
                        dsimp only [Option.getD, Option.isSome] at hG
                        have hb : rightB c f 12 x = belB x (f.code.length : Int) := rfl
                        by_cases r1 : 0 ≤ x
                        · by_cases r2 : x < (f.code.length : Int)
                          · obtain rfl : R = true := HR.out.symm.trans (hb.trans (decide_eq_true ⟨r1, r2⟩))
                            clear HR hn hb
                            go_wp2_with fail
                            go_ret
                            exact ⟨rfl, HE3.out.ext HU10.out⟩
                          · obtain rfl : R = false := HR.out.symm.trans (hb.trans (decide_eq_false (fun q => r2 q.2)))
                            clear HR hn hb
                            go_wp2_with fail
                            go_ret
                            exact ⟨rfl, HE3.out.ext HU10.out⟩
                        · obtain rfl : R = false := HR.out.symm.trans (hb.trans (decide_eq_false (fun q => r1 q.1)))
                          clear HR hn hb
                          go_wp2_with fail
                          go_ret
                          exact ⟨rfl, HE3.out.ext HU10.out⟩
                      · skip
                        have hn : limF c f op = none := by unfold limF updF; simp [q2, q3, q4, q5, q6, q7, q8, q9, q11, q12]
                        rw [hn] at hG
                        dsimp only [Option.getD, Option.isSome] at hG
                        have hr : rightB c f op x = (decide (1 ≤ op ∧ op ≤ 31) && decide (x = 0)) := by
                          unfold rightB
                          rw [if_neg q1, if_neg (by omega), if_neg (by omega), if_neg (by omega), if_neg q8, if_neg q9, if_neg (by omega)]
                        have e1 : (op == 1) = false := beq_eq_false_iff_ne.2 q1
                        clear hn
                        by_cases r1 : 1 ≤ op
                        · have r1' : ¬ op < 1 := by omega
                          by_cases r2 : op ≤ 31
                          · have r2' : ¬ 31 < op := by omega
                            by_cases r3 : x = 0
                            · obtain rfl : R = true := HR.out.symm.trans (hr.trans (by rw [decide_eq_true ⟨r1, r2⟩, decide_eq_true r3]; rfl))
                              have r4 : (x == 0) = true := beq_iff_eq.2 r3
                              clear HR hr
                              subst r3
                              go_wp2_with fail
                              go_ret
                              exact ⟨rfl, HE3.out.ext HU10.out⟩
                            · obtain rfl : R = false := HR.out.symm.trans (hr.trans (by rw [decide_eq_false r3, Bool.and_false]))
                              have r4 : (x == 0) = false := beq_eq_false_iff_ne.2 r3
                              clear HR hr
                              go_wp2_with fail
                              go_ret
                              exact ⟨rfl, HE3.out.ext HU10.out⟩
                          · have r2' : 31 < op := by omega
                            obtain rfl : R = false := HR.out.symm.trans (hr.trans (by rw [decide_eq_false (fun q => r2 q.2), Bool.false_and]))
                            clear HR hr
                            go_wp2_with fail
                            go_ret
                            exact ⟨rfl, HE3.out.ext HU10.out⟩
                        · have r1' : op < 1 := by omega
                          obtain rfl : R = false := HR.out.symm.trans (hr.trans (by rw [decide_eq_false (fun q => r1 q.1), Bool.false_and]))
                          clear HR hr
                          go_wp2_with fail
                          go_ret
                          exact ⟨rfl, HE3.out.ext HU10.out⟩

end Go.Proofs.YtlbnilhbfiidmaaDoor
