/- head. -/
import Derived.Test.YtlbnilhbfiidmaaDoorB2
namespace Go.Proofs.YtlbnilhbfiidmaaDoor
open Go.RowKit Go.Hw
set_option linter.unusedVariables false
set_option linter.unusedSimpArgs false

set_option maxRecDepth 100000 in
set_option maxHeartbeats 4000000 in
/-- head -/
theorem head_x (a fv : Value) (c : Cd) (w : World) (h : CdR w a fv c) (htab : AscT w) : Calls Tryd.prog 16 #[.agg #[a, .int .i64 c.glob, fv]] w fun e w' => e = .returned (.bool (headB c)) ∧ Ext w w' := by
  obtain ⟨⟨xa, ca, rfl⟩, xf, cf, rfl⟩ := h.shapes
  have HN := Lib.hid h
  have HX : Hid (∀ W, Ext (w.alloc (.cells #[.slice xa c.fields.length ca, .int .i64 c.glob, .slice xf c.funcs.length cf] 25)) W → W.heap[w.heap.size]? = some (.cells #[.slice xa c.fields.length ca, .int .i64 c.glob, .slice xf c.funcs.length cf] 25)) := fun W hW => hW.heap (alloc0 w _) (fun h => h)
  have HE0 : Hid (Ext w (w.alloc (.cells #[.slice xa c.fields.length ca, .int .i64 c.glob, .slice xf c.funcs.length cf] 25))) := (Upd.refl _ w).alloc _
  have hl1 := h.l1
  have hl2 := h.l2
  clear h
  have HTAB := Lib.hid htab
  have HTW : Hid (∀ W, Ext w W → ∀ (j : Nat) (hj : j < c.funcs.length) (g off cap : Nat), Value.slice xf c.funcs.length cf = .slice (some ⟨g, off, none⟩) c.funcs.length cap → ∀ B, W.cell? ⟨B, 0, none⟩ = some (.string (c.funcs.getD j default).name) → Calls Tryd.prog 26 #[.slice (some ⟨g, off, none⟩) j cap, .func (.func 27) #[] #[.pointer (some ⟨B, 0, none⟩)]] W fun e w' => e = .returned (.bool (twB c.funcs j)) ∧ Ext W w') := fun W hW j hj g off cap hv B hB => tw_x _ _ c W (HN.out.kept hW) j hj g off cap hv B hB
  have CF : Hid (∀ W, Ext (w.alloc (.cells #[.slice xa c.fields.length ca, .int .i64 c.glob, .slice xf c.funcs.length cf] 25)) W → Calls Tryd.prog 23 #[.slice xa c.fields.length ca, .func (.func 24) #[] #[]] W fun e w' => e = .returned (.bool (!c.fields.all fldB)) ∧ Ext W w') := fun W hW => flds_x _ _ c W (HN.out.kept (HE0.out.ext hW))
  have HNM : True := trivial
  clear htab
  by_cases q1 : 12 < c.fields.length
  · have q1' : (12 : Int) < (c.fields.length : Int) := by omega
    have hh : headB c = false := by unfold headB; rw [decide_eq_false (by omega)]; rfl
    rw [hh]
    clear hh
    go_enter Tryd.func16, Tryd.ntmps16
    go_wp2_with fail
    go_ret
    exact ⟨rfl, HE0.out⟩
  · have q1' : ¬ (12 : Int) < (c.fields.length : Int) := by omega
    by_cases hfl0 : c.fields.all fldB = false
    · rw [hfl0] at CF
      have hh : headB c = false := by unfold headB; rw [hfl0]; simp
      rw [hh]
      clear hh
      clear HTW HNM
      go_enter Tryd.func16, Tryd.ntmps16
      go_wp2_with fail
      refine (CF.out _ (Upd.refl _ _)).mono ?_
      rintro e w3 ⟨rfl, h3⟩
      have H3 := Lib.hid h3
      have hz := HX.out w3 h3
      have k0 := cellRow hz 0 _ rfl
      have k1 := cellRow hz 1 _ rfl
      have k2 := cellRow hz 2 _ rfl
      clear hz
      clear h3
      go_wp2_with fail
      go_ret
      exact ⟨rfl, HE0.out.ext H3.out⟩
    · have hfl : c.fields.all fldB = true := by simpa using hfl0
      rw [hfl] at CF
      clear hfl0
      by_cases q3 : c.glob < 0
      · have hh : headB c = false := by unfold headB; rw [decide_eq_false (p := 0 ≤ c.glob ∧ c.glob ≤ 8 ∧ c.funcs.length ≤ 40) (fun q => by omega)]; simp
        rw [hh]
        clear hh
        clear HTW HNM
        go_enter Tryd.func16, Tryd.ntmps16
        go_wp2_with fail
        refine (CF.out _ (Upd.refl _ _)).mono ?_
        rintro e w3 ⟨rfl, h3⟩
        have H3 := Lib.hid h3
        have hz := HX.out w3 h3
        have k0 := cellRow hz 0 _ rfl
        have k1 := cellRow hz 1 _ rfl
        have k2 := cellRow hz 2 _ rfl
        clear hz
        clear h3
        go_wp2_with fail
        go_ret
        exact ⟨rfl, HE0.out.ext H3.out⟩
      · skip
        by_cases q4 : 8 < c.glob
        · have hh : headB c = false := by unfold headB; rw [decide_eq_false (p := 0 ≤ c.glob ∧ c.glob ≤ 8 ∧ c.funcs.length ≤ 40) (fun q => by omega)]; simp
          rw [hh]
          clear hh
          clear HTW HNM
          go_enter Tryd.func16, Tryd.ntmps16
          go_wp2_with fail
          refine (CF.out _ (Upd.refl _ _)).mono ?_
          rintro e w3 ⟨rfl, h3⟩
          have H3 := Lib.hid h3
          have hz := HX.out w3 h3
          have k0 := cellRow hz 0 _ rfl
          have k1 := cellRow hz 1 _ rfl
          have k2 := cellRow hz 2 _ rfl
          clear hz
          clear h3
          go_wp2_with fail
          go_ret
          exact ⟨rfl, HE0.out.ext H3.out⟩
        · skip
          by_cases q5 : 40 < c.funcs.length
          · have q5' : (40 : Int) < (c.funcs.length : Int) := by omega
            have hh : headB c = false := by unfold headB; rw [decide_eq_false (p := 0 ≤ c.glob ∧ c.glob ≤ 8 ∧ c.funcs.length ≤ 40) (fun q => by omega)]; simp
            rw [hh]
            clear hh
            clear HTW HNM
            go_enter Tryd.func16, Tryd.ntmps16
            go_wp2_with fail
            refine (CF.out _ (Upd.refl _ _)).mono ?_
            rintro e w3 ⟨rfl, h3⟩
            have H3 := Lib.hid h3
            have hz := HX.out w3 h3
            have k0 := cellRow hz 0 _ rfl
            have k1 := cellRow hz 1 _ rfl
            have k2 := cellRow hz 2 _ rfl
            clear hz
            clear h3
            go_wp2_with fail
            go_ret
            exact ⟨rfl, HE0.out.ext H3.out⟩
          · have q5' : ¬ (40 : Int) < (c.funcs.length : Int) := by omega
            obtain ⟨R, hR⟩ : ∃ R, (List.range c.funcs.length).all (fnAt c.funcs) = R := ⟨_, rfl⟩
            have hh : headB c = R := by unfold headB; rw [decide_eq_true (by omega), hfl, decide_eq_true (by omega), hR]; rfl
            rw [hh]
            have HR := Lib.hid hR
            clear hh hR
            go_enter Tryd.func16, Tryd.ntmps16
            go_wp2_with fail
            refine (CF.out _ (Upd.refl _ _)).mono ?_
            rintro e w3 ⟨rfl, h3⟩
            have H3 := Lib.hid h3
            have hz := HX.out w3 h3
            have k0 := cellRow hz 0 _ rfl
            have k1 := cellRow hz 1 _ rfl
            have k2 := cellRow hz 2 _ rfl
            clear hz
            clear h3 CF
            go_wp2_with fail
            go_loopg [3, 4, 33] c.funcs.length (fun gk _ _ i wr => ∃ j : Nat, i = .int .i64 j ∧ gk = c.funcs.length - j ∧ j ≤ c.funcs.length ∧ Hid (∀ i, i < j → fnAt c.funcs i = true) ∧ Hid (Ext (w.alloc (.cells #[.slice xa c.fields.length ca, .int .i64 c.glob, .slice xf c.funcs.length cf] 25)) wr))
            case atStart => exact ⟨0, rfl, rfl, Nat.zero_le _, fun i h => absurd h (Nat.not_lt_zero _), H3⟩
            case round =>
              clear k0 k1 k2
              obtain ⟨j, rfl, rfl, hj, Hj, HE⟩ := hrel
              by_cases hlt : j < c.funcs.length
              · have hz := HX.out wr HE.out
                have k0 := cellRow hz 0 _ rfl
                have k1 := cellRow hz 1 _ rfl
                have k2 := cellRow hz 2 _ rfl
                clear hz
                obtain ⟨g, off, cap', hv, hcap, c0, c1, c2, c3, c4, hf⟩ := (HN.out.kept (HE0.out.ext HE.out)).at hlt
                injection hv with e1 e2 e3
                subst e1; subst e3
                obtain ⟨x2, cap2, hv2⟩ := hf.shape
                have hl3 := hf.len
                have hl4 := hf.nlen
                rw [hv2] at c4
                have i0' : (0 : Int) ≤ (j : Int) := by omega
                have i1' : (j : Int) < (c.funcs.length : Int) := by omega
                clear e2 hf
                have E2 := Lib.hid (HE.out.alloc (.cells #[.string (c.funcs.getD j default).name, .int .i64 (c.funcs.getD j default).params, .int .i64 (c.funcs.getD j default).locals, .bool (c.funcs.getD j default).result, .slice x2 (c.funcs.getD j default).code.length cap2] 39))
                have HFB : Hid (∀ W, Ext (wr.alloc (.cells #[.string (c.funcs.getD j default).name, .int .i64 (c.funcs.getD j default).params, .int .i64 (c.funcs.getD j default).locals, .bool (c.funcs.getD j default).result, .slice x2 (c.funcs.getD j default).code.length cap2] 39)) W → W.heap[wr.heap.size]? = some (.cells #[.string (c.funcs.getD j default).name, .int .i64 (c.funcs.getD j default).params, .int .i64 (c.funcs.getD j default).locals, .bool (c.funcs.getD j default).result, .slice x2 (c.funcs.getD j default).code.length cap2] 39)) := fun W hW => hW.heap (alloc0 wr _) (fun h => h)
                have CN := Lib.hid (isName_x (c.funcs.getD j default).name (wr.alloc (.cells #[.string (c.funcs.getD j default).name, .int .i64 (c.funcs.getD j default).params, .int .i64 (c.funcs.getD j default).locals, .bool (c.funcs.getD j default).result, .slice x2 (c.funcs.getD j default).code.length cap2] 39)) (asc_ext HTAB.out (HE0.out.ext E2.out)))
                have HT : Hid (∀ W, Ext (wr.alloc (.cells #[.string (c.funcs.getD j default).name, .int .i64 (c.funcs.getD j default).params, .int .i64 (c.funcs.getD j default).locals, .bool (c.funcs.getD j default).result, .slice x2 (c.funcs.getD j default).code.length cap2] 39)) W → Calls Tryd.prog 26 #[.slice (some ⟨g, off, none⟩) j cf, .func (.func 27) #[] #[.pointer (some ⟨wr.heap.size, 0, none⟩)]] W fun e w' => e = .returned (.bool (twB c.funcs j)) ∧ Ext W w') := fun W hW => HTW.out W (HE0.out.ext (E2.out.ext hW)) j hlt g off cf rfl wr.heap.size (cellRow (HFB.out W hW) 0 _ rfl)
                cases hnm : nmB (c.funcs.getD j default).name with
                | false =>
                  rw [hnm] at CN
                  have hb : fn1B (c.funcs.getD j default) = false := by unfold fn1B; rw [hnm]; rfl
                  obtain rfl : R = false := HR.out.symm.trans (range_stop _ _ j hlt (by unfold fnAt; rw [hb]; rfl))
                  clear hb HR HTW Hj
                  generalize (c.funcs.getD j default).name = NM at *
                  generalize (c.funcs.getD j default).params = PA at *
                  generalize (c.funcs.getD j default).locals = LO at *
                  generalize (c.funcs.getD j default).result = RE at *
                  generalize (c.funcs.getD j default).code.length = CL at *
                  go_wp2_with fail
                  refine CN.out.mono ?_
                  rintro e w5 ⟨rfl, h5⟩
                  have H5 := Lib.hid (E2.out.ext h5)
                  have hz := HFB.out _ h5
                  have b0 := cellRow hz 0 _ rfl
                  have b1 := cellRow hz 1 _ rfl
                  have b2 := cellRow hz 2 _ rfl
                  have b3 := cellRow hz 3 _ rfl
                  have b4 := cellRow hz 4 _ rfl
                  clear hz h5
                  go_wp2_with fail
                  go_ret
                  exact ⟨rfl, HE0.out.ext H5.out⟩

                | true =>
                  rw [hnm] at CN
                  by_cases p1 : (c.funcs.getD j default).params < 0
                  · have hb : fn1B (c.funcs.getD j default) = false := by unfold fn1B; rw [decide_eq_false (by omega), Bool.and_false]
                    obtain rfl : R = false := HR.out.symm.trans (range_stop _ _ j hlt (by unfold fnAt; rw [hb]; rfl))
                    clear hb HR HTW Hj
                    generalize (c.funcs.getD j default).name = NM at *
                    generalize (c.funcs.getD j default).params = PA at *
                    generalize (c.funcs.getD j default).locals = LO at *
                    generalize (c.funcs.getD j default).result = RE at *
                    generalize (c.funcs.getD j default).code.length = CL at *
                    go_wp2_with fail
                    refine CN.out.mono ?_
                    rintro e w5 ⟨rfl, h5⟩
                    have H5 := Lib.hid (E2.out.ext h5)
                    have hz := HFB.out _ h5
                    have b0 := cellRow hz 0 _ rfl
                    have b1 := cellRow hz 1 _ rfl
                    have b2 := cellRow hz 2 _ rfl
                    have b3 := cellRow hz 3 _ rfl
                    have b4 := cellRow hz 4 _ rfl
                    clear hz h5
                    go_wp2_with fail
                    go_ret
                    exact ⟨rfl, HE0.out.ext H5.out⟩
                  · skip
                    by_cases p2 : 6 < (c.funcs.getD j default).params
                    · have hb : fn1B (c.funcs.getD j default) = false := by unfold fn1B; rw [decide_eq_false (by omega), Bool.and_false]
                      obtain rfl : R = false := HR.out.symm.trans (range_stop _ _ j hlt (by unfold fnAt; rw [hb]; rfl))
                      clear hb HR HTW Hj
                      generalize (c.funcs.getD j default).name = NM at *
                      generalize (c.funcs.getD j default).params = PA at *
                      generalize (c.funcs.getD j default).locals = LO at *
                      generalize (c.funcs.getD j default).result = RE at *
                      generalize (c.funcs.getD j default).code.length = CL at *
                      go_wp2_with fail
                      refine CN.out.mono ?_
                      rintro e w5 ⟨rfl, h5⟩
                      have H5 := Lib.hid (E2.out.ext h5)
                      have hz := HFB.out _ h5
                      have b0 := cellRow hz 0 _ rfl
                      have b1 := cellRow hz 1 _ rfl
                      have b2 := cellRow hz 2 _ rfl
                      have b3 := cellRow hz 3 _ rfl
                      have b4 := cellRow hz 4 _ rfl
                      clear hz h5
                      go_wp2_with fail
                      go_ret
                      exact ⟨rfl, HE0.out.ext H5.out⟩
                    · skip
                      by_cases p3 : (c.funcs.getD j default).locals < (c.funcs.getD j default).params
                      · have hb : fn1B (c.funcs.getD j default) = false := by unfold fn1B; rw [decide_eq_false (by omega), Bool.and_false]
                        obtain rfl : R = false := HR.out.symm.trans (range_stop _ _ j hlt (by unfold fnAt; rw [hb]; rfl))
                        clear hb HR HTW Hj
                        generalize (c.funcs.getD j default).name = NM at *
                        generalize (c.funcs.getD j default).params = PA at *
                        generalize (c.funcs.getD j default).locals = LO at *
                        generalize (c.funcs.getD j default).result = RE at *
                        generalize (c.funcs.getD j default).code.length = CL at *
                        go_wp2_with fail
                        refine CN.out.mono ?_
                        rintro e w5 ⟨rfl, h5⟩
                        have H5 := Lib.hid (E2.out.ext h5)
                        have hz := HFB.out _ h5
                        have b0 := cellRow hz 0 _ rfl
                        have b1 := cellRow hz 1 _ rfl
                        have b2 := cellRow hz 2 _ rfl
                        have b3 := cellRow hz 3 _ rfl
                        have b4 := cellRow hz 4 _ rfl
                        clear hz h5
                        go_wp2_with fail
                        go_ret
                        exact ⟨rfl, HE0.out.ext H5.out⟩
                      · skip
                        by_cases p4 : 100 < (c.funcs.getD j default).locals
                        · have hb : fn1B (c.funcs.getD j default) = false := by unfold fn1B; rw [decide_eq_false (by omega), Bool.and_false]
                          obtain rfl : R = false := HR.out.symm.trans (range_stop _ _ j hlt (by unfold fnAt; rw [hb]; rfl))
                          clear hb HR HTW Hj
                          generalize (c.funcs.getD j default).name = NM at *
                          generalize (c.funcs.getD j default).params = PA at *
                          generalize (c.funcs.getD j default).locals = LO at *
                          generalize (c.funcs.getD j default).result = RE at *
                          generalize (c.funcs.getD j default).code.length = CL at *
                          go_wp2_with fail
                          refine CN.out.mono ?_
                          rintro e w5 ⟨rfl, h5⟩
                          have H5 := Lib.hid (E2.out.ext h5)
                          have hz := HFB.out _ h5
                          have b0 := cellRow hz 0 _ rfl
                          have b1 := cellRow hz 1 _ rfl
                          have b2 := cellRow hz 2 _ rfl
                          have b3 := cellRow hz 3 _ rfl
                          have b4 := cellRow hz 4 _ rfl
                          clear hz h5
                          go_wp2_with fail
                          go_ret
                          exact ⟨rfl, HE0.out.ext H5.out⟩
                        · skip
                          by_cases p5 : (c.funcs.getD j default).code.length = 0
                          · have p5' : ((c.funcs.getD j default).code.length : Int) < 1 := by omega
                            have p5'' : (c.funcs.getD j default).code.length < 1 := by omega
                            have p5b : (((c.funcs.getD j default).code.length : Int) == 0) = true := beq_iff_eq.2 (by omega)
                            clear p5
                            have hb : fn1B (c.funcs.getD j default) = false := by unfold fn1B; rw [decide_eq_false (by omega), Bool.and_false]
                            obtain rfl : R = false := HR.out.symm.trans (range_stop _ _ j hlt (by unfold fnAt; rw [hb]; rfl))
                            clear hb HR HTW Hj
                            generalize (c.funcs.getD j default).name = NM at *
                            generalize (c.funcs.getD j default).params = PA at *
                            generalize (c.funcs.getD j default).locals = LO at *
                            generalize (c.funcs.getD j default).result = RE at *
                            generalize (c.funcs.getD j default).code.length = CL at *
                            go_wp2_with fail
                            refine CN.out.mono ?_
                            rintro e w5 ⟨rfl, h5⟩
                            have H5 := Lib.hid (E2.out.ext h5)
                            have hz := HFB.out _ h5
                            have b0 := cellRow hz 0 _ rfl
                            have b1 := cellRow hz 1 _ rfl
                            have b2 := cellRow hz 2 _ rfl
                            have b3 := cellRow hz 3 _ rfl
                            have b4 := cellRow hz 4 _ rfl
                            clear hz h5
                            go_wp2_with fail
                            go_ret
                            exact ⟨rfl, HE0.out.ext H5.out⟩
                          · have p5' : ¬ ((c.funcs.getD j default).code.length : Int) < 1 := by omega
                            have p5'' : ¬ (c.funcs.getD j default).code.length < 1 := by omega
                            have p5b : (((c.funcs.getD j default).code.length : Int) == 0) = false := beq_eq_false_iff_ne.2 (by omega)
                            have p5c : ((c.funcs.getD j default).code.length == 0) = false := beq_eq_false_iff_ne.2 p5
                            by_cases p6 : 1048576 < (c.funcs.getD j default).code.length
                            · have p6' : (1048576 : Int) < ((c.funcs.getD j default).code.length : Int) := by omega
                              have hb : fn1B (c.funcs.getD j default) = false := by unfold fn1B; rw [decide_eq_false (by omega), Bool.and_false]
                              obtain rfl : R = false := HR.out.symm.trans (range_stop _ _ j hlt (by unfold fnAt; rw [hb]; rfl))
                              clear hb HR HTW Hj
                              generalize (c.funcs.getD j default).name = NM at *
                              generalize (c.funcs.getD j default).params = PA at *
                              generalize (c.funcs.getD j default).locals = LO at *
                              generalize (c.funcs.getD j default).result = RE at *
                              generalize (c.funcs.getD j default).code.length = CL at *
                              go_wp2_with fail
                              refine CN.out.mono ?_
                              rintro e w5 ⟨rfl, h5⟩
                              have H5 := Lib.hid (E2.out.ext h5)
                              have hz := HFB.out _ h5
                              have b0 := cellRow hz 0 _ rfl
                              have b1 := cellRow hz 1 _ rfl
                              have b2 := cellRow hz 2 _ rfl
                              have b3 := cellRow hz 3 _ rfl
                              have b4 := cellRow hz 4 _ rfl
                              clear hz h5
                              go_wp2_with fail
                              go_ret
                              exact ⟨rfl, HE0.out.ext H5.out⟩
                            · have p6' : ¬ (1048576 : Int) < ((c.funcs.getD j default).code.length : Int) := by omega
                              have hb : fn1B (c.funcs.getD j default) = true := by unfold fn1B; rw [hnm, decide_eq_true (by omega)]; rfl
                              cases htw : twB c.funcs j with
                              | true =>
                                obtain rfl : R = false := HR.out.symm.trans (range_stop _ _ j hlt (by unfold fnAt; rw [hb, htw]; rfl))
                                rw [htw] at HT
                                clear hb HR HTW Hj htw
                                generalize (c.funcs.getD j default).name = NM at *
                                generalize (c.funcs.getD j default).params = PA at *
                                generalize (c.funcs.getD j default).locals = LO at *
                                generalize (c.funcs.getD j default).result = RE at *
                                generalize (c.funcs.getD j default).code.length = CL at *
                                go_wp2_with fail
                                refine CN.out.mono ?_
                                rintro e w5 ⟨rfl, h5⟩
                                have H5 := Lib.hid (E2.out.ext h5)
                                have hz := HFB.out _ h5
                                have b0 := cellRow hz 0 _ rfl
                                have b1 := cellRow hz 1 _ rfl
                                have b2 := cellRow hz 2 _ rfl
                                have b3 := cellRow hz 3 _ rfl
                                have b4 := cellRow hz 4 _ rfl
                                have hz := HX.out w5 H5.out
                                have k0 := cellRow hz 0 _ rfl
                                have k1 := cellRow hz 1 _ rfl
                                have k2 := cellRow hz 2 _ rfl
                                clear hz
                                have HT5 := HT.out w5 h5
                                clear hz h5
                                go_wp2_with fail
                                refine HT5.mono ?_
                                rintro e w6 ⟨rfl, h6⟩
                                have H6 := Lib.hid (H5.out.ext h6)
                                clear h6 HT5
                                go_wp2_with fail
                                go_ret
                                exact ⟨rfl, HE0.out.ext H6.out⟩

                              | false =>
                                have HJ2 : Hid (∀ i, i < j + 1 → fnAt c.funcs i = true) := fun i hi => by
                                  by_cases e : i = j
                                  · subst e; unfold fnAt; rw [hb, htw]; rfl
                                  · exact Hj.out i (by omega)
                                rw [htw] at HT
                                clear hb HTW Hj htw
                                generalize (c.funcs.getD j default).name = NM at *
                                generalize (c.funcs.getD j default).params = PA at *
                                generalize (c.funcs.getD j default).locals = LO at *
                                generalize (c.funcs.getD j default).result = RE at *
                                generalize (c.funcs.getD j default).code.length = CL at *
                                go_wp2_with fail
                                refine CN.out.mono ?_
                                rintro e w5 ⟨rfl, h5⟩
                                have H5 := Lib.hid (E2.out.ext h5)
                                have hz := HFB.out _ h5
                                have b0 := cellRow hz 0 _ rfl
                                have b1 := cellRow hz 1 _ rfl
                                have b2 := cellRow hz 2 _ rfl
                                have b3 := cellRow hz 3 _ rfl
                                have b4 := cellRow hz 4 _ rfl
                                have hz := HX.out w5 H5.out
                                have k0 := cellRow hz 0 _ rfl
                                have k1 := cellRow hz 1 _ rfl
                                have k2 := cellRow hz 2 _ rfl
                                clear hz
                                have HT5 := HT.out w5 h5
                                clear hz h5
                                go_wp2_with fail
                                refine HT5.mono ?_
                                rintro e w6 ⟨rfl, h6⟩
                                have H6 := Lib.hid (H5.out.ext h6)
                                clear h6 HT5
                                go_wp2_with fail
                                go_roundg (c.funcs.length - (j + 1))
                                case measure => omega
                                case rel => exact ⟨j + 1, by go_num, rfl, by omega, HJ2, H6⟩

              · obtain rfl : R = true := by
                  rw [← HR.out]
                  exact range_all _ _ (fun i hi => Hj.out i (by omega))
                clear HR
                have hz := HX.out wr HE.out
                have k0 := cellRow hz 0 _ rfl
                have k1 := cellRow hz 1 _ rfl
                have k2 := cellRow hz 2 _ rfl
                clear hz
                go_wp2_with fail
                go_ret
                exact ⟨rfl, HE0.out.ext HE.out⟩

end Go.Proofs.YtlbnilhbfiidmaaDoor
