/- ref.Head. -/
import Derived.Test.YtlbnilhbfiidmaaDoorB2
namespace Go.Proofs.YtlbnilhbfiidmaaDoor
open Go.RowKit Go.Hw
set_option linter.unusedVariables false
set_option linter.unusedSimpArgs false

theorem tw_hit (l : List Fn) {k j : Nat} (hk : k < j) (hj : j < l.length) (h : (l.getD k default).name = (l.getD j default).name) : twB l j = true := by
  unfold twB
  rw [List.any_eq_true]
  refine ⟨l.getD k default, ?_, by rw [h]; exact decide_eq_true rfl⟩
  rw [List.mem_take_iff_getElem]
  refine ⟨k, by omega, ?_⟩
  rw [List.getD_eq_getElem?_getD, List.getElem?_eq_getElem (by omega)]; rfl
theorem tw_none (l : List Fn) (j : Nat) (hj : j < l.length) (h : ∀ k, k < j → (l.getD k default).name ≠ (l.getD j default).name) : twB l j = false := by
  unfold twB
  rw [List.any_eq_false]
  intro x hx
  rw [List.mem_take_iff_getElem] at hx
  obtain ⟨k, hk, rfl⟩ := hx
  have := h k (by omega)
  rw [List.getD_eq_getElem?_getD, List.getElem?_eq_getElem (by omega)] at this
  simpa using this
set_option maxRecDepth 100000 in
set_option maxHeartbeats 4000000 in
/-- Head -/
theorem rhead_x (a fv : Value) (c : Cd) (w : World) (h : CdR w a fv c) : Calls Tryd.prog 10 #[.agg #[a, .int .i64 c.glob, fv]] w fun e w' => e = .returned (.bool (headB c)) ∧ Ext w w' := by
  obtain ⟨⟨xa, ca, rfl⟩, xf, cf, rfl⟩ := h.shapes
  have HN := Lib.hid h
  have HX : Hid (∀ W, Ext (w.alloc (.cells #[.slice xa c.fields.length ca, .int .i64 c.glob, .slice xf c.funcs.length cf] 25)) W → W.heap[w.heap.size]? = some (.cells #[.slice xa c.fields.length ca, .int .i64 c.glob, .slice xf c.funcs.length cf] 25)) := fun W hW => hW.heap (alloc0 w _) (fun h => h)
  have HE0 : Hid (Ext w (w.alloc (.cells #[.slice xa c.fields.length ca, .int .i64 c.glob, .slice xf c.funcs.length cf] 25))) := (Upd.refl _ w).alloc _
  have hl1 := h.l1
  have hl2 := h.l2
  clear h
  by_cases q1 : 12 < c.fields.length
  · have q1' : (12 : Int) < (c.fields.length : Int) := by omega
    have hh : headB c = false := by unfold headB; rw [decide_eq_false (by omega)]; rfl
    rw [hh]
    clear hh
    go_enter Tryd.func10, Tryd.ntmps10
    go_wp2_with fail
    go_ret
    exact ⟨rfl, HE0.out⟩
  · have q1' : ¬ (12 : Int) < (c.fields.length : Int) := by omega
    by_cases q3 : c.glob < 0
    · have hh : headB c = false := by unfold headB; rw [decide_eq_false (p := 0 ≤ c.glob ∧ c.glob ≤ 8 ∧ c.funcs.length ≤ 40) (fun q => by omega)]; simp
      rw [hh]
      clear hh
      go_enter Tryd.func10, Tryd.ntmps10
      go_wp2_with fail
      go_ret
      exact ⟨rfl, HE0.out⟩
    · skip
      by_cases q4 : 8 < c.glob
      · have hh : headB c = false := by unfold headB; rw [decide_eq_false (p := 0 ≤ c.glob ∧ c.glob ≤ 8 ∧ c.funcs.length ≤ 40) (fun q => by omega)]; simp
        rw [hh]
        clear hh
        go_enter Tryd.func10, Tryd.ntmps10
        go_wp2_with fail
        go_ret
        exact ⟨rfl, HE0.out⟩
      · skip
        by_cases q5 : 40 < c.funcs.length
        · have q5' : (40 : Int) < (c.funcs.length : Int) := by omega
          have hh : headB c = false := by unfold headB; rw [decide_eq_false (p := 0 ≤ c.glob ∧ c.glob ≤ 8 ∧ c.funcs.length ≤ 40) (fun q => by omega)]; simp
          rw [hh]
          clear hh
          go_enter Tryd.func10, Tryd.ntmps10
          go_wp2_with fail
          go_ret
          exact ⟨rfl, HE0.out⟩
        · have q5' : ¬ (40 : Int) < (c.funcs.length : Int) := by omega
          obtain ⟨R, hR⟩ : ∃ R, (List.range c.funcs.length).all (fnAt c.funcs) = R := ⟨_, rfl⟩
          obtain ⟨Q, hQ⟩ : ∃ Q, c.fields.all fldB = Q := ⟨_, rfl⟩
          have hh : headB c = (Q && R) := by unfold headB; rw [decide_eq_true (by omega), hQ, decide_eq_true (by omega), hR]; rfl
          rw [hh]
          have HR := Lib.hid hR
          have HQ := Lib.hid hQ
          clear hh hR hQ
          go_enter Tryd.func10, Tryd.ntmps10
          have hz := HX.out (w.alloc (.cells #[.slice xa c.fields.length ca, .int .i64 c.glob, .slice xf c.funcs.length cf] 25)) (Upd.refl _ _)
          have k0 := cellRow hz 0 _ rfl
          have k1 := cellRow hz 1 _ rfl
          have k2 := cellRow hz 2 _ rfl
          clear hz
          go_wp2_with fail
          clear k0 k1 k2
          go_loopg [3] c.fields.length (fun gk s3 wr => ∃ i : Nat, s3 = .int .i64 i ∧ gk = c.fields.length - i ∧ i ≤ c.fields.length ∧ Hid (∀ k, k < i → fldB (c.fields.getD k 0) = true) ∧ wr = (w.alloc (.cells #[.slice xa c.fields.length ca, .int .i64 c.glob, .slice xf c.funcs.length cf] 25)))
          case atStart => exact ⟨0, rfl, rfl, Nat.zero_le _, fun i h => absurd h (Nat.not_lt_zero _), rfl⟩
          case round =>
            obtain ⟨i, rfl, rfl, hi, Hi, rfl⟩ := hrel
            have hz := HX.out (w.alloc (.cells #[.slice xa c.fields.length ca, .int .i64 c.glob, .slice xf c.funcs.length cf] 25)) (Upd.refl _ _)
            have k0 := cellRow hz 0 _ rfl
            have k1 := cellRow hz 1 _ rfl
            have k2 := cellRow hz 2 _ rfl
            clear hz
            by_cases hlt : i < c.fields.length
            · obtain ⟨g, off, cap', hv, hcap, c0⟩ := (HN.out.kept HE0.out).fld hlt
              injection hv with e1 e2 e3
              subst e1; subst e3
              have i0' : (0 : Int) ≤ (i : Int) := by omega
              have i1' : (i : Int) < (c.fields.length : Int) := by omega
              clear e2
              obtain ⟨X, hX⟩ : ∃ X, c.fields.getD i 0 = X := ⟨_, rfl⟩
              rw [hX] at c0
              by_cases r1 : X < 0
              · obtain rfl : Q = false := HQ.out.symm.trans (list_stop _ _ i 0 hlt (by rw [hX]; unfold fldB; exact decide_eq_false (by omega)))
                clear HQ HR hX
                go_wp2_with fail
                go_ret
                exact ⟨by simp, HE0.out⟩
              · by_cases r2 : 12 < X
                · obtain rfl : Q = false := HQ.out.symm.trans (list_stop _ _ i 0 hlt (by rw [hX]; unfold fldB; exact decide_eq_false (by omega)))
                  clear HQ HR hX
                  go_wp2_with fail
                  go_ret
                  exact ⟨by simp, HE0.out⟩
                · have HI2 : Hid (∀ k, k < i + 1 → fldB (c.fields.getD k 0) = true) := fun k hk => by
                    by_cases e : k = i
                    · subst e; rw [hX]; unfold fldB; exact decide_eq_true (by omega)
                    · exact Hi.out k (by omega)
                  clear hX
                  go_wp2_with fail
                  go_roundg (c.fields.length - (i + 1))
                  case measure => omega
                  case rel => exact ⟨i + 1, by go_num, rfl, by omega, HI2, rfl⟩
            · obtain rfl : Q = true := by
                rw [← HQ.out]
                exact list_all _ _ 0 (fun k hk => Hi.out k (by omega))
              clear HQ
              go_wp2_with fail
              clear k0 k1 k2
              go_loopg [4, 5, 6] c.funcs.length (fun gk i _ _ wr => ∃ j : Nat, i = .int .i64 j ∧ gk = c.funcs.length - j ∧ j ≤ c.funcs.length ∧ Hid (∀ i, i < j → fnAt c.funcs i = true) ∧ Hid (Ext (w.alloc (.cells #[.slice xa c.fields.length ca, .int .i64 c.glob, .slice xf c.funcs.length cf] 25)) wr))
              case atStart => exact ⟨0, rfl, rfl, Nat.zero_le _, fun i h => absurd h (Nat.not_lt_zero _), Upd.refl _ _⟩
              case round =>
                obtain ⟨j, rfl, rfl, hj, Hj, HE⟩ := hrel
                by_cases hlt : j < c.funcs.length
                · have hz := HX.out wr HE.out
                  have k0 := cellRow hz 0 _ rfl
                  have k1 := cellRow hz 1 _ rfl
                  have k2 := cellRow hz 2 _ rfl
                  clear hz
                  obtain ⟨g, off, cap', hv, hcap, c0, c1, c2, c3, c4, hf⟩ := (HN.out.kept (HE0.out.ext HE.out)).at hlt
                  injection hv with e1 e2 e3
                  subst e1; subst e3
                  obtain ⟨x2, cap2, hv2⟩ := hf.shape
                  have hl3 := hf.len
                  have hl4 := hf.nlen
                  rw [hv2] at c4
                  have i0' : (0 : Int) ≤ (j : Int) := by omega
                  have i1' : (j : Int) < (c.funcs.length : Int) := by omega
                  clear e2 hf
                  have E2 := Lib.hid (HE.out.alloc (.cells #[.string (c.funcs.getD j default).name, .int .i64 (c.funcs.getD j default).params, .int .i64 (c.funcs.getD j default).locals, .bool (c.funcs.getD j default).result, .slice x2 (c.funcs.getD j default).code.length cap2] 39))
                  have HFB : Hid (∀ W, Ext (wr.alloc (.cells #[.string (c.funcs.getD j default).name, .int .i64 (c.funcs.getD j default).params, .int .i64 (c.funcs.getD j default).locals, .bool (c.funcs.getD j default).result, .slice x2 (c.funcs.getD j default).code.length cap2] 39)) W → W.heap[wr.heap.size]? = some (.cells #[.string (c.funcs.getD j default).name, .int .i64 (c.funcs.getD j default).params, .int .i64 (c.funcs.getD j default).locals, .bool (c.funcs.getD j default).result, .slice x2 (c.funcs.getD j default).code.length cap2] 39)) := fun W hW => hW.heap (alloc0 wr _) (fun h => h)
                  have CN := Lib.hid (rIsName_x (c.funcs.getD j default).name (wr.alloc (.cells #[.string (c.funcs.getD j default).name, .int .i64 (c.funcs.getD j default).params, .int .i64 (c.funcs.getD j default).locals, .bool (c.funcs.getD j default).result, .slice x2 (c.funcs.getD j default).code.length cap2] 39)))
                  cases hnm : nmB (c.funcs.getD j default).name with
                  | false =>
                    rw [hnm] at CN
                    have hb : fn1B (c.funcs.getD j default) = false := by unfold fn1B; rw [hnm]; rfl
                    obtain rfl : R = false := HR.out.symm.trans (by rw [range_stop _ _ j hlt (by unfold fnAt; rw [hb]; rfl)])
                    clear hb HR Hj
                    generalize (c.funcs.getD j default).name = NM at *
                    generalize (c.funcs.getD j default).params = PA at *
                    generalize (c.funcs.getD j default).locals = LO at *
                    generalize (c.funcs.getD j default).result = RE at *
                    generalize (c.funcs.getD j default).code.length = CL at *
                    go_wp2_with fail
                    refine CN.out.mono ?_
                    rintro e w5 ⟨rfl, h5⟩
                    have H5 := Lib.hid (E2.out.ext h5)
                    have hz := HFB.out _ h5
                    have b0 := cellRow hz 0 _ rfl
                    have b1 := cellRow hz 1 _ rfl
                    have b2 := cellRow hz 2 _ rfl
                    have b3 := cellRow hz 3 _ rfl
                    have b4 := cellRow hz 4 _ rfl
                    clear hz h5
                    go_wp2_with fail
                    go_ret
                    exact ⟨by simp, HE0.out.ext H5.out⟩

                  | true =>
                    rw [hnm] at CN
                    by_cases p1 : (c.funcs.getD j default).params < 0
                    · have hb : fn1B (c.funcs.getD j default) = false := by unfold fn1B; rw [decide_eq_false (by omega), Bool.and_false]
                      obtain rfl : R = false := HR.out.symm.trans (by rw [range_stop _ _ j hlt (by unfold fnAt; rw [hb]; rfl)])
                      clear hb HR Hj
                      generalize (c.funcs.getD j default).name = NM at *
                      generalize (c.funcs.getD j default).params = PA at *
                      generalize (c.funcs.getD j default).locals = LO at *
                      generalize (c.funcs.getD j default).result = RE at *
                      generalize (c.funcs.getD j default).code.length = CL at *
                      go_wp2_with fail
                      refine CN.out.mono ?_
                      rintro e w5 ⟨rfl, h5⟩
                      have H5 := Lib.hid (E2.out.ext h5)
                      have hz := HFB.out _ h5
                      have b0 := cellRow hz 0 _ rfl
                      have b1 := cellRow hz 1 _ rfl
                      have b2 := cellRow hz 2 _ rfl
                      have b3 := cellRow hz 3 _ rfl
                      have b4 := cellRow hz 4 _ rfl
                      clear hz h5
                      go_wp2_with fail
                      go_ret
                      exact ⟨by simp, HE0.out.ext H5.out⟩
                    · skip
                      by_cases p2 : 6 < (c.funcs.getD j default).params
                      · have hb : fn1B (c.funcs.getD j default) = false := by unfold fn1B; rw [decide_eq_false (by omega), Bool.and_false]
                        obtain rfl : R = false := HR.out.symm.trans (by rw [range_stop _ _ j hlt (by unfold fnAt; rw [hb]; rfl)])
                        clear hb HR Hj
                        generalize (c.funcs.getD j default).name = NM at *
                        generalize (c.funcs.getD j default).params = PA at *
                        generalize (c.funcs.getD j default).locals = LO at *
                        generalize (c.funcs.getD j default).result = RE at *
                        generalize (c.funcs.getD j default).code.length = CL at *
                        go_wp2_with fail
                        refine CN.out.mono ?_
                        rintro e w5 ⟨rfl, h5⟩
                        have H5 := Lib.hid (E2.out.ext h5)
                        have hz := HFB.out _ h5
                        have b0 := cellRow hz 0 _ rfl
                        have b1 := cellRow hz 1 _ rfl
                        have b2 := cellRow hz 2 _ rfl
                        have b3 := cellRow hz 3 _ rfl
                        have b4 := cellRow hz 4 _ rfl
                        clear hz h5
                        go_wp2_with fail
                        go_ret
                        exact ⟨by simp, HE0.out.ext H5.out⟩
                      · skip
                        by_cases p3 : (c.funcs.getD j default).locals < (c.funcs.getD j default).params
                        · have hb : fn1B (c.funcs.getD j default) = false := by unfold fn1B; rw [decide_eq_false (by omega), Bool.and_false]
                          obtain rfl : R = false := HR.out.symm.trans (by rw [range_stop _ _ j hlt (by unfold fnAt; rw [hb]; rfl)])
                          clear hb HR Hj
                          generalize (c.funcs.getD j default).name = NM at *
                          generalize (c.funcs.getD j default).params = PA at *
                          generalize (c.funcs.getD j default).locals = LO at *
                          generalize (c.funcs.getD j default).result = RE at *
                          generalize (c.funcs.getD j default).code.length = CL at *
                          go_wp2_with fail
                          refine CN.out.mono ?_
                          rintro e w5 ⟨rfl, h5⟩
                          have H5 := Lib.hid (E2.out.ext h5)
                          have hz := HFB.out _ h5
                          have b0 := cellRow hz 0 _ rfl
                          have b1 := cellRow hz 1 _ rfl
                          have b2 := cellRow hz 2 _ rfl
                          have b3 := cellRow hz 3 _ rfl
                          have b4 := cellRow hz 4 _ rfl
                          clear hz h5
                          go_wp2_with fail
                          go_ret
                          exact ⟨by simp, HE0.out.ext H5.out⟩
                        · skip
                          by_cases p4 : 100 < (c.funcs.getD j default).locals
                          · have hb : fn1B (c.funcs.getD j default) = false := by unfold fn1B; rw [decide_eq_false (by omega), Bool.and_false]
                            obtain rfl : R = false := HR.out.symm.trans (by rw [range_stop _ _ j hlt (by unfold fnAt; rw [hb]; rfl)])
                            clear hb HR Hj
                            generalize (c.funcs.getD j default).name = NM at *
                            generalize (c.funcs.getD j default).params = PA at *
                            generalize (c.funcs.getD j default).locals = LO at *
                            generalize (c.funcs.getD j default).result = RE at *
                            generalize (c.funcs.getD j default).code.length = CL at *
                            go_wp2_with fail
                            refine CN.out.mono ?_
                            rintro e w5 ⟨rfl, h5⟩
                            have H5 := Lib.hid (E2.out.ext h5)
                            have hz := HFB.out _ h5
                            have b0 := cellRow hz 0 _ rfl
                            have b1 := cellRow hz 1 _ rfl
                            have b2 := cellRow hz 2 _ rfl
                            have b3 := cellRow hz 3 _ rfl
                            have b4 := cellRow hz 4 _ rfl
                            clear hz h5
                            go_wp2_with fail
                            go_ret
                            exact ⟨by simp, HE0.out.ext H5.out⟩
                          · skip
                            by_cases p5 : (c.funcs.getD j default).code.length = 0
                            · have p5' : ((c.funcs.getD j default).code.length : Int) < 1 := by omega
                              have p5'' : (c.funcs.getD j default).code.length < 1 := by omega
                              have p5b : (((c.funcs.getD j default).code.length : Int) == 0) = true := beq_iff_eq.2 (by omega)
                              clear p5
                              have hb : fn1B (c.funcs.getD j default) = false := by unfold fn1B; rw [decide_eq_false (by omega), Bool.and_false]
                              obtain rfl : R = false := HR.out.symm.trans (by rw [range_stop _ _ j hlt (by unfold fnAt; rw [hb]; rfl)])
                              clear hb HR Hj
                              generalize (c.funcs.getD j default).name = NM at *
                              generalize (c.funcs.getD j default).params = PA at *
                              generalize (c.funcs.getD j default).locals = LO at *
                              generalize (c.funcs.getD j default).result = RE at *
                              generalize (c.funcs.getD j default).code.length = CL at *
                              go_wp2_with fail
                              refine CN.out.mono ?_
                              rintro e w5 ⟨rfl, h5⟩
                              have H5 := Lib.hid (E2.out.ext h5)
                              have hz := HFB.out _ h5
                              have b0 := cellRow hz 0 _ rfl
                              have b1 := cellRow hz 1 _ rfl
                              have b2 := cellRow hz 2 _ rfl
                              have b3 := cellRow hz 3 _ rfl
                              have b4 := cellRow hz 4 _ rfl
                              clear hz h5
                              go_wp2_with fail
                              go_ret
                              exact ⟨by simp, HE0.out.ext H5.out⟩
                            · have p5' : ¬ ((c.funcs.getD j default).code.length : Int) < 1 := by omega
                              have p5'' : ¬ (c.funcs.getD j default).code.length < 1 := by omega
                              have p5b : (((c.funcs.getD j default).code.length : Int) == 0) = false := beq_eq_false_iff_ne.2 (by omega)
                              have p5c : ((c.funcs.getD j default).code.length == 0) = false := beq_eq_false_iff_ne.2 p5
                              by_cases p6 : 1048576 < (c.funcs.getD j default).code.length
                              · have p6' : (1048576 : Int) < ((c.funcs.getD j default).code.length : Int) := by omega
                                have hb : fn1B (c.funcs.getD j default) = false := by unfold fn1B; rw [decide_eq_false (by omega), Bool.and_false]
                                obtain rfl : R = false := HR.out.symm.trans (by rw [range_stop _ _ j hlt (by unfold fnAt; rw [hb]; rfl)])
                                clear hb HR Hj
                                generalize (c.funcs.getD j default).name = NM at *
                                generalize (c.funcs.getD j default).params = PA at *
                                generalize (c.funcs.getD j default).locals = LO at *
                                generalize (c.funcs.getD j default).result = RE at *
                                generalize (c.funcs.getD j default).code.length = CL at *
                                go_wp2_with fail
                                refine CN.out.mono ?_
                                rintro e w5 ⟨rfl, h5⟩
                                have H5 := Lib.hid (E2.out.ext h5)
                                have hz := HFB.out _ h5
                                have b0 := cellRow hz 0 _ rfl
                                have b1 := cellRow hz 1 _ rfl
                                have b2 := cellRow hz 2 _ rfl
                                have b3 := cellRow hz 3 _ rfl
                                have b4 := cellRow hz 4 _ rfl
                                clear hz h5
                                go_wp2_with fail
                                go_ret
                                exact ⟨by simp, HE0.out.ext H5.out⟩
                              · have p6' : ¬ (1048576 : Int) < ((c.funcs.getD j default).code.length : Int) := by omega
                                have hb : fn1B (c.funcs.getD j default) = true := by unfold fn1B; rw [hnm, decide_eq_true (by omega)]; rfl
                                obtain ⟨NM, hNM⟩ : ∃ NM, (c.funcs.getD j default).name = NM := ⟨_, rfl⟩
                                have HNM := Lib.hid hNM
                                have HB := Lib.hid hb
                                rw [hNM] at c0 E2 HFB CN
                                clear hb hNM hnm
                                generalize (c.funcs.getD j default).params = PA at *
                                generalize (c.funcs.getD j default).locals = LO at *
                                generalize (c.funcs.getD j default).result = RE at *
                                generalize (c.funcs.getD j default).code.length = CL at *
                                go_wp2_with fail
                                refine CN.out.mono ?_
                                rintro e w5 ⟨rfl, h5⟩
                                have HB5 : Hid (Ext (wr.alloc (.cells #[.string NM, .int .i64 PA, .int .i64 LO, .bool RE, .slice x2 CL cap2] 39)) w5) := h5
                                have hz := HFB.out _ h5
                                have b0 := cellRow hz 0 _ rfl
                                have b1 := cellRow hz 1 _ rfl
                                have b2 := cellRow hz 2 _ rfl
                                have b3 := cellRow hz 3 _ rfl
                                have b4 := cellRow hz 4 _ rfl
                                clear hz h5
                                go_wp2_with fail
                                clear b0 b1 b2 b3 b4 k0 k1 k2 c0 c1 c2 c3 c4 p1 p2 p3 p4 p5 p6 p6' p5' p5'' p5b p5c
                                obtain ⟨wa, hwa⟩ : ∃ wa, wa = wr := ⟨_, rfl⟩
                                subst hwa
                                go_loopg [6] j (fun gk s6 wr => ∃ k : Nat, s6 = .int .i64 k ∧ gk = j - k ∧ k ≤ j ∧ Hid (∀ i, i < k → (c.funcs.getD i default).name ≠ NM) ∧ Hid (Ext (wa.alloc (.cells #[.string NM, .int .i64 PA, .int .i64 LO, .bool RE, .slice x2 CL cap2] 39)) wr))
                                case atStart => exact ⟨0, rfl, rfl, Nat.zero_le _, fun i h => absurd h (Nat.not_lt_zero _), HB5⟩
                                case round =>
                                  obtain ⟨k, rfl, rfl, hk, Hk, HEk⟩ := hrel
                                  have E3 := Lib.hid (E2.out.ext HEk.out)
                                  by_cases hkj : k < j
                                  · have hk2 : k < c.funcs.length := by omega
                                    have ck : wr.cell? ⟨g, off + k * 5, none⟩ = some (.string (c.funcs.getD k default).name) := by
                                      have := (HN.out.kept (HE0.out.ext E3.out)).row5 rfl k hk2 0 _ rfl
                                      rw [get!_getD] at this
                                      exact this
                                    have hz := HFB.out _ HEk.out
                                    have b0 := cellRow hz 0 _ rfl
                                    clear hz
                                    have hz := HX.out wr E3.out
                                    have k0 := cellRow hz 0 _ rfl
                                    have k1 := cellRow hz 1 _ rfl
                                    have k2 := cellRow hz 2 _ rfl
                                    clear hz
                                    have i0' : (0 : Int) ≤ (k : Int) := by omega
                                    have i1' : (k : Int) < (c.funcs.length : Int) := by omega
                                    by_cases he : (c.funcs.getD k default).name = NM
                                    · obtain rfl : R = false := HR.out.symm.trans (by rw [range_stop _ _ j hlt (by unfold fnAt; rw [tw_hit c.funcs hkj hlt (he.trans HNM.out.symm)]; simp)])
                                      rw [he] at ck
                                      have t1 := (Lib.bytes_beq_iff NM NM).2 rfl
                                      clear he HR
                                      go_wp2_with fail
                                      go_quiet (fail)
                                      go_wp2_with fail
                                      go_ret
                                      exact ⟨by simp, HE0.out.ext (E3.out.drewN' _)⟩
                                    · have t1 := (Lib.bytes_beq_false_iff _ _).2 he
                                      have HK2 : Hid (∀ i, i < k + 1 → (c.funcs.getD i default).name ≠ NM) := fun i hi => by
                                        by_cases e : i = k
                                        · subst e; exact he
                                        · exact Hk.out i (by omega)
                                      clear he
                                      generalize (c.funcs.getD k default).name = NK at *
                                      go_wp2_with fail
                                      go_quiet (fail)
                                      go_wp2_with fail
                                      go_roundg (j - (k + 1))
                                      case measure => omega
                                      case rel => exact ⟨k + 1, by go_num, rfl, by omega, HK2, HEk.out.drewN' _⟩
                                  · have htw : twB c.funcs j = false := tw_none c.funcs j hlt (fun i hi => by rw [HNM.out]; exact Hk.out i (by omega))
                                    have HJ2 : Hid (∀ i, i < j + 1 → fnAt c.funcs i = true) := fun i hi => by
                                      by_cases e : i = j
                                      · subst e; unfold fnAt; rw [HB.out, htw]; rfl
                                      · exact Hj.out i (by omega)
                                    clear htw
                                    go_wp2_with fail
                                    go_roundg (c.funcs.length - (j + 1))
                                    case measure => omega
                                    case rel => exact ⟨j + 1, by go_num, rfl, by omega, HJ2, E3⟩

                · obtain rfl : R = true := by
                    rw [← HR.out]
                    exact range_all _ _ (fun i hi => Hj.out i (by omega))
                  clear HR
                  have hz := HX.out wr HE.out
                  have k0 := cellRow hz 0 _ rfl
                  have k1 := cellRow hz 1 _ rfl
                  have k2 := cellRow hz 2 _ rfl
                  clear hz
                  go_wp2_with fail
                  go_ret
                  exact ⟨by simp, HE0.out.ext HE.out⟩

end Go.Proofs.YtlbnilhbfiidmaaDoor
