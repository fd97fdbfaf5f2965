/- WorkloadMeasures. -/
import Derived.Test.YthpekfpeoglbgaaW28
import Derived.Test.YthpekfpeoglbgaaW29
import Derived.Test.YthpekfpeoglbgaaW32
namespace Go.Proofs.Ythpekfpeoglbgaa
open Go.RowKit Go.Hw
set_option linter.unusedVariables false
set_option linter.unusedSimpArgs false

set_option maxRecDepth 100000 in
set_option maxHeartbeats 1000000 in
theorem meas_a (S : Nat → Prop) (kind : Int) (v : Value) (l : List OpV) (w : World) (h : OpsR S w v l) (hlm : l.length ≤ maxLen) (hf : fewB (opsL l) 60 = false) : Calls Try.prog 6 #[.int .i64 kind, v] w fun e w' => e = .returned (.bool true) ∧ Ext w w' := by
  obtain ⟨a, cap, hv⟩ := h.shape
  subst hv
  have HN := Lib.hid h
  have HAW := Lib.hid (fun W : World => awake_any W)
  have HFW : Hid (∀ W, Ext w W → Calls Try.prog 18 #[.slice a l.length cap, .int .i64 60] W fun e w' => e = .returned (.bool (fewB (opsL l) 60)) ∧ Ext W w') := fun W hW => few_any 60 _ l W S (HN.out.kept hW (fun _ _ h => h)) (by decide) hlm
  clear h
  rw [hf] at HFW
  clear hf
  generalize l.length = n at *
  go_enter Try.func6, Try.ntmps6
  go_wp2_with fail
  refine (HAW.out _).mono ?_
  rintro e w2 ⟨rfl, h2⟩
  have HE2 := Lib.hid h2
  clear h2
  go_wp2_with fail
  refine (HFW.out _ HE2.out).mono ?_
  rintro e w3 ⟨rfl, h3⟩
  have HE3 := Lib.hid (HE2.out.ext h3)
  clear h3
  go_wp2_with fail
  refine (HAW.out _).mono ?_
  rintro e w9 ⟨rfl, h9⟩
  have HE9 := Lib.hid (HE3.out.ext h9)
  clear h9
  go_wp2_with fail
  go_ret
  exact ⟨rfl, HE9.out⟩

set_option maxRecDepth 100000 in
set_option maxHeartbeats 1000000 in
theorem meas_b (S : Nat → Prop) (kind : Int) (v : Value) (l : List OpV) (w : World) (h : OpsR S w v l) (hlm : l.length ≤ maxLen) (hf : fewB (opsL l) 60 = true) (hval : validL kind (opsL l) = false) : Calls Try.prog 6 #[.int .i64 kind, v] w fun e w' => e = .returned (.bool true) ∧ Ext w w' := by
  obtain ⟨a, cap, hv⟩ := h.shape
  subst hv
  have HN := Lib.hid h
  have HAW := Lib.hid (fun W : World => awake_any W)
  have HFW : Hid (∀ W, Ext w W → Calls Try.prog 18 #[.slice a l.length cap, .int .i64 60] W fun e w' => e = .returned (.bool (fewB (opsL l) 60)) ∧ Ext W w') := fun W hW => few_any 60 _ l W S (HN.out.kept hW (fun _ _ h => h)) (by decide) hlm
  clear h
  have HA : Hid (∀ o ∈ l, o.op.args.length ≤ 100000000) := fewB_args hf
  have HRV : Hid (∀ W, Ext w W → Calls Try.prog 20 #[.int .i64 kind, .slice a l.length cap] W fun e w' => e = .returned (.bool (validL kind (opsL l))) ∧ Ext W w') := fun W hW => rvalid_any kind _ l W S (HN.out.kept hW (fun _ _ h => h)) (by have := fewB_len hf; omega) HA.out
  have hl8 : l.length ≤ 100000000 := by have := fewB_len hf; omega
  have HM : Hid (∀ W, Ext w W → Calls Try.prog 24 #[.int .i64 kind, .slice a l.length cap] W fun e w' => e = .returned (.tuple #[.agg #[.int .i64 0, .slice none 0 0, .int .i64 0, .int .i64 0], .int .i64 1]) ∧ Ext W w') := fun W hW => meas_bad1 S kind _ l W (HN.out.kept hW (fun _ _ h => h)) hl8 HA.out hval
  rw [hf] at HFW
  rw [hval] at HRV
  clear hf hval hl8 hlm
  generalize l.length = n at *
  go_enter Try.func6, Try.ntmps6
  go_wp2_with fail
  refine (HAW.out _).mono ?_
  rintro e w2 ⟨rfl, h2⟩
  have HE2 := Lib.hid h2
  clear h2
  go_wp2_with fail
  refine (HFW.out _ HE2.out).mono ?_
  rintro e w3 ⟨rfl, h3⟩
  have HE3 := Lib.hid (HE2.out.ext h3)
  clear h3
  go_wp2_with fail
  refine (HM.out _ HE3.out).mono ?_
  rintro e w4 ⟨rfl, h4⟩
  have HE4 := Lib.hid (HE3.out.ext h4)
  clear h4
  have hb := alloc0 w4 (.cells #[.int .i64 0, .slice none 0 0, .int .i64 0, .int .i64 0] 24)
  have c0 := cellRow hb 0 _ rfl
  have c1 := cellRow hb 1 _ rfl
  have c2 := cellRow hb 2 _ rfl
  have c3 := cellRow hb 3 _ rfl
  have f0 := frozenRow hb 0
  have f1 := frozenRow hb 1
  have f2 := frozenRow hb 2
  have f3 := frozenRow hb 3
  have HE5 := Lib.hid (HE4.out.alloc (.cells #[.int .i64 0, .slice none 0 0, .int .i64 0, .int .i64 0] 24))
  clear hb
  go_wp2_with fail
  refine (HRV.out _ HE5.out).mono ?_
  rintro e w6 ⟨rfl, h6⟩
  have HE6 := Lib.hid (HE5.out.ext h6)
  clear h6 c0 c1 c2 c3 f0 f1 f2 f3
  go_wp2_with fail
  go_ret
  exact ⟨rfl, HE6.out⟩

set_option maxRecDepth 100000 in
set_option maxHeartbeats 1000000 in
theorem meas_c (S : Nat → Prop) (kind : Int) (v : Value) (l : List OpV) (w : World) (h : OpsR S w v l) (hlm : l.length ≤ maxLen) (hf : fewB (opsL l) 60 = true) (hval : validL kind (opsL l) = true) (hn : l.length = 0) : Calls Try.prog 6 #[.int .i64 kind, v] w fun e w' => e = .returned (.bool true) ∧ Ext w w' := by
  obtain ⟨a, cap, hv⟩ := h.shape
  subst hv
  have HN := Lib.hid h
  have HAW := Lib.hid (fun W : World => awake_any W)
  have HFW : Hid (∀ W, Ext w W → Calls Try.prog 18 #[.slice a l.length cap, .int .i64 60] W fun e w' => e = .returned (.bool (fewB (opsL l) 60)) ∧ Ext W w') := fun W hW => few_any 60 _ l W S (HN.out.kept hW (fun _ _ h => h)) (by decide) hlm
  clear h
  have HA : Hid (∀ o ∈ l, o.op.args.length ≤ 100000000) := fewB_args hf
  have HRV : Hid (∀ W, Ext w W → Calls Try.prog 20 #[.int .i64 kind, .slice a l.length cap] W fun e w' => e = .returned (.bool (validL kind (opsL l))) ∧ Ext W w') := fun W hW => rvalid_any kind _ l W S (HN.out.kept hW (fun _ _ h => h)) (by have := fewB_len hf; omega) HA.out
  have hl8 : l.length ≤ 100000000 := by have := fewB_len hf; omega
  have HM : Hid (∀ W, Ext w W → Calls Try.prog 24 #[.int .i64 kind, .slice a l.length cap] W fun e w' => e = .returned (.tuple #[.agg #[.int .i64 0, .slice none 0 0, .int .i64 0, .int .i64 0], .int .i64 12]) ∧ Ext W w') := fun W hW => meas_bad2 S kind _ l W (HN.out.kept hW (fun _ _ h => h)) hl8 HA.out hval hn
  rw [hf] at HFW
  rw [hval] at HRV
  have t0 : ((l.length : Int) == 0) = true := by simp [hn]
  clear hf hval hl8 hlm hn
  generalize l.length = n at *
  go_enter Try.func6, Try.ntmps6
  go_wp2_with fail
  refine (HAW.out _).mono ?_
  rintro e w2 ⟨rfl, h2⟩
  have HE2 := Lib.hid h2
  clear h2
  go_wp2_with fail
  refine (HFW.out _ HE2.out).mono ?_
  rintro e w3 ⟨rfl, h3⟩
  have HE3 := Lib.hid (HE2.out.ext h3)
  clear h3
  go_wp2_with fail
  refine (HM.out _ HE3.out).mono ?_
  rintro e w4 ⟨rfl, h4⟩
  have HE4 := Lib.hid (HE3.out.ext h4)
  clear h4
  have hb := alloc0 w4 (.cells #[.int .i64 0, .slice none 0 0, .int .i64 0, .int .i64 0] 24)
  have c0 := cellRow hb 0 _ rfl
  have c1 := cellRow hb 1 _ rfl
  have c2 := cellRow hb 2 _ rfl
  have c3 := cellRow hb 3 _ rfl
  have f0 := frozenRow hb 0
  have f1 := frozenRow hb 1
  have f2 := frozenRow hb 2
  have f3 := frozenRow hb 3
  have HE5 := Lib.hid (HE4.out.alloc (.cells #[.int .i64 0, .slice none 0 0, .int .i64 0, .int .i64 0] 24))
  clear hb
  go_wp2_with fail
  refine (HRV.out _ HE5.out).mono ?_
  rintro e w6 ⟨rfl, h6⟩
  have HE6 := Lib.hid (HE5.out.ext h6)
  clear h6 c0 c1 c2 c3 f0 f1 f2 f3
  go_wp2_with fail
  go_ret
  exact ⟨rfl, HE6.out⟩

set_option maxRecDepth 100000 in
set_option maxHeartbeats 4000000 in
theorem meas_d (S : Nat → Prop) (kind : Int) (v : Value) (l : List OpV) (w : World) (h : OpsR S w v l) (hlm : l.length ≤ maxLen) (hf : fewB (opsL l) 60 = true) (hval : validL kind (opsL l) = true) (hn : 0 < l.length) : Calls Try.prog 6 #[.int .i64 kind, v] w fun e w' => e = .returned (.bool true) ∧ Ext w w' := by
  obtain ⟨a, cap, hv⟩ := h.shape
  subst hv
  have HN := Lib.hid h
  have HAW := Lib.hid (fun W : World => awake_any W)
  have HFW : Hid (∀ W, Ext w W → Calls Try.prog 18 #[.slice a l.length cap, .int .i64 60] W fun e w' => e = .returned (.bool (fewB (opsL l) 60)) ∧ Ext W w') := fun W hW => few_any 60 _ l W S (HN.out.kept hW (fun _ _ h => h)) (by decide) hlm
  clear h
  have HA : Hid (∀ o ∈ l, o.op.args.length ≤ 100000000) := fewB_args hf
  have HRV : Hid (∀ W, Ext w W → Calls Try.prog 20 #[.int .i64 kind, .slice a l.length cap] W fun e w' => e = .returned (.bool (validL kind (opsL l))) ∧ Ext W w') := fun W hW => rvalid_any kind _ l W S (HN.out.kept hW (fun _ _ h => h)) (by have := fewB_len hf; omega) HA.out
  have hl8 : l.length ≤ 100000000 := by have := fewB_len hf; omega
  have HM : Hid (∀ W, Ext w W → Calls Try.prog 24 #[.int .i64 kind, .slice a l.length cap] W fun e w' => ∃ wv, e = .returned (.tuple #[.agg #[.int .i64 kind, wv, .int .i64 (minL (argsL (opsL l))), .int .i64 (maxL (argsL (opsL l)))], .int .i64 0]) ∧ NumR (fun k => k < w'.heap.size) w' wv (mWs kind (opsL l)) ∧ Ext W w') := fun W hW => meas_ok S kind _ l W (HN.out.kept hW (fun _ _ h => h)) hl8 HA.out hval hn
  have HRM : Hid (∀ W, Ext w W → Calls Try.prog 25 #[.int .i64 kind, .slice a l.length cap] W fun e w' => ∃ wv, e = .returned (.agg #[.int .i64 kind, wv, .int .i64 (minL (argsL (opsL l))), .int .i64 (maxL (argsL (opsL l)))]) ∧ NumR (fun k => k < w'.heap.size) w' wv (mWs kind (opsL l)) ∧ Ext W w') := fun W hW => rmeas_any S kind _ l W (HN.out.kept hW (fun _ _ h => h)) hval hn
  rw [hf] at HFW
  rw [hval] at HRV
  have hk := ((validL_iff kind (opsL l)).1 hval).1
  have tk : (kind == 0) = false := beq_eq_false_iff_ne.2 (by omega)
  have t0 : ((l.length : Int) == 0) = false := beq_eq_false_iff_ne.2 (by omega)
  have hwl : (mWs kind (opsL l)).length ≤ 100000000 := by
    have := nW_le kind
    unfold mWs
    rw [List.length_map, List.length_range]; omega
  clear hf hval hl8 hlm hn hk
  generalize l.length = n at *
  generalize minL (argsL (opsL l)) = MN at *
  generalize maxL (argsL (opsL l)) = MX at *
  generalize mWs kind (opsL l) = WS at *
  go_enter Try.func6, Try.ntmps6
  go_wp2_with fail
  refine (HAW.out _).mono ?_
  rintro e w2 ⟨rfl, h2⟩
  have HE2 := Lib.hid h2
  clear h2
  go_wp2_with fail
  refine (HFW.out _ HE2.out).mono ?_
  rintro e w3 ⟨rfl, h3⟩
  have HE3 := Lib.hid (HE2.out.ext h3)
  clear h3
  go_wp2_with fail
  refine (HM.out _ HE3.out).mono ?_
  rintro e w4 ⟨wv, rfl, hN4, h4⟩
  have HE4 := Lib.hid (HE3.out.ext h4)
  obtain ⟨wa, wc, hwv⟩ := hN4.shape
  subst hwv
  have HN4 := Lib.hid hN4
  clear h4 hN4
  have hb0 := alloc0 w4 (.cells #[.int .i64 0, .slice none 0 0, .int .i64 0, .int .i64 0] 24)
  have o0 := cellRow hb0 0 _ rfl
  have o1 := cellRow hb0 1 _ rfl
  have o2 := cellRow hb0 2 _ rfl
  have o3 := cellRow hb0 3 _ rfl
  have f0 := frozenRow hb0 0
  have f1 := frozenRow hb0 1
  have f2 := frozenRow hb0 2
  have f3 := frozenRow hb0 3
  have hb := alloc0 w4 (.cells #[.int .i64 kind, .slice wa WS.length wc, .int .i64 MN, .int .i64 MX] 24)
  have c0 := cellRow hb 0 _ rfl
  have c1 := cellRow hb 1 _ rfl
  have c2 := cellRow hb 2 _ rfl
  have c3 := cellRow hb 3 _ rfl
  have HB := Lib.hid hb
  have hx5 : Ext w4 (w4.alloc (.cells #[.int .i64 kind, .slice wa WS.length wc, .int .i64 MN, .int .i64 MX] 24)) := (Upd.refl _ w4).alloc _
  have HX5 := Lib.hid hx5
  clear hb hb0 hx5
  go_wp2_with fail
  refine (HRV.out _ (HE4.out.ext HX5.out)).mono ?_
  rintro e w6 ⟨rfl, h6⟩
  have HX6 := Lib.hid (HX5.out.ext h6)
  have HB6 := Lib.hid (h6.heap HB.out (fun h => h))
  clear h6 o0 o1 o2 o3 f0 f1 f2 f3 c0 c1 c2 c3 HX5 HB
  go_wp2_with fail
  refine (HRM.out _ (HE4.out.ext HX6.out)).mono ?_
  rintro e w7 ⟨wv2, rfl, hN7, h7⟩
  have HX7 := Lib.hid (HX6.out.ext h7)
  have HB7 := Lib.hid (h7.heap HB6.out (fun h => h))
  obtain ⟨wa2, wc2, hwv⟩ := hN7.shape
  subst hwv
  have HN7 := Lib.hid hN7
  clear h7 hN7 HX6 HB6
  have hb0 := alloc0 w7 (.cells #[.int .i64 0, .slice none 0 0, .int .i64 0, .int .i64 0] 24)
  have o0 := cellRow hb0 0 _ rfl
  have o1 := cellRow hb0 1 _ rfl
  have o2 := cellRow hb0 2 _ rfl
  have o3 := cellRow hb0 3 _ rfl
  have f0 := frozenRow hb0 0
  have f1 := frozenRow hb0 1
  have f2 := frozenRow hb0 2
  have f3 := frozenRow hb0 3
  have hx8 : Ext w7 (w7.alloc (.cells #[.int .i64 kind, .slice wa2 WS.length wc2, .int .i64 MN, .int .i64 MX] 24)) := (Upd.refl _ w7).alloc _
  have hb8 := alloc0 w7 (.cells #[.int .i64 kind, .slice wa2 WS.length wc2, .int .i64 MN, .int .i64 MX] 24)
  have hp8 := hx8.heap HB7.out (fun h => h)
  have c0 := cellRow hb8 0 _ rfl
  have c1 := cellRow hb8 1 _ rfl
  have c2 := cellRow hb8 2 _ rfl
  have c3 := cellRow hb8 3 _ rfl
  have d0 := cellRow hp8 0 _ rfl
  have d1 := cellRow hp8 1 _ rfl
  have d2 := cellRow hp8 2 _ rfl
  have d3 := cellRow hp8 3 _ rfl
  have HEQ : Hid (Calls Try.prog 21 #[.slice wa WS.length wc, .slice wa2 WS.length wc2] (w7.alloc (.cells #[.int .i64 kind, .slice wa2 WS.length wc2, .int .i64 MN, .int .i64 MX] 24)) fun e w' => e = .returned (.bool true) ∧ Ext (w7.alloc (.cells #[.int .i64 kind, .slice wa2 WS.length wc2, .int .i64 MN, .int .i64 MX] 24)) w') := by
    have := sequal_any _ _ _ _ WS WS _ (HN4.out.kept (HX7.out.ext hx8) (fun _ _ h => h)) (HN7.out.kept hx8 (fun _ _ h => h)) hwl hwl
    refine this.mono ?_
    rintro e w' ⟨rfl, n, rfl⟩
    exact ⟨by simp, (Upd.refl _ _).drewN' _⟩
  have HP8 := Lib.hid hp8
  have HB8 := Lib.hid hb8
  have HX8 := Lib.hid (HX7.out.ext hx8)
  have tk1 : (kind == kind) = true := by simp
  have tk2 : (MN == MN) = true := by simp
  have tk3 : (MX == MX) = true := by simp
  clear hb0 hx8 hb8 hp8 HX7 HB7
  go_wp2_with fail
  refine HEQ.out.mono ?_
  rintro e w9 ⟨rfl, h9⟩
  have hb9 := h9.heap HB8.out (fun h => h)
  have hp9 := h9.heap HP8.out (fun h => h)
  clear o0 o1 o2 o3 f0 f1 f2 f3 c0 c1 c2 c3 d0 d1 d2 d3
  have c0 := cellRow hb9 0 _ rfl
  have c1 := cellRow hb9 1 _ rfl
  have c2 := cellRow hb9 2 _ rfl
  have c3 := cellRow hb9 3 _ rfl
  have d0 := cellRow hp9 0 _ rfl
  have d1 := cellRow hp9 1 _ rfl
  have d2 := cellRow hp9 2 _ rfl
  have d3 := cellRow hp9 3 _ rfl
  have HE9 := Lib.hid (HE4.out.ext (HX8.out.ext h9))
  clear hb9 hp9 h9
  go_wp2_with fail
  go_ret
  exact ⟨rfl, HE9.out⟩
theorem measures_law (S : Nat → Prop) (kind : Int) (v : Value) (l : List OpV) (w : World) (h : OpsR S w v l) (hlm : l.length ≤ maxLen) : Calls Try.prog 6 #[.int .i64 kind, v] w fun e w' => e = .returned (.bool true) ∧ Ext w w' := by
  cases hf : fewB (opsL l) 60
  · exact meas_a S kind v l w h hlm hf
  · cases hval : validL kind (opsL l)
    · exact meas_b S kind v l w h hlm hf hval
    · by_cases hn : l.length = 0
      · exact meas_c S kind v l w h hlm hf hval hn
      · exact meas_d S kind v l w h hlm hf hval (by omega)

end Go.Proofs.Ythpekfpeoglbgaa
