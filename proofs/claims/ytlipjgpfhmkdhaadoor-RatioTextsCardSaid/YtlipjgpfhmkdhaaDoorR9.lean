/- Floor, Ceil, Cmp, Sub. -/
import Derived.Test.YtlipjgpfhmkdhaaDoorR8
namespace Go.Proofs.YtlipjgpfhmkdhaaDoor
open Go.RowKit Go.Hw
set_option linter.unusedVariables false
set_option linter.unusedSimpArgs false

set_option maxRecDepth 100000 in
set_option maxHeartbeats 1000000 in
theorem floor_bad (a b : Int) (w : World) (ha0 : -9223372036854775808 ≤ a) (ha1 : a ≤ 9223372036854775807) (hb0 : -9223372036854775808 ≤ b) (hb1 : b ≤ 9223372036854775807) (hv : vfB a b = false) : Calls Tryd.prog 17 #[.agg #[.int .i64 a, .int .i64 b]] w fun e w' => e = .returned (.tuple #[.int .i64 0, .int .i64 1]) ∧ Ext w w' := by
  have C1 : Hid (∀ W, Calls Tryd.prog 15 #[.agg #[.int .i64 a, .int .i64 b]] W fun e w' => e = .returned (.bool false) ∧ Ext W w') := fun W => by have := valid_x a b W ha0 ha1 hb0 hb1; rw [hv] at this; exact this
  have HE0 : Hid (Ext w (w.alloc (.cells #[.int .i64 a, .int .i64 b] 24))) := (Upd.refl _ w).alloc _
  have hbA := alloc0 w (.cells #[.int .i64 a, .int .i64 b] 24)
  have HX : Hid (∀ W, Ext (w.alloc (.cells #[.int .i64 a, .int .i64 b] 24)) W → W.heap[w.heap.size]? = some (.cells #[.int .i64 a, .int .i64 b] 24)) := fun W hW => hW.heap hbA (fun h => h)
  have hz := HX.out _ (Upd.refl _ _)
  have k0 := cellRow hz 0 _ rfl
  have k1 := cellRow hz 1 _ rfl
  have m0 := frozenRow hz 0
  have m1 := frozenRow hz 1
  clear hbA hz
  clear hv
  go_enter Tryd.func17, Tryd.ntmps17
  go_wp2_with fail
  refine (C1.out _).mono ?_
  rintro e w4 ⟨rfl, hw4⟩
  have H4 := Lib.hid (hw4)
  clear hw4 k0 k1 m0 m1
  have hz := HX.out _ H4.out
  have k0 := cellRow hz 0 _ rfl
  have k1 := cellRow hz 1 _ rfl
  have m0 := frozenRow hz 0
  have m1 := frozenRow hz 1
  clear hz
  go_wp2_with fail
  go_ret2
  exact ⟨rfl, HE0.out.ext H4.out⟩
set_option maxRecDepth 100000 in
set_option maxHeartbeats 1000000 in
theorem floor_ok (a b : Int) (w : World) (ha0 : -9223372036854775808 ≤ a) (ha1 : a ≤ 9223372036854775807) (hb0 : -9223372036854775808 ≤ b) (hb1 : b ≤ 9223372036854775807) (hv : vfB a b = true) : Calls Tryd.prog 17 #[.agg #[.int .i64 a, .int .i64 b]] w fun e w' => e = .returned (.tuple #[.int .i64 (a / b), .int .i64 0]) ∧ Ext w w' := by
  have C1 : Hid (∀ W, Calls Tryd.prog 15 #[.agg #[.int .i64 a, .int .i64 b]] W fun e w' => e = .returned (.bool true) ∧ Ext W w') := fun W => by have := valid_x a b W ha0 ha1 hb0 hb1; rw [hv] at this; exact this
  obtain ⟨va, vb, _⟩ := vf_bd hv
  obtain ⟨f1, f2, f3, f4⟩ := floor_t a b (by omega)
  have f5 := tdiv_bd a b (by omega) va
  have n0 : ¬ (b = 0) := by omega
  have n1 : (b == 0) = false := beq_eq_false_iff_ne.2 n0
  have HE0 : Hid (Ext w (w.alloc (.cells #[.int .i64 a, .int .i64 b] 24))) := (Upd.refl _ w).alloc _
  have hbA := alloc0 w (.cells #[.int .i64 a, .int .i64 b] 24)
  have HX : Hid (∀ W, Ext (w.alloc (.cells #[.int .i64 a, .int .i64 b] 24)) W → W.heap[w.heap.size]? = some (.cells #[.int .i64 a, .int .i64 b] 24)) := fun W hW => hW.heap hbA (fun h => h)
  have hz := HX.out _ (Upd.refl _ _)
  have k0 := cellRow hz 0 _ rfl
  have k1 := cellRow hz 1 _ rfl
  have m0 := frozenRow hz 0
  have m1 := frozenRow hz 1
  clear hbA hz
  clear hv
  obtain ⟨q, hq⟩ : ∃ q, a / b = q := ⟨_, rfl⟩
  obtain ⟨Q, hQ⟩ : ∃ Q, Int.tdiv a b = Q := ⟨_, rfl⟩
  obtain ⟨R, hR⟩ : ∃ R, Int.tmod a b = R := ⟨_, rfl⟩
  rw [hq, hQ, hR] at f1
  rw [hq, hQ, hR] at f2
  rw [hR] at f3 f4
  rw [hQ] at f5
  rw [hq]
  clear hq
  by_cases hr : R < 0
  · have t1 : decide (R < 0) = true := decide_eq_true hr
    obtain rfl := f1 hr
    clear f1 f2 hr
    go_enter Tryd.func17, Tryd.ntmps17
    go_wp2_with fail
    refine (C1.out _).mono ?_
    rintro e w4 ⟨rfl, hw4⟩
    have H4 := Lib.hid (hw4)
    clear hw4 k0 k1 m0 m1
    have hz := HX.out _ H4.out
    have k0 := cellRow hz 0 _ rfl
    have k1 := cellRow hz 1 _ rfl
    have m0 := frozenRow hz 0
    have m1 := frozenRow hz 1
    clear hz
    go_wp2_with fail
    go_ret2
    exact ⟨rfl, HE0.out.ext H4.out⟩
  · have t1 : decide (R < 0) = false := decide_eq_false hr
    obtain rfl := f2 (by omega)
    clear f1 f2 hr
    go_enter Tryd.func17, Tryd.ntmps17
    go_wp2_with fail
    refine (C1.out _).mono ?_
    rintro e w4 ⟨rfl, hw4⟩
    have H4 := Lib.hid (hw4)
    clear hw4 k0 k1 m0 m1
    have hz := HX.out _ H4.out
    have k0 := cellRow hz 0 _ rfl
    have k1 := cellRow hz 1 _ rfl
    have m0 := frozenRow hz 0
    have m1 := frozenRow hz 1
    clear hz
    go_wp2_with fail
    go_ret2
    exact ⟨rfl, HE0.out.ext H4.out⟩
set_option maxRecDepth 100000 in
set_option maxHeartbeats 1000000 in
theorem rfloor_ok (a b : Int) (w : World) (hv : vfB a b = true) : Calls Tryd.prog 35 #[.agg #[.int .i64 a, .int .i64 b]] w fun e w' => e = .returned (.int .i64 (a / b)) ∧ Ext w w' := by
  obtain ⟨va, vb, _⟩ := vf_bd hv
  obtain ⟨f1, f2, f3, f4⟩ := floor_t a b (by omega)
  have f5 := tdiv_bd a b (by omega) va
  have n0 : ¬ (b = 0) := by omega
  have n1 : (b == 0) = false := beq_eq_false_iff_ne.2 n0
  have HE0 : Hid (Ext w (w.alloc (.cells #[.int .i64 a, .int .i64 b] 24))) := (Upd.refl _ w).alloc _
  have hbA := alloc0 w (.cells #[.int .i64 a, .int .i64 b] 24)
  have HX : Hid (∀ W, Ext (w.alloc (.cells #[.int .i64 a, .int .i64 b] 24)) W → W.heap[w.heap.size]? = some (.cells #[.int .i64 a, .int .i64 b] 24)) := fun W hW => hW.heap hbA (fun h => h)
  have hz := HX.out _ (Upd.refl _ _)
  have k0 := cellRow hz 0 _ rfl
  have k1 := cellRow hz 1 _ rfl
  have m0 := frozenRow hz 0
  have m1 := frozenRow hz 1
  clear hbA hz
  clear hv
  obtain ⟨q, hq⟩ : ∃ q, a / b = q := ⟨_, rfl⟩
  obtain ⟨Q, hQ⟩ : ∃ Q, Int.tdiv a b = Q := ⟨_, rfl⟩
  obtain ⟨R, hR⟩ : ∃ R, Int.tmod a b = R := ⟨_, rfl⟩
  rw [hq, hQ, hR] at f1
  rw [hq, hQ, hR] at f2
  rw [hR] at f3 f4
  rw [hQ] at f5
  rw [hq]
  clear hq
  by_cases hr : R < 0
  · have t1 : decide (R < 0) = true := decide_eq_true hr
    obtain rfl := f1 hr
    clear f1 f2 hr
    go_enter Tryd.func35, Tryd.ntmps35
    go_wp2_with fail
    go_ret
    exact ⟨rfl, HE0.out⟩
  · have t1 : decide (R < 0) = false := decide_eq_false hr
    obtain rfl := f2 (by omega)
    clear f1 f2 hr
    go_enter Tryd.func35, Tryd.ntmps35
    go_wp2_with fail
    go_ret
    exact ⟨rfl, HE0.out⟩
set_option maxRecDepth 100000 in
set_option maxHeartbeats 1000000 in
theorem ceil_bad (a b : Int) (w : World) (ha0 : -9223372036854775808 ≤ a) (ha1 : a ≤ 9223372036854775807) (hb0 : -9223372036854775808 ≤ b) (hb1 : b ≤ 9223372036854775807) (hv : vfB a b = false) : Calls Tryd.prog 18 #[.agg #[.int .i64 a, .int .i64 b]] w fun e w' => e = .returned (.tuple #[.int .i64 0, .int .i64 1]) ∧ Ext w w' := by
  have C1 : Hid (∀ W, Calls Tryd.prog 15 #[.agg #[.int .i64 a, .int .i64 b]] W fun e w' => e = .returned (.bool false) ∧ Ext W w') := fun W => by have := valid_x a b W ha0 ha1 hb0 hb1; rw [hv] at this; exact this
  have HE0 : Hid (Ext w (w.alloc (.cells #[.int .i64 a, .int .i64 b] 24))) := (Upd.refl _ w).alloc _
  have hbA := alloc0 w (.cells #[.int .i64 a, .int .i64 b] 24)
  have HX : Hid (∀ W, Ext (w.alloc (.cells #[.int .i64 a, .int .i64 b] 24)) W → W.heap[w.heap.size]? = some (.cells #[.int .i64 a, .int .i64 b] 24)) := fun W hW => hW.heap hbA (fun h => h)
  have hz := HX.out _ (Upd.refl _ _)
  have k0 := cellRow hz 0 _ rfl
  have k1 := cellRow hz 1 _ rfl
  have m0 := frozenRow hz 0
  have m1 := frozenRow hz 1
  clear hbA hz
  clear hv
  go_enter Tryd.func18, Tryd.ntmps18
  go_wp2_with fail
  refine (C1.out _).mono ?_
  rintro e w4 ⟨rfl, hw4⟩
  have H4 := Lib.hid (hw4)
  clear hw4 k0 k1 m0 m1
  have hz := HX.out _ H4.out
  have k0 := cellRow hz 0 _ rfl
  have k1 := cellRow hz 1 _ rfl
  have m0 := frozenRow hz 0
  have m1 := frozenRow hz 1
  clear hz
  go_wp2_with fail
  go_ret2
  exact ⟨rfl, HE0.out.ext H4.out⟩
set_option maxRecDepth 100000 in
set_option maxHeartbeats 1000000 in
theorem ceil_ok (a b : Int) (w : World) (ha0 : -9223372036854775808 ≤ a) (ha1 : a ≤ 9223372036854775807) (hb0 : -9223372036854775808 ≤ b) (hb1 : b ≤ 9223372036854775807) (hv : vfB a b = true) : Calls Tryd.prog 18 #[.agg #[.int .i64 a, .int .i64 b]] w fun e w' => e = .returned (.tuple #[.int .i64 (-((-a) / b)), .int .i64 0]) ∧ Ext w w' := by
  have C1 : Hid (∀ W, Calls Tryd.prog 15 #[.agg #[.int .i64 a, .int .i64 b]] W fun e w' => e = .returned (.bool true) ∧ Ext W w') := fun W => by have := valid_x a b W ha0 ha1 hb0 hb1; rw [hv] at this; exact this
  obtain ⟨va, vb, _⟩ := vf_bd hv
  have CF := Lib.hid (fun W : World => floor_ok (-a) b W (by omega) (by omega) (by omega) (by omega) (vf_neg hv))
  have hfb : -1073741824 ≤ (-a) / b ∧ (-a) / b ≤ 1073741824 := by
    obtain ⟨f1, f2, f3, f4⟩ := floor_t (-a) b (by omega)
    have f5 := tdiv_bd (-a) b (by omega) (by omega)
    by_cases hr : Int.tmod (-a) b < 0
    · have h1 := f1 hr
      have h6 := Int.ediv_mul_le (-a) (show b ≠ 0 by omega)
      have h7 : (-1073741824) * b ≤ -a := by
        have : (1 : Int) * 1073741824 ≤ b * 1073741824 := Int.mul_le_mul_of_nonneg_right (by omega) (by omega)
        omega
      have h8 := Int.le_ediv_of_mul_le (show 0 < b by omega) h7
      omega
    · have h1 := f2 (by omega)
      omega
  have HE0 : Hid (Ext w (w.alloc (.cells #[.int .i64 a, .int .i64 b] 24))) := (Upd.refl _ w).alloc _
  have hbA := alloc0 w (.cells #[.int .i64 a, .int .i64 b] 24)
  have HX : Hid (∀ W, Ext (w.alloc (.cells #[.int .i64 a, .int .i64 b] 24)) W → W.heap[w.heap.size]? = some (.cells #[.int .i64 a, .int .i64 b] 24)) := fun W hW => hW.heap hbA (fun h => h)
  have hz := HX.out _ (Upd.refl _ _)
  have k0 := cellRow hz 0 _ rfl
  have k1 := cellRow hz 1 _ rfl
  have m0 := frozenRow hz 0
  have m1 := frozenRow hz 1
  clear hbA hz
  clear hv
  generalize (-a) / b = Q at *
  go_enter Tryd.func18, Tryd.ntmps18
  go_wp2_with fail
  refine (C1.out _).mono ?_
  rintro e w4 ⟨rfl, hw4⟩
  have H4 := Lib.hid (hw4)
  clear hw4 k0 k1 m0 m1
  have hz := HX.out _ H4.out
  have k0 := cellRow hz 0 _ rfl
  have k1 := cellRow hz 1 _ rfl
  have m0 := frozenRow hz 0
  have m1 := frozenRow hz 1
  clear hz
  go_wp2_with fail
  refine (CF.out _).mono ?_
  rintro e w5 ⟨rfl, h5⟩
  have H5 := Lib.hid ((((HE0.out.ext H4.out).setNew (g := w.heap.size) (j := 0) (Nat.le_refl _) (.int .i64 (-a)))).ext h5)
  clear h5 k0 k1 m0 m1
  go_wp2_with fail
  go_ret2
  exact ⟨rfl, H5.out⟩
set_option maxRecDepth 100000 in
set_option maxHeartbeats 1000000 in
theorem rceil_ok (a b : Int) (w : World) (hv : vfB a b = true) : Calls Tryd.prog 36 #[.agg #[.int .i64 a, .int .i64 b]] w fun e w' => e = .returned (.int .i64 (-((-a) / b))) ∧ Ext w w' := by
  obtain ⟨va, vb, _⟩ := vf_bd hv
  have CN := Lib.hid (fun W : World => neg_x a b W va)
  have CF := Lib.hid (fun W : World => rfloor_ok (-a) b W (vf_neg hv))
  have hfb : -1073741824 ≤ (-a) / b ∧ (-a) / b ≤ 1073741824 := by
    have h7 : (-1073741824) * b ≤ -a := by
      have : (1 : Int) * 1073741824 ≤ b * 1073741824 := Int.mul_le_mul_of_nonneg_right (by omega) (by omega)
      omega
    have h8 := Int.le_ediv_of_mul_le (show 0 < b by omega) h7
    have h9 : -a ≤ 1073741824 * b := by
      have : (1 : Int) * 1073741824 ≤ b * 1073741824 := Int.mul_le_mul_of_nonneg_right (by omega) (by omega)
      omega
    have h10 := Int.ediv_le_of_le_mul (show 0 < b by omega) h9
    omega
  have HE0 : Hid (Ext w (w.alloc (.cells #[.int .i64 a, .int .i64 b] 24))) := (Upd.refl _ w).alloc _
  have hbA := alloc0 w (.cells #[.int .i64 a, .int .i64 b] 24)
  have HX : Hid (∀ W, Ext (w.alloc (.cells #[.int .i64 a, .int .i64 b] 24)) W → W.heap[w.heap.size]? = some (.cells #[.int .i64 a, .int .i64 b] 24)) := fun W hW => hW.heap hbA (fun h => h)
  have hz := HX.out _ (Upd.refl _ _)
  have k0 := cellRow hz 0 _ rfl
  have k1 := cellRow hz 1 _ rfl
  have m0 := frozenRow hz 0
  have m1 := frozenRow hz 1
  clear hbA hz
  clear hv
  generalize (-a) / b = Q at *
  go_enter Tryd.func36, Tryd.ntmps36
  go_wp2_with fail
  refine (CN.out _).mono ?_
  rintro e w4 ⟨rfl, h4⟩
  have H4 := Lib.hid (HE0.out.ext h4)
  clear h4 k0 k1 m0 m1
  go_wp2_with fail
  refine (CF.out _).mono ?_
  rintro e w5 ⟨rfl, h5⟩
  have H5 := Lib.hid (H4.out.ext h5)
  clear h5
  have e1 : (0 : Int) - Q = -Q := by omega
  go_wp2_with fail
  go_ret
  exact ⟨by first | rfl | simp, H5.out⟩

set_option maxRecDepth 100000 in
set_option maxHeartbeats 1000000 in
theorem cmp_bad1 (a b c d : Int) (w : World) (ha0 : -9223372036854775808 ≤ a) (ha1 : a ≤ 9223372036854775807) (hb0 : -9223372036854775808 ≤ b) (hb1 : b ≤ 9223372036854775807) (hc0 : -9223372036854775808 ≤ c) (hc1 : c ≤ 9223372036854775807) (hd0 : -9223372036854775808 ≤ d) (hd1 : d ≤ 9223372036854775807) (h1 : vfB a b = false) : Calls Tryd.prog 34 #[.agg #[.int .i64 a, .int .i64 b], .agg #[.int .i64 c, .int .i64 d]] w fun e w' => e = .returned (.tuple #[.int .i64 0, .int .i64 1]) ∧ Ext w w' := by
  have C1 : Hid (∀ W, Calls Tryd.prog 15 #[.agg #[.int .i64 a, .int .i64 b]] W fun e w' => e = .returned (.bool false) ∧ Ext W w') := fun W => by have := valid_x a b W ha0 ha1 hb0 hb1; rw [h1] at this; exact this
  have HE0 : Hid (Ext w ((w.alloc (.cells #[.int .i64 a, .int .i64 b] 24)).alloc (.cells #[.int .i64 c, .int .i64 d] 24))) := ((Upd.refl _ w).alloc _).alloc _
  have hbA := allocOld (alloc0 w (.cells #[.int .i64 a, .int .i64 b] 24)) (.cells #[.int .i64 c, .int .i64 d] 24)
  have hbB := alloc_at (w.alloc (.cells #[.int .i64 a, .int .i64 b] 24)) (.cells #[.int .i64 c, .int .i64 d] 24) (n := w.heap.size + 1) (by simp)
  have HX : Hid (∀ W, Ext ((w.alloc (.cells #[.int .i64 a, .int .i64 b] 24)).alloc (.cells #[.int .i64 c, .int .i64 d] 24)) W → W.cell? ⟨w.heap.size, 0, none⟩ = some (.int .i64 a) ∧ W.cell? ⟨w.heap.size, 1, none⟩ = some (.int .i64 b) ∧ W.cell? ⟨w.heap.size + 1, 0, none⟩ = some (.int .i64 c) ∧ W.cell? ⟨w.heap.size + 1, 1, none⟩ = some (.int .i64 d)) := fun W hW =>
    ⟨cellRow (hW.heap hbA (fun h => h)) 0 _ rfl, cellRow (hW.heap hbA (fun h => h)) 1 _ rfl, cellRow (hW.heap hbB (fun h => h)) 0 _ rfl, cellRow (hW.heap hbB (fun h => h)) 1 _ rfl⟩
  obtain ⟨k0, k1, k2, k3⟩ := HX.out _ (Upd.refl _ _)
  clear hbA hbB
  clear h1
  go_enter Tryd.func34, Tryd.ntmps34
  go_wp2_with fail
  refine (C1.out _).mono ?_
  rintro e w4 ⟨rfl, hw4⟩
  have H4 := Lib.hid (hw4)
  clear hw4 k0 k1 k2 k3
  obtain ⟨k0, k1, k2, k3⟩ := HX.out _ H4.out
  go_wp2_with fail
  go_ret2
  exact ⟨rfl, HE0.out.ext H4.out⟩
set_option maxRecDepth 100000 in
set_option maxHeartbeats 1000000 in
theorem cmp_bad2 (a b c d : Int) (w : World) (ha0 : -9223372036854775808 ≤ a) (ha1 : a ≤ 9223372036854775807) (hb0 : -9223372036854775808 ≤ b) (hb1 : b ≤ 9223372036854775807) (hc0 : -9223372036854775808 ≤ c) (hc1 : c ≤ 9223372036854775807) (hd0 : -9223372036854775808 ≤ d) (hd1 : d ≤ 9223372036854775807) (h1 : vfB a b = true) (h2 : vfB c d = false) : Calls Tryd.prog 34 #[.agg #[.int .i64 a, .int .i64 b], .agg #[.int .i64 c, .int .i64 d]] w fun e w' => e = .returned (.tuple #[.int .i64 0, .int .i64 1]) ∧ Ext w w' := by
  have C1 : Hid (∀ W, Calls Tryd.prog 15 #[.agg #[.int .i64 a, .int .i64 b]] W fun e w' => e = .returned (.bool true) ∧ Ext W w') := fun W => by have := valid_x a b W ha0 ha1 hb0 hb1; rw [h1] at this; exact this
  have C2 : Hid (∀ W, Calls Tryd.prog 15 #[.agg #[.int .i64 c, .int .i64 d]] W fun e w' => e = .returned (.bool false) ∧ Ext W w') := fun W => by have := valid_x c d W hc0 hc1 hd0 hd1; rw [h2] at this; exact this
  have HE0 : Hid (Ext w ((w.alloc (.cells #[.int .i64 a, .int .i64 b] 24)).alloc (.cells #[.int .i64 c, .int .i64 d] 24))) := ((Upd.refl _ w).alloc _).alloc _
  have hbA := allocOld (alloc0 w (.cells #[.int .i64 a, .int .i64 b] 24)) (.cells #[.int .i64 c, .int .i64 d] 24)
  have hbB := alloc_at (w.alloc (.cells #[.int .i64 a, .int .i64 b] 24)) (.cells #[.int .i64 c, .int .i64 d] 24) (n := w.heap.size + 1) (by simp)
  have HX : Hid (∀ W, Ext ((w.alloc (.cells #[.int .i64 a, .int .i64 b] 24)).alloc (.cells #[.int .i64 c, .int .i64 d] 24)) W → W.cell? ⟨w.heap.size, 0, none⟩ = some (.int .i64 a) ∧ W.cell? ⟨w.heap.size, 1, none⟩ = some (.int .i64 b) ∧ W.cell? ⟨w.heap.size + 1, 0, none⟩ = some (.int .i64 c) ∧ W.cell? ⟨w.heap.size + 1, 1, none⟩ = some (.int .i64 d)) := fun W hW =>
    ⟨cellRow (hW.heap hbA (fun h => h)) 0 _ rfl, cellRow (hW.heap hbA (fun h => h)) 1 _ rfl, cellRow (hW.heap hbB (fun h => h)) 0 _ rfl, cellRow (hW.heap hbB (fun h => h)) 1 _ rfl⟩
  obtain ⟨k0, k1, k2, k3⟩ := HX.out _ (Upd.refl _ _)
  clear hbA hbB
  clear h1 h2
  go_enter Tryd.func34, Tryd.ntmps34
  go_wp2_with fail
  refine (C1.out _).mono ?_
  rintro e w4 ⟨rfl, hw4⟩
  have H4 := Lib.hid (hw4)
  clear hw4 k0 k1 k2 k3
  obtain ⟨k0, k1, k2, k3⟩ := HX.out _ H4.out
  go_wp2_with fail
  refine (C2.out _).mono ?_
  rintro e w5 ⟨rfl, hw5⟩
  have H5 := Lib.hid (H4.out.ext hw5)
  clear hw5 k0 k1 k2 k3
  obtain ⟨k0, k1, k2, k3⟩ := HX.out _ H5.out
  go_wp2_with fail
  go_ret2
  exact ⟨rfl, HE0.out.ext H5.out⟩
set_option maxRecDepth 100000 in
set_option maxHeartbeats 1000000 in
theorem cmp_ok (a b c d : Int) (w : World) (ha0 : -9223372036854775808 ≤ a) (ha1 : a ≤ 9223372036854775807) (hb0 : -9223372036854775808 ≤ b) (hb1 : b ≤ 9223372036854775807) (hc0 : -9223372036854775808 ≤ c) (hc1 : c ≤ 9223372036854775807) (hd0 : -9223372036854775808 ≤ d) (hd1 : d ≤ 9223372036854775807) (hv : vfB a b = true ∧ vfB c d = true) : Calls Tryd.prog 34 #[.agg #[.int .i64 a, .int .i64 b], .agg #[.int .i64 c, .int .i64 d]] w fun e w' => e = .returned (.tuple #[.int .i64 (Lib.compareInt (a * d) (c * b)), .int .i64 0]) ∧ Ext w w' := by
  obtain ⟨va, vb, vb'⟩ := vf_bd hv.1
  obtain ⟨vc, vd, vd'⟩ := vf_bd hv.2
  have pad := mul_bd va vd'
  have pcb := mul_bd vc vb'
  have pbd := mul_bd vb' vd'
  have pac := mul_bd va vc
  have pbc := mul_bd vb' vc
  have C1 : Hid (∀ W, Calls Tryd.prog 15 #[.agg #[.int .i64 a, .int .i64 b]] W fun e w' => e = .returned (.bool true) ∧ Ext W w') := fun W => by have := valid_x a b W ha0 ha1 hb0 hb1; rw [hv.1] at this; exact this
  have C2 : Hid (∀ W, Calls Tryd.prog 15 #[.agg #[.int .i64 c, .int .i64 d]] W fun e w' => e = .returned (.bool true) ∧ Ext W w') := fun W => by have := valid_x c d W hc0 hc1 hd0 hd1; rw [hv.2] at this; exact this
  have CC : Hid (∀ W, Calls Tryd.prog 47 #[.int .i64 (a * d), .int .i64 (c * b)] W fun e w' => e = .returned (.int .i64 (Lib.compareInt (a * d) (c * b))) ∧ Ext W w') := fun W => (Tryd.cmp_Compare_int (a * d) (c * b) W).mono fun e w' ⟨h1, h2⟩ => ⟨h1, h2 ▸ Upd.refl _ _⟩
  have HE0 : Hid (Ext w ((w.alloc (.cells #[.int .i64 a, .int .i64 b] 24)).alloc (.cells #[.int .i64 c, .int .i64 d] 24))) := ((Upd.refl _ w).alloc _).alloc _
  have hbA := allocOld (alloc0 w (.cells #[.int .i64 a, .int .i64 b] 24)) (.cells #[.int .i64 c, .int .i64 d] 24)
  have hbB := alloc_at (w.alloc (.cells #[.int .i64 a, .int .i64 b] 24)) (.cells #[.int .i64 c, .int .i64 d] 24) (n := w.heap.size + 1) (by simp)
  have HX : Hid (∀ W, Ext ((w.alloc (.cells #[.int .i64 a, .int .i64 b] 24)).alloc (.cells #[.int .i64 c, .int .i64 d] 24)) W → W.cell? ⟨w.heap.size, 0, none⟩ = some (.int .i64 a) ∧ W.cell? ⟨w.heap.size, 1, none⟩ = some (.int .i64 b) ∧ W.cell? ⟨w.heap.size + 1, 0, none⟩ = some (.int .i64 c) ∧ W.cell? ⟨w.heap.size + 1, 1, none⟩ = some (.int .i64 d)) := fun W hW =>
    ⟨cellRow (hW.heap hbA (fun h => h)) 0 _ rfl, cellRow (hW.heap hbA (fun h => h)) 1 _ rfl, cellRow (hW.heap hbB (fun h => h)) 0 _ rfl, cellRow (hW.heap hbB (fun h => h)) 1 _ rfl⟩
  obtain ⟨k0, k1, k2, k3⟩ := HX.out _ (Upd.refl _ _)
  clear hbA hbB
  clear hv
  generalize Lib.compareInt (a * d) (c * b) = K at *
  go_enter Tryd.func34, Tryd.ntmps34
  go_wp2_with fail
  refine (C1.out _).mono ?_
  rintro e w4 ⟨rfl, hw4⟩
  have H4 := Lib.hid (hw4)
  clear hw4 k0 k1 k2 k3
  obtain ⟨k0, k1, k2, k3⟩ := HX.out _ H4.out
  go_wp2_with fail
  refine (C2.out _).mono ?_
  rintro e w5 ⟨rfl, hw5⟩
  have H5 := Lib.hid (H4.out.ext hw5)
  clear hw5 k0 k1 k2 k3
  obtain ⟨k0, k1, k2, k3⟩ := HX.out _ H5.out
  go_wp2_with fail
  refine (CC.out _).mono ?_
  rintro e w6 ⟨rfl, hw6⟩
  have H6 := Lib.hid (H5.out.ext hw6)
  clear hw6 k0 k1 k2 k3
  obtain ⟨k0, k1, k2, k3⟩ := HX.out _ H6.out
  go_wp2_with fail
  go_ret2
  exact ⟨rfl, HE0.out.ext H6.out⟩
theorem cmpI_of (x y : Int) : Lib.compareInt x y = if x < y then -1 else if y < x then 1 else 0 := by
  unfold Lib.compareInt
  repeat' split
  all_goals first | rfl | omega
set_option maxRecDepth 100000 in
set_option maxHeartbeats 1000000 in
theorem rcmp_ok (a b c d : Int) (w : World) (hv : vfB a b = true ∧ vfB c d = true) : Calls Tryd.prog 37 #[.agg #[.int .i64 a, .int .i64 b], .agg #[.int .i64 c, .int .i64 d]] w fun e w' => e = .returned (.int .i64 (Lib.compareInt (a * d) (c * b))) ∧ Ext w w' := by
  obtain ⟨va, vb, vb'⟩ := vf_bd hv.1
  obtain ⟨vc, vd, vd'⟩ := vf_bd hv.2
  have pad := mul_bd va vd'
  have pcb := mul_bd vc vb'
  have pbd := mul_bd vb' vd'
  have pac := mul_bd va vc
  have pbc := mul_bd vb' vc
  have HE0 : Hid (Ext w ((w.alloc (.cells #[.int .i64 a, .int .i64 b] 24)).alloc (.cells #[.int .i64 c, .int .i64 d] 24))) := ((Upd.refl _ w).alloc _).alloc _
  have hbA := allocOld (alloc0 w (.cells #[.int .i64 a, .int .i64 b] 24)) (.cells #[.int .i64 c, .int .i64 d] 24)
  have hbB := alloc_at (w.alloc (.cells #[.int .i64 a, .int .i64 b] 24)) (.cells #[.int .i64 c, .int .i64 d] 24) (n := w.heap.size + 1) (by simp)
  have HX : Hid (∀ W, Ext ((w.alloc (.cells #[.int .i64 a, .int .i64 b] 24)).alloc (.cells #[.int .i64 c, .int .i64 d] 24)) W → W.cell? ⟨w.heap.size, 0, none⟩ = some (.int .i64 a) ∧ W.cell? ⟨w.heap.size, 1, none⟩ = some (.int .i64 b) ∧ W.cell? ⟨w.heap.size + 1, 0, none⟩ = some (.int .i64 c) ∧ W.cell? ⟨w.heap.size + 1, 1, none⟩ = some (.int .i64 d)) := fun W hW =>
    ⟨cellRow (hW.heap hbA (fun h => h)) 0 _ rfl, cellRow (hW.heap hbA (fun h => h)) 1 _ rfl, cellRow (hW.heap hbB (fun h => h)) 0 _ rfl, cellRow (hW.heap hbB (fun h => h)) 1 _ rfl⟩
  obtain ⟨k0, k1, k2, k3⟩ := HX.out _ (Upd.refl _ _)
  clear hbA hbB
  clear hv
  rw [cmpI_of]
  by_cases h1 : a * d < c * b
  · rw [if_pos h1]
    have t1 : decide (a * d < c * b) = true := decide_eq_true h1
    go_enter Tryd.func37, Tryd.ntmps37
    go_wp2_with fail
    go_ret
    exact ⟨rfl, HE0.out⟩
  · rw [if_neg h1]
    have t1 : decide (a * d < c * b) = false := decide_eq_false h1
    by_cases h2 : c * b < a * d
    · rw [if_pos h2]
      have t2 : decide (c * b < a * d) = true := decide_eq_true h2
      go_enter Tryd.func37, Tryd.ntmps37
      go_wp2_with fail
      go_ret
      exact ⟨rfl, HE0.out⟩
    · rw [if_neg h2]
      have t2 : decide (c * b < a * d) = false := decide_eq_false h2
      go_enter Tryd.func37, Tryd.ntmps37
      go_wp2_with fail
      go_ret
      exact ⟨rfl, HE0.out⟩

set_option maxRecDepth 100000 in
set_option maxHeartbeats 1000000 in
theorem rsub_ok (a b c d : Int) (w : World) (hv : vfB a b = true ∧ vfB c d = true) : Calls Tryd.prog 25 #[.agg #[.int .i64 a, .int .i64 b], .agg #[.int .i64 c, .int .i64 d]] w fun x w' => x = .returned (.tuple #[.agg #[.int .i64 (mkN (a * d - c * b) (b * d)), .int .i64 (mkD (a * d - c * b) (b * d))], .int .i64 (mkE (a * d - c * b) (b * d))]) ∧ Ext w w' := by
  have C1 : Hid (∀ W, Calls Tryd.prog 16 #[.agg #[.int .i64 a, .int .i64 b]] W fun e w' => e = .returned (.bool true) ∧ Ext W w') := fun W => by have := rvalid_x a b W; rw [hv.1] at this; exact this
  have C2 : Hid (∀ W, Calls Tryd.prog 16 #[.agg #[.int .i64 c, .int .i64 d]] W fun e w' => e = .returned (.bool true) ∧ Ext W w') := fun W => by have := rvalid_x c d W; rw [hv.2] at this; exact this
  have CN := Lib.hid (fun W : World => neg_x c d W (vf_bd hv.2).1)
  have CA : Hid (∀ W, Calls Tryd.prog 24 #[.agg #[.int .i64 a, .int .i64 b], .agg #[.int .i64 (-c), .int .i64 d]] W fun x w' => x = .returned (.tuple #[.agg #[.int .i64 (mkN (a * d - c * b) (b * d)), .int .i64 (mkD (a * d - c * b) (b * d))], .int .i64 (mkE (a * d - c * b) (b * d))]) ∧ Ext W w') := fun W => by
    have := radd_ok a b (-c) d W ⟨hv.1, vf_neg hv.2⟩
    rw [show a * d + -c * b = a * d - c * b by rw [Int.neg_mul]; omega] at this
    exact this
  have HE0 : Hid (Ext w (((w.alloc (.cells #[.int .i64 a, .int .i64 b] 24)).alloc (.cells #[.int .i64 c, .int .i64 d] 24)).alloc (.cells #[.int .i64 0, .int .i64 0] 24))) := (((Upd.refl _ w).alloc _).alloc _).alloc _
  have hbA := allocOld (allocOld (alloc0 w (.cells #[.int .i64 a, .int .i64 b] 24)) (.cells #[.int .i64 c, .int .i64 d] 24)) (.cells #[.int .i64 0, .int .i64 0] 24)
  have hbB := allocOld (alloc_at (w.alloc (.cells #[.int .i64 a, .int .i64 b] 24)) (.cells #[.int .i64 c, .int .i64 d] 24) (n := w.heap.size + 1) (by simp)) (.cells #[.int .i64 0, .int .i64 0] 24)
  have hbZ := alloc_at ((w.alloc (.cells #[.int .i64 a, .int .i64 b] 24)).alloc (.cells #[.int .i64 c, .int .i64 d] 24)) (.cells #[.int .i64 0, .int .i64 0] 24) (n := w.heap.size + 1 + 1) (by simp)
  have HX : Hid (∀ W, Ext (((w.alloc (.cells #[.int .i64 a, .int .i64 b] 24)).alloc (.cells #[.int .i64 c, .int .i64 d] 24)).alloc (.cells #[.int .i64 0, .int .i64 0] 24)) W → (W.cell? ⟨w.heap.size, 0, none⟩ = some (.int .i64 a) ∧ W.cell? ⟨w.heap.size, 1, none⟩ = some (.int .i64 b) ∧ W.cell? ⟨w.heap.size + 1, 0, none⟩ = some (.int .i64 c) ∧ W.cell? ⟨w.heap.size + 1, 1, none⟩ = some (.int .i64 d)) ∧ W.heap[w.heap.size + 1 + 1]? = some (.cells #[.int .i64 0, .int .i64 0] 24)) := fun W hW =>
    ⟨⟨cellRow (hW.heap hbA (fun h => h)) 0 _ rfl, cellRow (hW.heap hbA (fun h => h)) 1 _ rfl, cellRow (hW.heap hbB (fun h => h)) 0 _ rfl, cellRow (hW.heap hbB (fun h => h)) 1 _ rfl⟩, hW.heap hbZ (fun h => h)⟩
  obtain ⟨⟨k0, k1, k2, k3⟩, hz⟩ := HX.out _ (Upd.refl _ _)
  have z0 := cellRow hz 0 _ rfl
  have z1 := cellRow hz 1 _ rfl
  have m0 := frozenRow hz 0
  have m1 := frozenRow hz 1
  clear hbA hbB hbZ hz
  have hs : w.heap.size ≤ w.heap.size + 1 + 1 := by omega
  clear hv
  generalize mkN (a * d - c * b) (b * d) = N at *
  generalize mkD (a * d - c * b) (b * d) = D at *
  generalize mkE (a * d - c * b) (b * d) = E at *
  go_enter Tryd.func25, Tryd.ntmps25
  go_wp2_with fail
  refine (C1.out _).mono ?_
  rintro e w4 ⟨rfl, hw4⟩
  have H4 := Lib.hid (hw4)
  clear hw4 k0 k1 k2 k3 z0 z1 m0 m1
  obtain ⟨⟨k0, k1, k2, k3⟩, hz⟩ := HX.out _ H4.out
  have z0 := cellRow hz 0 _ rfl
  have z1 := cellRow hz 1 _ rfl
  have m0 := frozenRow hz 0
  have m1 := frozenRow hz 1
  clear hz
  go_wp2_with fail
  refine (C2.out _).mono ?_
  rintro e w5 ⟨rfl, hw5⟩
  have H5 := Lib.hid (H4.out.ext hw5)
  clear hw5 k0 k1 k2 k3 z0 z1 m0 m1
  obtain ⟨⟨k0, k1, k2, k3⟩, hz⟩ := HX.out _ H5.out
  have z0 := cellRow hz 0 _ rfl
  have z1 := cellRow hz 1 _ rfl
  have m0 := frozenRow hz 0
  have m1 := frozenRow hz 1
  clear hz
  clear z0 z1 m0 m1
  have hX0 : ∀ x : XW w5, x.val.cell? ⟨w.heap.size, 0, none⟩ = some (.int .i64 a) := fun x => x.ext.cell k0 (fun h => h)
  have hX1 : ∀ x : XW w5, x.val.cell? ⟨w.heap.size, 1, none⟩ = some (.int .i64 b) := fun x => x.ext.cell k1 (fun h => h)
  have hX2 : ∀ x : XW w5, x.val.cell? ⟨w.heap.size + 1, 0, none⟩ = some (.int .i64 c) := fun x => x.ext.cell k2 (fun h => h)
  have hX3 : ∀ x : XW w5, x.val.cell? ⟨w.heap.size + 1, 1, none⟩ = some (.int .i64 d) := fun x => x.ext.cell k3 (fun h => h)
  go_wp2_with fail
  refine wp_region_par (α := Nat) 6 [(6, 2), (7, 2)] [[], [], [1], [0, 1, 2], [0, 1, 2, 3], [0, 1, 2, 3], [0, 1, 2, 3, 4, 5], [0, 1, 2, 3, 4, 5, 6]]
    [none, none, some (annVal (.agg #[.int .i64 (-c), .int .i64 d])), some (annVal (.tuple #[.agg #[.int .i64 N, .int .i64 D], .int .i64 E])), none, none] [false, false, true, true, false, false] (by kernel_rfl) (by kernel_rfl) rfl (fun _ _ d _ _ h => by cases d <;> exact h) ?_
  simp only [List.take_succ_cons, List.take_zero, pickO, List.getElem?_cons_zero, List.getElem?_cons_succ]
  iterate 2 (refine can_pure0 rfl (fun K hK => ?_); go_simp; refine hK _ ?_; clear hK K)
  refine can_mem _ rfl (by go_simp) (fun W hW hG K hK => ?_) (fun K x2 hK => ?_)
  · go_simp
    refine (CN.out W).mono ?_
    rintro e w' ⟨rfl, h⟩
    exact hK default w' h trivial
  refine hK _ ?_; clear hK K
  dsimp only [annVal]
  refine can_mem _ rfl (by go_simp) (fun W hW hG K hK => ?_) (fun K x3 hK => ?_)
  · go_simp
    refine (CA.out W).mono ?_
    rintro e w' ⟨rfl, h⟩
    exact hK default w' h trivial
  refine hK _ ?_; clear hK K
  dsimp only [annVal]
  iterate 2 (refine can_pure0 rfl (fun K hK => ?_); go_simp; refine hK _ ?_; clear hK K)
  refine can_end (fun W hW hG => ?_)
  clear hG hX0 hX1 hX2 hX3 k0 k1 k2 k3
  have H6 := Lib.hid (H5.out.ext hW)
  obtain ⟨_, hz⟩ := HX.out _ H6.out
  have z0 := cellRow hz 0 _ rfl
  have z1 := cellRow hz 1 _ rfl
  have m0 := frozenRow hz 0
  have m1 := frozenRow hz 1
  clear hz hW
  iterate 2 (refine mix_two (fun K hK => ?_); go_simp; refine hK _ _ ?_; clear hK K)
  simp only [wpMix]
  go_wp2_with fail
  exact bodyPost_ret (v := .tuple #[.agg #[.int .i64 N, .int .i64 D], .int .i64 E]) (by simp [results, Tryd.results25, go_sem, z0, z1]) rfl ⟨rfl, ((HE0.out.ext H6.out).setNew (by omega) _).setNew (by omega) _⟩


end Go.Proofs.YtlipjgpfhmkdhaaDoor
