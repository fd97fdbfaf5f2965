/- The texts R8 R9 K1 K2 K3 K4 K5 K6 K7 K8 K9 KP1, one behind the other. -/
import Derived.Test.YtncnojhbdkhcjaaZB
import Derived.Test.YtncnojhbdkhcjaaShelf
import Derived.Deep.QuietTactic
import Derived.Test.YtncnojhbdkhcjaaZA
import Derived.Sort.LotA
/- Neg, Floor, Ceil, Cmp. -/
namespace Go.Proofs.Ytncnojhbdkhcjaa
open Go.RowKit Go.Hw
set_option linter.unusedVariables false
set_option linter.unusedSimpArgs false

theorem vf_neg {n d : Int} (h : vfB n d = true) : vfB (-n) d = true := by
  rw [vfB_iff] at h ⊢
  rw [Int.natAbs_neg]
  omega
theorem floor_t (a b : Int) (hb : 0 < b) : (Int.tmod a b < 0 → a / b = Int.tdiv a b - 1) ∧ (0 ≤ Int.tmod a b → a / b = Int.tdiv a b) ∧ -b < Int.tmod a b ∧ Int.tmod a b < b := by
  have h1 := Int.mul_tdiv_add_tmod a b
  have h2 := Int.tmod_lt_of_pos a hb
  have h3 : -b < Int.tmod a b := by
    have := Int.tmod_lt_of_pos (-a) hb
    rw [Int.neg_tmod] at this; omega
  have h4 : a / b = Int.tmod a b / b + Int.tdiv a b := by
    have : (Int.tmod a b + b * Int.tdiv a b) / b = Int.tmod a b / b + Int.tdiv a b := Int.add_mul_ediv_left _ _ (by omega)
    rw [show Int.tmod a b + b * Int.tdiv a b = a by omega] at this
    exact this
  generalize Int.tmod a b = R at *
  generalize Int.tdiv a b = Q at *
  refine ⟨fun h => ?_, fun h => ?_, h3, h2⟩
  · have h5 : (R + b * 1) / b = R / b + 1 := Int.add_mul_ediv_left _ _ (by omega)
    have h6 : (R + b * 1) / b = 0 := Int.ediv_eq_zero_of_lt (by omega) (by omega)
    omega
  · have h6 : R / b = 0 := Int.ediv_eq_zero_of_lt h h2
    omega
theorem tdiv_bd (a b : Int) (hb : 0 < b) (h : -1073741824 ≤ a ∧ a ≤ 1073741824) : -1073741824 ≤ Int.tdiv a b ∧ Int.tdiv a b ≤ 1073741824 := by
  have := Int.natAbs_tdiv a b
  have h2 : a.natAbs / b.natAbs ≤ a.natAbs := Nat.div_le_self _ _
  have h3 : (Int.tdiv a b).natAbs ≤ a.natAbs := by rw [this]; exact h2
  omega

end Go.Proofs.Ytncnojhbdkhcjaa

/- Floor, Ceil, Cmp, Sub. -/
namespace Go.Proofs.Ytncnojhbdkhcjaa
open Go.RowKit Go.Hw
set_option linter.unusedVariables false
set_option linter.unusedSimpArgs false

set_option maxRecDepth 100000 in
set_option maxHeartbeats 1000000 in
theorem cmp_bad1 (a b c d : Int) (w : World) (ha0 : -9223372036854775808 ≤ a) (ha1 : a ≤ 9223372036854775807) (hb0 : -9223372036854775808 ≤ b) (hb1 : b ≤ 9223372036854775807) (hc0 : -9223372036854775808 ≤ c) (hc1 : c ≤ 9223372036854775807) (hd0 : -9223372036854775808 ≤ d) (hd1 : d ≤ 9223372036854775807) (h1 : vfB a b = false) : Calls Try.prog 74 #[.agg #[.int .i64 a, .int .i64 b], .agg #[.int .i64 c, .int .i64 d]] w fun e w' => e = .returned (.tuple #[.int .i64 0, .int .i64 1]) ∧ Ext w w' := by
  have C1 : Hid (∀ W, Calls Try.prog 66 #[.agg #[.int .i64 a, .int .i64 b]] W fun e w' => e = .returned (.bool false) ∧ Ext W w') := fun W => by have := valid_x a b W ha0 ha1 hb0 hb1; rw [h1] at this; exact this
  have HE0 : Hid (Ext w ((w.alloc (.cells #[.int .i64 a, .int .i64 b] 25)).alloc (.cells #[.int .i64 c, .int .i64 d] 25))) := ((Upd.refl _ w).alloc _).alloc _
  have hbA := allocOld (alloc0 w (.cells #[.int .i64 a, .int .i64 b] 25)) (.cells #[.int .i64 c, .int .i64 d] 25)
  have hbB := alloc_at (w.alloc (.cells #[.int .i64 a, .int .i64 b] 25)) (.cells #[.int .i64 c, .int .i64 d] 25) (n := w.heap.size + 1) (by simp)
  have HX : Hid (∀ W, Ext ((w.alloc (.cells #[.int .i64 a, .int .i64 b] 25)).alloc (.cells #[.int .i64 c, .int .i64 d] 25)) W → W.cell? ⟨w.heap.size, 0, none⟩ = some (.int .i64 a) ∧ W.cell? ⟨w.heap.size, 1, none⟩ = some (.int .i64 b) ∧ W.cell? ⟨w.heap.size + 1, 0, none⟩ = some (.int .i64 c) ∧ W.cell? ⟨w.heap.size + 1, 1, none⟩ = some (.int .i64 d)) := fun W hW =>
    ⟨cellRow (hW.heap hbA (fun h => h)) 0 _ rfl, cellRow (hW.heap hbA (fun h => h)) 1 _ rfl, cellRow (hW.heap hbB (fun h => h)) 0 _ rfl, cellRow (hW.heap hbB (fun h => h)) 1 _ rfl⟩
  obtain ⟨k0, k1, k2, k3⟩ := HX.out _ (Upd.refl _ _)
  clear hbA hbB
  clear h1
  go_enter Try.func74, Try.ntmps74
  go_wp2_with fail
  refine (C1.out _).mono ?_
  rintro e w4 ⟨rfl, hw4⟩
  have H4 := Lib.hid (hw4)
  clear hw4 k0 k1 k2 k3
  obtain ⟨k0, k1, k2, k3⟩ := HX.out _ H4.out
  go_wp2_with fail
  go_ret2
  exact ⟨rfl, HE0.out.ext H4.out⟩
set_option maxRecDepth 100000 in
set_option maxHeartbeats 1000000 in
theorem cmp_bad2 (a b c d : Int) (w : World) (ha0 : -9223372036854775808 ≤ a) (ha1 : a ≤ 9223372036854775807) (hb0 : -9223372036854775808 ≤ b) (hb1 : b ≤ 9223372036854775807) (hc0 : -9223372036854775808 ≤ c) (hc1 : c ≤ 9223372036854775807) (hd0 : -9223372036854775808 ≤ d) (hd1 : d ≤ 9223372036854775807) (h1 : vfB a b = true) (h2 : vfB c d = false) : Calls Try.prog 74 #[.agg #[.int .i64 a, .int .i64 b], .agg #[.int .i64 c, .int .i64 d]] w fun e w' => e = .returned (.tuple #[.int .i64 0, .int .i64 1]) ∧ Ext w w' := by
  have C1 : Hid (∀ W, Calls Try.prog 66 #[.agg #[.int .i64 a, .int .i64 b]] W fun e w' => e = .returned (.bool true) ∧ Ext W w') := fun W => by have := valid_x a b W ha0 ha1 hb0 hb1; rw [h1] at this; exact this
  have C2 : Hid (∀ W, Calls Try.prog 66 #[.agg #[.int .i64 c, .int .i64 d]] W fun e w' => e = .returned (.bool false) ∧ Ext W w') := fun W => by have := valid_x c d W hc0 hc1 hd0 hd1; rw [h2] at this; exact this
  have HE0 : Hid (Ext w ((w.alloc (.cells #[.int .i64 a, .int .i64 b] 25)).alloc (.cells #[.int .i64 c, .int .i64 d] 25))) := ((Upd.refl _ w).alloc _).alloc _
  have hbA := allocOld (alloc0 w (.cells #[.int .i64 a, .int .i64 b] 25)) (.cells #[.int .i64 c, .int .i64 d] 25)
  have hbB := alloc_at (w.alloc (.cells #[.int .i64 a, .int .i64 b] 25)) (.cells #[.int .i64 c, .int .i64 d] 25) (n := w.heap.size + 1) (by simp)
  have HX : Hid (∀ W, Ext ((w.alloc (.cells #[.int .i64 a, .int .i64 b] 25)).alloc (.cells #[.int .i64 c, .int .i64 d] 25)) W → W.cell? ⟨w.heap.size, 0, none⟩ = some (.int .i64 a) ∧ W.cell? ⟨w.heap.size, 1, none⟩ = some (.int .i64 b) ∧ W.cell? ⟨w.heap.size + 1, 0, none⟩ = some (.int .i64 c) ∧ W.cell? ⟨w.heap.size + 1, 1, none⟩ = some (.int .i64 d)) := fun W hW =>
    ⟨cellRow (hW.heap hbA (fun h => h)) 0 _ rfl, cellRow (hW.heap hbA (fun h => h)) 1 _ rfl, cellRow (hW.heap hbB (fun h => h)) 0 _ rfl, cellRow (hW.heap hbB (fun h => h)) 1 _ rfl⟩
  obtain ⟨k0, k1, k2, k3⟩ := HX.out _ (Upd.refl _ _)
  clear hbA hbB
  clear h1 h2
  go_enter Try.func74, Try.ntmps74
  go_wp2_with fail
  refine (C1.out _).mono ?_
  rintro e w4 ⟨rfl, hw4⟩
  have H4 := Lib.hid (hw4)
  clear hw4 k0 k1 k2 k3
  obtain ⟨k0, k1, k2, k3⟩ := HX.out _ H4.out
  go_wp2_with fail
  refine (C2.out _).mono ?_
  rintro e w5 ⟨rfl, hw5⟩
  have H5 := Lib.hid (H4.out.ext hw5)
  clear hw5 k0 k1 k2 k3
  obtain ⟨k0, k1, k2, k3⟩ := HX.out _ H5.out
  go_wp2_with fail
  go_ret2
  exact ⟨rfl, HE0.out.ext H5.out⟩
set_option maxRecDepth 100000 in
set_option maxHeartbeats 1000000 in
theorem cmp_ok (a b c d : Int) (w : World) (ha0 : -9223372036854775808 ≤ a) (ha1 : a ≤ 9223372036854775807) (hb0 : -9223372036854775808 ≤ b) (hb1 : b ≤ 9223372036854775807) (hc0 : -9223372036854775808 ≤ c) (hc1 : c ≤ 9223372036854775807) (hd0 : -9223372036854775808 ≤ d) (hd1 : d ≤ 9223372036854775807) (hv : vfB a b = true ∧ vfB c d = true) : Calls Try.prog 74 #[.agg #[.int .i64 a, .int .i64 b], .agg #[.int .i64 c, .int .i64 d]] w fun e w' => e = .returned (.tuple #[.int .i64 (Lib.compareInt (a * d) (c * b)), .int .i64 0]) ∧ Ext w w' := by
  obtain ⟨va, vb, vb'⟩ := vf_bd hv.1
  obtain ⟨vc, vd, vd'⟩ := vf_bd hv.2
  have pad := mul_bd va vd'
  have pcb := mul_bd vc vb'
  have pbd := mul_bd vb' vd'
  have pac := mul_bd va vc
  have pbc := mul_bd vb' vc
  have C1 : Hid (∀ W, Calls Try.prog 66 #[.agg #[.int .i64 a, .int .i64 b]] W fun e w' => e = .returned (.bool true) ∧ Ext W w') := fun W => by have := valid_x a b W ha0 ha1 hb0 hb1; rw [hv.1] at this; exact this
  have C2 : Hid (∀ W, Calls Try.prog 66 #[.agg #[.int .i64 c, .int .i64 d]] W fun e w' => e = .returned (.bool true) ∧ Ext W w') := fun W => by have := valid_x c d W hc0 hc1 hd0 hd1; rw [hv.2] at this; exact this
  have CC : Hid (∀ W, Calls Try.prog 73 #[.int .i64 (a * d), .int .i64 (c * b)] W fun e w' => e = .returned (.int .i64 (Lib.compareInt (a * d) (c * b))) ∧ Ext W w') := fun W => (Try.cmp_Compare_int (a * d) (c * b) W).mono fun e w' ⟨h1, h2⟩ => ⟨h1, h2 ▸ Upd.refl _ _⟩
  have HE0 : Hid (Ext w ((w.alloc (.cells #[.int .i64 a, .int .i64 b] 25)).alloc (.cells #[.int .i64 c, .int .i64 d] 25))) := ((Upd.refl _ w).alloc _).alloc _
  have hbA := allocOld (alloc0 w (.cells #[.int .i64 a, .int .i64 b] 25)) (.cells #[.int .i64 c, .int .i64 d] 25)
  have hbB := alloc_at (w.alloc (.cells #[.int .i64 a, .int .i64 b] 25)) (.cells #[.int .i64 c, .int .i64 d] 25) (n := w.heap.size + 1) (by simp)
  have HX : Hid (∀ W, Ext ((w.alloc (.cells #[.int .i64 a, .int .i64 b] 25)).alloc (.cells #[.int .i64 c, .int .i64 d] 25)) W → W.cell? ⟨w.heap.size, 0, none⟩ = some (.int .i64 a) ∧ W.cell? ⟨w.heap.size, 1, none⟩ = some (.int .i64 b) ∧ W.cell? ⟨w.heap.size + 1, 0, none⟩ = some (.int .i64 c) ∧ W.cell? ⟨w.heap.size + 1, 1, none⟩ = some (.int .i64 d)) := fun W hW =>
    ⟨cellRow (hW.heap hbA (fun h => h)) 0 _ rfl, cellRow (hW.heap hbA (fun h => h)) 1 _ rfl, cellRow (hW.heap hbB (fun h => h)) 0 _ rfl, cellRow (hW.heap hbB (fun h => h)) 1 _ rfl⟩
  obtain ⟨k0, k1, k2, k3⟩ := HX.out _ (Upd.refl _ _)
  clear hbA hbB
  clear hv
  generalize Lib.compareInt (a * d) (c * b) = K at *
  go_enter Try.func74, Try.ntmps74
  go_wp2_with fail
  refine (C1.out _).mono ?_
  rintro e w4 ⟨rfl, hw4⟩
  have H4 := Lib.hid (hw4)
  clear hw4 k0 k1 k2 k3
  obtain ⟨k0, k1, k2, k3⟩ := HX.out _ H4.out
  go_wp2_with fail
  refine (C2.out _).mono ?_
  rintro e w5 ⟨rfl, hw5⟩
  have H5 := Lib.hid (H4.out.ext hw5)
  clear hw5 k0 k1 k2 k3
  obtain ⟨k0, k1, k2, k3⟩ := HX.out _ H5.out
  go_wp2_with fail
  refine (CC.out _).mono ?_
  rintro e w6 ⟨rfl, hw6⟩
  have H6 := Lib.hid (H5.out.ext hw6)
  clear hw6 k0 k1 k2 k3
  obtain ⟨k0, k1, k2, k3⟩ := HX.out _ H6.out
  go_wp2_with fail
  go_ret2
  exact ⟨rfl, HE0.out.ext H6.out⟩
theorem cmpI_of (x y : Int) : Lib.compareInt x y = if x < y then -1 else if y < x then 1 else 0 := by
  unfold Lib.compareInt
  repeat' split
  all_goals first | rfl | omega
set_option maxRecDepth 100000 in
set_option maxHeartbeats 1000000 in
theorem rcmp_ok (a b c d : Int) (w : World) (hv : vfB a b = true ∧ vfB c d = true) : Calls Try.prog 30 #[.agg #[.int .i64 a, .int .i64 b], .agg #[.int .i64 c, .int .i64 d]] w fun e w' => e = .returned (.int .i64 (Lib.compareInt (a * d) (c * b))) ∧ Ext w w' := by
  obtain ⟨va, vb, vb'⟩ := vf_bd hv.1
  obtain ⟨vc, vd, vd'⟩ := vf_bd hv.2
  have pad := mul_bd va vd'
  have pcb := mul_bd vc vb'
  have pbd := mul_bd vb' vd'
  have pac := mul_bd va vc
  have pbc := mul_bd vb' vc
  have HE0 : Hid (Ext w ((w.alloc (.cells #[.int .i64 a, .int .i64 b] 25)).alloc (.cells #[.int .i64 c, .int .i64 d] 25))) := ((Upd.refl _ w).alloc _).alloc _
  have hbA := allocOld (alloc0 w (.cells #[.int .i64 a, .int .i64 b] 25)) (.cells #[.int .i64 c, .int .i64 d] 25)
  have hbB := alloc_at (w.alloc (.cells #[.int .i64 a, .int .i64 b] 25)) (.cells #[.int .i64 c, .int .i64 d] 25) (n := w.heap.size + 1) (by simp)
  have HX : Hid (∀ W, Ext ((w.alloc (.cells #[.int .i64 a, .int .i64 b] 25)).alloc (.cells #[.int .i64 c, .int .i64 d] 25)) W → W.cell? ⟨w.heap.size, 0, none⟩ = some (.int .i64 a) ∧ W.cell? ⟨w.heap.size, 1, none⟩ = some (.int .i64 b) ∧ W.cell? ⟨w.heap.size + 1, 0, none⟩ = some (.int .i64 c) ∧ W.cell? ⟨w.heap.size + 1, 1, none⟩ = some (.int .i64 d)) := fun W hW =>
    ⟨cellRow (hW.heap hbA (fun h => h)) 0 _ rfl, cellRow (hW.heap hbA (fun h => h)) 1 _ rfl, cellRow (hW.heap hbB (fun h => h)) 0 _ rfl, cellRow (hW.heap hbB (fun h => h)) 1 _ rfl⟩
  obtain ⟨k0, k1, k2, k3⟩ := HX.out _ (Upd.refl _ _)
  clear hbA hbB
  clear hv
  rw [cmpI_of]
  by_cases h1 : a * d < c * b
  · rw [if_pos h1]
    have t1 : decide (a * d < c * b) = true := decide_eq_true h1
    go_enter Try.func30, Try.ntmps30
    go_wp2_with fail
    go_ret
    exact ⟨rfl, HE0.out⟩
  · rw [if_neg h1]
    have t1 : decide (a * d < c * b) = false := decide_eq_false h1
    by_cases h2 : c * b < a * d
    · rw [if_pos h2]
      have t2 : decide (c * b < a * d) = true := decide_eq_true h2
      go_enter Try.func30, Try.ntmps30
      go_wp2_with fail
      go_ret
      exact ⟨rfl, HE0.out⟩
    · rw [if_neg h2]
      have t2 : decide (c * b < a * d) = false := decide_eq_false h2
      go_enter Try.func30, Try.ntmps30
      go_wp2_with fail
      go_ret
      exact ⟨rfl, HE0.out⟩

end Go.Proofs.Ytncnojhbdkhcjaa

/- The small functions. -/
namespace Go.Proofs.Ytncnojhbdkhcjaa
open Go.RowKit Go.Hw
set_option linter.unusedVariables false
set_option linter.unusedSimpArgs false

def badM (a s : Int) : Bool := decide (a < -1048576) || decide (1048576 < a) || decide (s < -1000) || decide (1000 < s)
def timeB (n d : Int) : Bool := vfB n d && decide (0 ≤ n)
theorem badM_iff (a s : Int) : badM a s = false ↔ (-1048576 ≤ a ∧ a ≤ 1048576) ∧ (-1000 ≤ s ∧ s ≤ 1000) := by
  unfold badM
  simp only [Bool.or_eq_false_iff, decide_eq_false_iff_not]
  omega
theorem timeB_iff (n d : Int) : timeB n d = true ↔ vfB n d = true ∧ 0 ≤ n := by
  unfold timeB
  rw [Bool.and_eq_true, decide_eq_true_eq]

theorem bad_x (a s : Int) (w : World) : Calls Try.prog 46 #[.agg #[.int .i64 a, .int .i64 s]] w fun e w' => e = .returned (.bool (badM a s)) ∧ Ext w w' := by
  have HZ := Lib.hid ((Upd.refl (fun _ => False) w).alloc (.cells #[.int .i64 a, .int .i64 s] 23))
  unfold badM
  by_cases h0 : a < -1048576
  · have t0 : decide (a < -1048576) = true := decide_eq_true h0
    simp only [*]
    go_enter Try.func46, Try.ntmps46
    go_wp2_with fail
    go_ret
    exact ⟨rfl, HZ.out⟩
  · have t0 : decide (a < -1048576) = false := decide_eq_false h0
    by_cases h1 : 1048576 < a
    · have t1 : decide (1048576 < a) = true := decide_eq_true h1
      simp only [*]
      go_enter Try.func46, Try.ntmps46
      go_wp2_with fail
      go_ret
      exact ⟨rfl, HZ.out⟩
    · have t1 : decide (1048576 < a) = false := decide_eq_false h1
      by_cases h2 : s < -1000
      · have t2 : decide (s < -1000) = true := decide_eq_true h2
        simp only [*]
        go_enter Try.func46, Try.ntmps46
        go_wp2_with fail
        go_ret
        exact ⟨rfl, HZ.out⟩
      · have t2 : decide (s < -1000) = false := decide_eq_false h2
        by_cases h3 : 1000 < s
        · have t3 : decide (1000 < s) = true := decide_eq_true h3
          simp only [*]
          go_enter Try.func46, Try.ntmps46
          go_wp2_with fail
          go_ret
          exact ⟨rfl, HZ.out⟩
        · have t3 : decide (1000 < s) = false := decide_eq_false h3
          simp only [*]
          go_enter Try.func46, Try.ntmps46
          go_wp2_with fail
          go_ret
          exact ⟨rfl, HZ.out⟩

theorem rmotion_x (a s : Int) (w : World) : Calls Try.prog 14 #[.agg #[.int .i64 a, .int .i64 s]] w fun e w' => e = .returned (.bool (!badM a s)) ∧ Ext w w' := by
  have HZ := Lib.hid ((Upd.refl (fun _ => False) w).alloc (.cells #[.int .i64 a, .int .i64 s] 23))
  rw [show (!badM a s) = (decide (-1048576 ≤ a) && decide (a ≤ 1048576) && decide (-1000 ≤ s) && decide (s ≤ 1000)) by
    rw [Bool.eq_iff_iff, Bool.not_eq_true', badM_iff]
    simp only [Bool.and_eq_true, decide_eq_true_eq]
    omega]
  by_cases h0 : -1048576 ≤ a
  · have t0 : decide (-1048576 ≤ a) = true := decide_eq_true h0
    by_cases h1 : a ≤ 1048576
    · have t1 : decide (a ≤ 1048576) = true := decide_eq_true h1
      by_cases h2 : -1000 ≤ s
      · have t2 : decide (-1000 ≤ s) = true := decide_eq_true h2
        by_cases h3 : s ≤ 1000
        · have t3 : decide (s ≤ 1000) = true := decide_eq_true h3
          simp only [*]
          go_enter Try.func14, Try.ntmps14
          go_wp2_with fail
          go_ret
          exact ⟨rfl, HZ.out⟩
        · have t3 : decide (s ≤ 1000) = false := decide_eq_false h3
          simp only [*]
          go_enter Try.func14, Try.ntmps14
          go_wp2_with fail
          go_ret
          exact ⟨rfl, HZ.out⟩
      · have t2 : decide (-1000 ≤ s) = false := decide_eq_false h2
        simp only [*]
        go_enter Try.func14, Try.ntmps14
        go_wp2_with fail
        go_ret
        exact ⟨rfl, HZ.out⟩
    · have t1 : decide (a ≤ 1048576) = false := decide_eq_false h1
      simp only [*]
      go_enter Try.func14, Try.ntmps14
      go_wp2_with fail
      go_ret
      exact ⟨rfl, HZ.out⟩
  · have t0 : decide (-1048576 ≤ a) = false := decide_eq_false h0
    simp only [*]
    go_enter Try.func14, Try.ntmps14
    go_wp2_with fail
    go_ret
    exact ⟨rfl, HZ.out⟩

theorem scaled_x (a s n d : Int) (w : World) (hm : badM a s = false) (ht : vfB n d = true) : Calls Try.prog 49 #[.agg #[.int .i64 a, .int .i64 s], .agg #[.int .i64 n, .int .i64 d]] w fun e w' => e = .returned (.int .i64 (a * d + s * n)) ∧ w' = (w.alloc (.cells #[.int .i64 a, .int .i64 s] 23)).alloc (.cells #[.int .i64 n, .int .i64 d] 25) := by
  obtain ⟨ha, hs⟩ := (badM_iff a s).1 hm
  obtain ⟨vn, vd, vd'⟩ := vf_bd ht
  have pad := mul_bd (x := a) (y := d) (by omega) vd'
  have psn := mul_bd (x := s) (y := n) (by omega) vn
  clear hm ht
  go_enter Try.func49, Try.ntmps49
  go_wp2_with fail
  go_ret
  exact ⟨rfl, rfl⟩

end Go.Proofs.Ytncnojhbdkhcjaa

/- The small functions. -/
namespace Go.Proofs.Ytncnojhbdkhcjaa
open Go.RowKit Go.Hw
set_option linter.unusedVariables false
set_option linter.unusedSimpArgs false

theorem time_x (n d : Int) (w : World) (n0 : -9223372036854775808 ≤ n) (n1 : n ≤ 9223372036854775807) (d0 : -9223372036854775808 ≤ d) (d1 : d ≤ 9223372036854775807) : Calls Try.prog 47 #[.agg #[.int .i64 n, .int .i64 d]] w fun e w' => e = .returned (.bool (timeB n d)) ∧ Ext w w' := by
  have hb := alloc0 w (.cells #[.int .i64 n, .int .i64 d] 25)
  have HZ := Lib.hid ((Upd.refl (fun _ => False) w).alloc (.cells #[.int .i64 n, .int .i64 d] 25))
  have HX : Hid (∀ W, Ext (w.alloc (.cells #[.int .i64 n, .int .i64 d] 25)) W → W.cell? ⟨w.heap.size, 0, none⟩ = some (.int .i64 n)) := fun W hW => cellRow (hW.heap hb (fun h => h)) 0 _ rfl
  have HC : Hid (∀ W, Calls Try.prog 66 #[.agg #[.int .i64 n, .int .i64 d]] W fun e w' => e = .returned (.bool (vfB n d)) ∧ Ext W w') := fun W => valid_x n d W n0 n1 d0 d1
  clear hb
  unfold timeB
  by_cases hv : vfB n d = true
  · by_cases hn : 0 ≤ n
    · have t1 : decide (0 ≤ n) = true := decide_eq_true hn
      rw [hv] at HC ⊢
      rw [t1, Bool.true_and]
      go_enter Try.func47, Try.ntmps47
      go_wp2_with fail
      refine (HC.out _).mono ?_
      rintro e w4 ⟨rfl, hw4⟩
      have k0 := HX.out _ hw4
      have H4 := Lib.hid hw4
      clear hw4
      go_wp2_with fail
      go_ret
      exact ⟨rfl, HZ.out.ext H4.out⟩
    · have t1 : decide (0 ≤ n) = false := decide_eq_false hn
      rw [hv] at HC ⊢
      rw [t1, Bool.true_and]
      go_enter Try.func47, Try.ntmps47
      go_wp2_with fail
      refine (HC.out _).mono ?_
      rintro e w4 ⟨rfl, hw4⟩
      have k0 := HX.out _ hw4
      have H4 := Lib.hid hw4
      clear hw4
      go_wp2_with fail
      go_ret
      exact ⟨rfl, HZ.out.ext H4.out⟩
  · have hv' : vfB n d = false := by simpa using hv
    rw [hv'] at HC ⊢
    rw [Bool.false_and]
    go_enter Try.func47, Try.ntmps47
    go_wp2_with fail
    refine (HC.out _).mono ?_
    rintro e w4 ⟨rfl, hw4⟩
    have H4 := Lib.hid hw4
    clear hw4
    go_wp2_with fail
    go_ret
    exact ⟨rfl, HZ.out.ext H4.out⟩

theorem rtime_x (n d : Int) (w : World) : Calls Try.prog 15 #[.agg #[.int .i64 n, .int .i64 d]] w fun e w' => e = .returned (.bool (timeB n d)) ∧ Ext w w' := by
  have hb := alloc0 w (.cells #[.int .i64 n, .int .i64 d] 25)
  have HZ := Lib.hid ((Upd.refl (fun _ => False) w).alloc (.cells #[.int .i64 n, .int .i64 d] 25))
  have HX : Hid (∀ W, Ext (w.alloc (.cells #[.int .i64 n, .int .i64 d] 25)) W → W.cell? ⟨w.heap.size, 0, none⟩ = some (.int .i64 n)) := fun W hW => cellRow (hW.heap hb (fun h => h)) 0 _ rfl
  have HC : Hid (∀ W, Calls Try.prog 36 #[.agg #[.int .i64 n, .int .i64 d]] W fun e w' => e = .returned (.bool (vfB n d)) ∧ Ext W w') := fun W => rvalid_x n d W
  clear hb
  unfold timeB
  by_cases hv : vfB n d = true
  · by_cases hn : 0 ≤ n
    · have t1 : decide (0 ≤ n) = true := decide_eq_true hn
      rw [hv] at HC ⊢
      rw [t1, Bool.true_and]
      go_enter Try.func15, Try.ntmps15
      go_wp2_with fail
      refine (HC.out _).mono ?_
      rintro e w4 ⟨rfl, hw4⟩
      have k0 := HX.out _ hw4
      have H4 := Lib.hid hw4
      clear hw4
      go_wp2_with fail
      go_ret
      exact ⟨rfl, HZ.out.ext H4.out⟩
    · have t1 : decide (0 ≤ n) = false := decide_eq_false hn
      rw [hv] at HC ⊢
      rw [t1, Bool.true_and]
      go_enter Try.func15, Try.ntmps15
      go_wp2_with fail
      refine (HC.out _).mono ?_
      rintro e w4 ⟨rfl, hw4⟩
      have k0 := HX.out _ hw4
      have H4 := Lib.hid hw4
      clear hw4
      go_wp2_with fail
      go_ret
      exact ⟨rfl, HZ.out.ext H4.out⟩
  · have hv' : vfB n d = false := by simpa using hv
    rw [hv'] at HC ⊢
    rw [Bool.false_and]
    go_enter Try.func15, Try.ntmps15
    go_wp2_with fail
    refine (HC.out _).mono ?_
    rintro e w4 ⟨rfl, hw4⟩
    have H4 := Lib.hid hw4
    clear hw4
    go_wp2_with fail
    go_ret
    exact ⟨rfl, HZ.out.ext H4.out⟩

theorem zero_x (w : World) : Calls Try.prog 63 #[] w fun e w' => e = .returned (.agg #[.int .i64 0, .int .i64 1]) ∧ Ext w w' := by
  have HZ := Lib.hid ((Upd.refl (fun _ => False) w).alloc (.cells #[.int .i64 0, .int .i64 0] 25))
  go_enter Try.func63, Try.ntmps63
  go_wp2_with fail
  refine bodyPost_ret (v := .agg #[.int .i64 0, .int .i64 1]) (by simp [results, Try.results63, go_sem]) rfl ?_
  exact ⟨rfl, (Upd.refl _ w).alloc _⟩

end Go.Proofs.Ytncnojhbdkhcjaa

/- Less of the reference. -/
namespace Go.Proofs.Ytncnojhbdkhcjaa
open Go.RowKit Go.Hw
set_option linter.unusedVariables false
set_option linter.unusedSimpArgs false

abbrev Mo := Int × Int
def mg (l : List Mo) (i : Nat) : Mo := l.getD i (0, 0)
def ps (l : List Mo) (n d : Int) (i : Nat) : Int := (mg l i).1 * d + (mg l i).2 * n
def lessK (l : List Mo) (n d : Int) (a b : Nat) : Bool :=
  if ps l n d a = ps l n d b then (if (mg l a).2 = (mg l b).2 then decide (a < b) else decide ((mg l a).2 < (mg l b).2)) else decide (ps l n d a < ps l n d b)
def mB (l : List Mo) : Bool := l.all fun m => !badM m.1 m.2
theorem mB_at {l : List Mo} (h : mB l = true) (i : Nat) : badM (mg l i).1 (mg l i).2 = false := by
  unfold mg
  rw [List.getD_eq_getElem?_getD]
  by_cases hi : i < l.length
  · rw [List.getElem?_eq_getElem hi]
    have := List.all_eq_true.1 h _ (List.getElem_mem hi)
    simpa using this
  · rw [List.getElem?_eq_none (by omega)]; decide
def mCells (l : List Mo) : List Value := l.flatMap fun m => [.int .i64 m.1, .int .i64 m.2]
theorem mCells_len (l : List Mo) : (mCells l).length = l.length * 2 := by
  induction l with
  | nil => rfl
  | cons a l ih => unfold mCells at *; rw [List.flatMap_cons, List.length_append, ih]; simp only [List.length_cons, List.length_nil]; omega
theorem mCells_at (l : List Mo) : ∀ i, i < l.length → (mCells l)[i * 2]? = some (.int .i64 (mg l i).1) ∧ (mCells l)[i * 2 + 1]? = some (.int .i64 (mg l i).2) := by
  induction l with
  | nil => intro i h; simp at h
  | cons a l ih =>
    intro i h
    cases i with
    | zero => exact ⟨rfl, rfl⟩
    | succ i =>
      have := ih i (by simpa using h)
      rw [show (i + 1) * 2 = i * 2 + 2 by omega, show i * 2 + 2 + 1 = i * 2 + 1 + 2 by omega]
      exact this
/-- motions in memory -/
def MoR (S : Nat → Prop) (w : World) (v : Value) (l : List Mo) : Prop := SlR S w 2 v l.length (mCells l)
theorem MoR.cells {S : Nat → Prop} {w : World} {g off n cap : Nat} {l : List Mo} (h : MoR S w (.slice (some ⟨g, off, none⟩) n cap) l) {i : Nat} (hi : i < l.length) : w.cell? ⟨g, off + i * 2, none⟩ = some (.int .i64 (mg l i).1) ∧ w.cell? ⟨g, off + i * 2 + 1, none⟩ = some (.int .i64 (mg l i).2) := by
  have h0 := SlR.cellAt h rfl (j := i * 2) (by omega)
  have h1 := SlR.cellAt h rfl (j := i * 2 + 1) (by omega)
  rw [(mCells_at l i hi).1] at h0
  rw [(mCells_at l i hi).2] at h1
  exact ⟨h0, h1⟩

theorem less_x (g off cap : Nat) (l : List Mo) (n d : Int) (i j : Nat) (S : Nat → Prop) (w : World) (hm : mB l = true) (ht : vfB n d = true) (hi : i < l.length) (hj : j < l.length) (hl : l.length ≤ 100000) (hR : MoR S w (.slice (some ⟨g, off, none⟩) l.length cap) l) :
    Calls Try.prog 54 #[.slice (some ⟨g, off, none⟩) l.length cap, .agg #[.int .i64 n, .int .i64 d], .int .i64 i, .int .i64 j] w fun e w' => e = .returned (.bool (lessK l n d i j)) ∧ Ext w w' := by
  have hb := alloc0 w (.cells #[.int .i64 n, .int .i64 d] 25)
  have HZ := Lib.hid ((Upd.refl (fun _ => False) w).alloc (.cells #[.int .i64 n, .int .i64 d] 25))
  have k0 := cellRow hb 0 _ rfl
  have k1 := cellRow hb 1 _ rfl
  obtain ⟨i0, i1⟩ := hR.cells hi
  obtain ⟨j0, j1⟩ := hR.cells hj
  have i0' := HZ.out.cell i0 (fun h => h)
  have i1' := HZ.out.cell i1 (fun h => h)
  have j0' := HZ.out.cell j0 (fun h => h)
  have j1' := HZ.out.cell j1 (fun h => h)
  obtain ⟨⟨ha, ha'⟩, hs, hs'⟩ := (badM_iff _ _).1 (mB_at hm i)
  obtain ⟨⟨hc, hc'⟩, hu, hu'⟩ := (badM_iff _ _).1 (mB_at hm j)
  obtain ⟨vn, vd, vd'⟩ := vf_bd ht
  unfold lessK ps
  generalize hA : (mg l i).1 = ax at *
  generalize hB : (mg l i).2 = az at *
  generalize hC : (mg l j).1 = bx at *
  generalize hD : (mg l j).2 = bz at *
  have p1 := mul_bd (x := ax) (y := d) (by omega) vd'
  have p2 := mul_bd (x := az) (y := n) (by omega) vn
  have p3 := mul_bd (x := bx) (y := d) (by omega) vd'
  have p4 := mul_bd (x := bz) (y := n) (by omega) vn
  generalize hE : l.length = L at *
  have z1 : (0 : Int) ≤ (i : Int) := by omega
  have z2 : (i : Int) < (L : Int) := by omega
  have z3 : (0 : Int) ≤ (j : Int) := by omega
  have z4 : (j : Int) < (L : Int) := by omega
  clear hm ht hR i0 i1 j0 j1 hb
  by_cases c1 : ax * d + az * n = bx * d + bz * n
  · rw [if_pos c1]
    have tc1 : (ax * d + az * n != bx * d + bz * n) = false := by simpa using c1
    clear c1
    by_cases c2 : az = bz
    · rw [if_pos c2]
      have tc2 : (az != bz) = false := by simpa using c2
      clear c2
      go_enter Try.func54, Try.ntmps54
      go_wp2_with fail
      go_quiet (fail)
      go_wp2_with fail
      go_quiet (fail)
      go_wp2_with fail
      go_quiet (fail)
      go_wp2_with fail
      go_ret
      exact ⟨rfl, ⟨HZ.out.os, HZ.out.tape, HZ.out.output, HZ.out.size, HZ.out.block⟩⟩
    · rw [if_neg c2]
      have tc2 : (az != bz) = true := by simpa using c2
      clear c2
      go_enter Try.func54, Try.ntmps54
      go_wp2_with fail
      go_quiet (fail)
      go_wp2_with fail
      go_quiet (fail)
      go_wp2_with fail
      go_quiet (fail)
      go_wp2_with fail
      go_quiet (fail)
      go_wp2_with fail
      go_ret
      exact ⟨rfl, ⟨HZ.out.os, HZ.out.tape, HZ.out.output, HZ.out.size, HZ.out.block⟩⟩
  · rw [if_neg c1]
    have tc1 : (ax * d + az * n != bx * d + bz * n) = true := by simpa using c1
    clear c1
    go_enter Try.func54, Try.ntmps54
    go_wp2_with fail
    go_quiet (fail)
    go_wp2_with fail
    go_quiet (fail)
    go_wp2_with fail
    go_ret
    exact ⟨rfl, ⟨HZ.out.os, HZ.out.tape, HZ.out.output, HZ.out.size, HZ.out.block⟩⟩


end Go.Proofs.Ytncnojhbdkhcjaa

/- Meeting. -/
namespace Go.Proofs.Ytncnojhbdkhcjaa
open Go.RowKit Go.Hw
set_option linter.unusedVariables false
set_option linter.unusedSimpArgs false

/-- the time at which two points meet, as a fraction -/
def mtN (a b : Mo) : Int := qN (b.1 - a.1) (a.2 - b.2)
def mtD (a b : Mo) : Int := (aD (b.1 - a.1) (a.2 - b.2) : Nat)
def meetB (a b : Mo) (n d : Int) : Bool := !(a.2 == b.2) && decide (n * mtD a b < mtN a b * d)
def meetN (a b : Mo) (n d : Int) : Int := if meetB a b n d then mtN a b else 0
def meetD (a b : Mo) (n d : Int) : Int := if meetB a b n d then mtD a b else 0
theorem mt_small {a b : Mo} (ha : badM a.1 a.2 = false) (hb : badM b.1 b.2 = false) (h : a.2 ≠ b.2) :
    bigB (b.1 - a.1) (a.2 - b.2) = false ∧ a.2 - b.2 ≠ 0 ∧ aN (b.1 - a.1) (a.2 - b.2) ≤ 2097152 ∧ aD (b.1 - a.1) (a.2 - b.2) ≤ 2000 := by
  obtain ⟨⟨h1, h2⟩, h3, h4⟩ := (badM_iff _ _).1 ha
  obtain ⟨⟨h5, h6⟩, h7, h8⟩ := (badM_iff _ _).1 hb
  have e1 := aN_le (b.1 - a.1) (a.2 - b.2)
  have e2 := aD_le (b.1 - a.1) (a.2 - b.2)
  refine ⟨?_, by omega, by omega, by omega⟩
  unfold bigB
  simp only [Bool.or_eq_false_iff, decide_eq_false_iff_not]
  omega
theorem mt_mk {a b : Mo} (ha : badM a.1 a.2 = false) (hb : badM b.1 b.2 = false) (h : a.2 ≠ b.2) :
    mkN (b.1 - a.1) (a.2 - b.2) = mtN a b ∧ mkD (b.1 - a.1) (a.2 - b.2) = mtD a b ∧ mkE (b.1 - a.1) (a.2 - b.2) = 0 ∧ vfB (mtN a b) (mtD a b) = true := by
  obtain ⟨h1, h2, h3, h4⟩ := mt_small ha hb h
  refine ⟨?_, ?_, ?_, ?_⟩
  · unfold mkN mtN; rw [if_neg h2, h1]; rfl
  · unfold mkD mtD; rw [if_neg h2, h1]; rfl
  · unfold mkE; rw [if_neg h2, h1]; rfl
  · rw [vfB_iff]
    have e1 := qN_abs (b.1 - a.1) (a.2 - b.2)
    have e2 := aD_pos (num := b.1 - a.1) h2
    have e3 := cop (num := b.1 - a.1) h2
    unfold mtN mtD
    refine ⟨⟨by omega, by omega, by omega, by omega⟩, ?_⟩
    rw [e1]; simpa using e3

theorem before_x (a b c d : Int) (w : World) (hv : vfB a b = true) (hv' : vfB c d = true) : Calls Try.prog 55 #[.agg #[.int .i64 a, .int .i64 b], .agg #[.int .i64 c, .int .i64 d]] w fun e w' => e = .returned (.bool (decide (a * d < c * b))) ∧ Ext w w' := by
  obtain ⟨va, vb, vb'⟩ := vf_bd hv
  obtain ⟨vc, vd, vd'⟩ := vf_bd hv'
  have HC : Hid (∀ W, Calls Try.prog 74 #[.agg #[.int .i64 a, .int .i64 b], .agg #[.int .i64 c, .int .i64 d]] W fun e w' => e = .returned (.tuple #[.int .i64 (Lib.compareInt (a * d) (c * b)), .int .i64 0]) ∧ Ext W w') := fun W => cmp_ok a b c d W (by omega) (by omega) (by omega) (by omega) (by omega) (by omega) (by omega) (by omega) ⟨hv, hv'⟩
  have HK : Hid (decide (a * d < c * b) = decide (Lib.compareInt (a * d) (c * b) < 0)) := Lib.hid (by
    rw [cmpI_of]
    by_cases h : a * d < c * b
    · simp [h]
    · by_cases h2 : c * b < a * d <;> simp [h, h2])
  have HZ := Lib.hid (((Upd.refl (fun _ => False) w).alloc (.cells #[.int .i64 a, .int .i64 b] 25)).alloc (.cells #[.int .i64 c, .int .i64 d] 25))
  rw [HK.out]
  generalize Lib.compareInt (a * d) (c * b) = K at *
  clear HK hv hv' va vb vb' vc vd vd'
  go_enter Try.func55, Try.ntmps55
  go_wp2_with fail
  refine (HC.out _).mono ?_
  rintro e w4 ⟨rfl, hw4⟩
  have H4 := Lib.hid hw4
  clear hw4
  go_wp2_with fail
  go_ret
  exact ⟨rfl, HZ.out.ext H4.out⟩

set_option maxRecDepth 100000 in
set_option maxHeartbeats 2000000 in
theorem rmeet_x (a b : Mo) (n d : Int) (w : World) (ha : badM a.1 a.2 = false) (hb : badM b.1 b.2 = false) (ht : vfB n d = true) : Calls Try.prog 17 #[.agg #[.int .i64 a.1, .int .i64 a.2], .agg #[.int .i64 b.1, .int .i64 b.2], .agg #[.int .i64 n, .int .i64 d]] w fun e w' => e = .returned (.tuple #[.agg #[.int .i64 (meetN a b n d), .int .i64 (meetD a b n d)], (if meetB a b n d then .int .i64 0 else .int .i64 12)]) ∧ Ext w w' := by
  obtain ⟨⟨a1, a2⟩, a3, a4⟩ := (badM_iff _ _).1 ha
  obtain ⟨⟨b1, b2⟩, b3, b4⟩ := (badM_iff _ _).1 hb
  have HZ := Lib.hid (((((Upd.refl (fun _ => False) w).alloc (.cells #[.int .i64 a.1, .int .i64 a.2] 23)).alloc (.cells #[.int .i64 b.1, .int .i64 b.2] 23)).alloc (.cells #[.int .i64 n, .int .i64 d] 25)).alloc (.cells #[.int .i64 0, .int .i64 0] 25))
  have hbA := allocOld (allocOld (allocOld (alloc0 w (.cells #[.int .i64 a.1, .int .i64 a.2] 23)) (.cells #[.int .i64 b.1, .int .i64 b.2] 23)) (.cells #[.int .i64 n, .int .i64 d] 25)) (.cells #[.int .i64 0, .int .i64 0] 25)
  have hbB := allocOld (allocOld (alloc_at (w.alloc (.cells #[.int .i64 a.1, .int .i64 a.2] 23)) (.cells #[.int .i64 b.1, .int .i64 b.2] 23) (n := w.heap.size + 1) (by simp)) (.cells #[.int .i64 n, .int .i64 d] 25)) (.cells #[.int .i64 0, .int .i64 0] 25)
  have hbC := allocOld (alloc_at ((w.alloc (.cells #[.int .i64 a.1, .int .i64 a.2] 23)).alloc (.cells #[.int .i64 b.1, .int .i64 b.2] 23)) (.cells #[.int .i64 n, .int .i64 d] 25) (n := w.heap.size + 2) (by simp)) (.cells #[.int .i64 0, .int .i64 0] 25)
  have hbD := alloc_at (((w.alloc (.cells #[.int .i64 a.1, .int .i64 a.2] 23)).alloc (.cells #[.int .i64 b.1, .int .i64 b.2] 23)).alloc (.cells #[.int .i64 n, .int .i64 d] 25)) (.cells #[.int .i64 0, .int .i64 0] 25) (n := w.heap.size + 3) (by simp)
  have HL : Hid ((((((w.alloc (.cells #[.int .i64 a.1, .int .i64 a.2] 23)).alloc (.cells #[.int .i64 b.1, .int .i64 b.2] 23)).alloc (.cells #[.int .i64 n, .int .i64 d] 25)).alloc (.cells #[.int .i64 0, .int .i64 0] 25)).heap.size = w.heap.size + 4)) := Lib.hid (by simp)
  have HX : Hid (∀ W, Ext ((((w.alloc (.cells #[.int .i64 a.1, .int .i64 a.2] 23)).alloc (.cells #[.int .i64 b.1, .int .i64 b.2] 23)).alloc (.cells #[.int .i64 n, .int .i64 d] 25)).alloc (.cells #[.int .i64 0, .int .i64 0] 25)) W →
      W.cell? ⟨w.heap.size, 0, none⟩ = some (.int .i64 a.1) ∧ W.cell? ⟨w.heap.size, 1, none⟩ = some (.int .i64 a.2) ∧ W.cell? ⟨w.heap.size + 1, 0, none⟩ = some (.int .i64 b.1) ∧ W.cell? ⟨w.heap.size + 1, 1, none⟩ = some (.int .i64 b.2) ∧ W.cell? ⟨w.heap.size + 2, 0, none⟩ = some (.int .i64 n) ∧ W.cell? ⟨w.heap.size + 2, 1, none⟩ = some (.int .i64 d) ∧
      W.cell? ⟨w.heap.size + 3, 0, none⟩ = some (.int .i64 0) ∧ W.cell? ⟨w.heap.size + 3, 1, none⟩ = some (.int .i64 0) ∧ W.frozen? ⟨w.heap.size + 3, 0, none⟩ = false ∧ W.frozen? ⟨w.heap.size + 3, 1, none⟩ = false) := Lib.hid (fun W hW =>
    ⟨cellRow (hW.heap hbA (fun h => h)) 0 _ rfl, cellRow (hW.heap hbA (fun h => h)) 1 _ rfl, cellRow (hW.heap hbB (fun h => h)) 0 _ rfl, cellRow (hW.heap hbB (fun h => h)) 1 _ rfl, cellRow (hW.heap hbC (fun h => h)) 0 _ rfl, cellRow (hW.heap hbC (fun h => h)) 1 _ rfl,
      cellRow (hW.heap hbD (fun h => h)) 0 _ rfl, cellRow (hW.heap hbD (fun h => h)) 1 _ rfl, frozenRow (hW.heap hbD (fun h => h)) 0, frozenRow (hW.heap hbD (fun h => h)) 1⟩)
  clear hbA hbB hbC hbD
  have h3 : w.heap.size ≤ w.heap.size + 1 + 1 + 1 := by omega
  obtain ⟨k0, k1, k2, k3, k4, k5, k6, k7, f0, f1⟩ := HX.out _ (Upd.refl _ _)
  by_cases hs : a.2 = b.2
  · have hf : meetB a b n d = false := by unfold meetB; rw [beq_iff_eq.2 hs]; rfl
    rw [hf, show meetN a b n d = 0 by unfold meetN; rw [hf]; rfl, show meetD a b n d = 0 by unfold meetD; rw [hf]; rfl]
    have t1 : (a.2 == b.2) = true := beq_iff_eq.2 hs
    clear hs HX HL ha hb
    go_enter Try.func17, Try.ntmps17
    go_wp2_with fail
    exact bodyPost_ret (v := .tuple #[.agg #[.int .i64 0, .int .i64 0], .int .i64 12]) (by simp [results, Try.results17, go_sem, *]) rfl ⟨rfl, by first | exact HZ.out | exact (HZ.out.setNew h3 _).setNew h3 _⟩
  · obtain ⟨e1, e2, e3, e4⟩ := mt_mk ha hb hs
    have t1 : (a.2 == b.2) = false := beq_eq_false_iff_ne.2 hs
    have HC : Hid (∀ W, Calls Try.prog 53 #[.int .i64 (b.1 - a.1), .int .i64 (a.2 - b.2)] W fun e w' => e = .returned (.tuple #[.agg #[.int .i64 (mtN a b), .int .i64 (mtD a b)], .int .i64 0]) ∧ Ext W w') := Lib.hid (fun W => by
      have := rmk_x (b.1 - a.1) (a.2 - b.2) W (by omega) (by omega) (by omega) (by omega)
      rw [e1, e2, e3] at this
      exact this)
    have HD : Hid (∀ W, Calls Try.prog 30 #[.agg #[.int .i64 (mtN a b), .int .i64 (mtD a b)], .agg #[.int .i64 n, .int .i64 d]] W fun e w' => e = .returned (.int .i64 (Lib.compareInt (mtN a b * d) (n * mtD a b))) ∧ Ext W w') := Lib.hid (fun W => rcmp_ok _ _ n d W ⟨e4, ht⟩)
    have HK : Hid ((n * mtD a b < mtN a b * d → decide (Lib.compareInt (mtN a b * d) (n * mtD a b) ≤ 0) = false) ∧ (¬ n * mtD a b < mtN a b * d → decide (Lib.compareInt (mtN a b * d) (n * mtD a b) ≤ 0) = true)) := Lib.hid (by
      rw [cmpI_of]
      refine ⟨fun h => ?_, fun h => ?_⟩
      · rw [if_neg (by omega), if_pos h]; decide
      · rw [if_neg h]; split <;> decide)
    generalize Lib.compareInt (mtN a b * d) (n * mtD a b) = KK at *
    have hf : meetB a b n d = decide (n * mtD a b < mtN a b * d) := by unfold meetB; rw [t1]; rfl
    unfold meetN meetD
    rw [hf]
    clear hf ha hb hs e1 e2 e3 e4
    generalize mtN a b = X at *
    generalize mtD a b = Y at *
    go_enter Try.func17, Try.ntmps17
    go_wp2_with fail
    refine (HC.out _).mono ?_
    rintro e w4 ⟨rfl, hw4⟩
    have H4 := Lib.hid hw4
    have HS4 := Lib.hid hw4.size
    have hbE := alloc0 w4 (.cells #[.int .i64 X, .int .i64 Y] 25)
    have H5 := Lib.hid (hw4.alloc (.cells #[.int .i64 X, .int .i64 Y] 25))
    have HY : Hid (∀ W, Ext (w4.alloc (.cells #[.int .i64 X, .int .i64 Y] 25)) W → W.cell? ⟨w4.heap.size, 0, none⟩ = some (.int .i64 X) ∧ W.cell? ⟨w4.heap.size, 1, none⟩ = some (.int .i64 Y)) := Lib.hid (fun W hW => ⟨cellRow (hW.heap hbE (fun h => h)) 0 _ rfl, cellRow (hW.heap hbE (fun h => h)) 1 _ rfl⟩)
    clear hw4 hbE k0 k1 k2 k3 k4 k5 k6 k7 f0 f1
    obtain ⟨k0, k1, k2, k3, k4, k5, k6, k7, f0, f1⟩ := HX.out _ H5.out
    obtain ⟨x0, x1⟩ := HY.out _ (Upd.refl _ _)
    go_wp2_with fail
    refine (HD.out _).mono ?_
    rintro e w6 ⟨rfl, hw6⟩
    have H6 := Lib.hid (H5.out.ext hw6)
    clear k0 k1 k2 k3 k4 k5 k6 k7 f0 f1 x0 x1
    obtain ⟨k0, k1, k2, k3, k4, k5, k6, k7, f0, f1⟩ := HX.out _ H6.out
    obtain ⟨x0, x1⟩ := HY.out _ hw6
    have HS6 := Lib.hid hw6.size
    have HN : Hid (w4.heap.size ≠ w.heap.size + 3) := Lib.hid (by have := HS4.out; have := HL.out; omega)
    have HF := Lib.hid (HZ.out.ext H6.out)
    clear hw6
    by_cases hlt : n * Y < X * d
    · have t2 : decide (KK ≤ 0) = false := HK.out.1 hlt
      have t3 : decide (n * Y < X * d) = true := decide_eq_true hlt
      try rw [decide_eq_true hlt]
      clear hlt
      go_wp2_with fail
      exact bodyPost_ret (v := .tuple #[.agg #[.int .i64 X, .int .i64 Y], .int .i64 0]) (by simp [results, Try.results17, go_sem, *]) rfl ⟨rfl, (HF.out.setNew h3 _).setNew h3 _⟩
    · have t2 : decide (KK ≤ 0) = true := HK.out.2 (by omega)
      have t3 : decide (n * Y < X * d) = false := decide_eq_false hlt
      try rw [decide_eq_false hlt]
      clear hlt
      go_wp2_with fail
      all_goals exact bodyPost_ret (v := .tuple #[.agg #[.int .i64 0, .int .i64 0], .int .i64 12]) (by simp [results, Try.results17, go_sem, *]) rfl ⟨rfl, by first | exact HF.out | exact (HF.out.setNew h3 _).setNew h3 _⟩

set_option maxRecDepth 100000 in
set_option maxHeartbeats 2000000 in
theorem meet_x (a b : Mo) (n d : Int) (w : World) (ha : badM a.1 a.2 = false) (hb : badM b.1 b.2 = false) (ht : vfB n d = true) : Calls Try.prog 50 #[.agg #[.int .i64 a.1, .int .i64 a.2], .agg #[.int .i64 b.1, .int .i64 b.2], .agg #[.int .i64 n, .int .i64 d]] w fun e w' => e = .returned (.tuple #[.agg #[.int .i64 (meetN a b n d), .int .i64 (meetD a b n d)], (if meetB a b n d then .bool true else .bool false)]) ∧ Ext w w' := by
  obtain ⟨⟨a1, a2⟩, a3, a4⟩ := (badM_iff _ _).1 ha
  obtain ⟨⟨b1, b2⟩, b3, b4⟩ := (badM_iff _ _).1 hb
  have HZ := Lib.hid (((((Upd.refl (fun _ => False) w).alloc (.cells #[.int .i64 a.1, .int .i64 a.2] 23)).alloc (.cells #[.int .i64 b.1, .int .i64 b.2] 23)).alloc (.cells #[.int .i64 n, .int .i64 d] 25)).alloc (.cells #[.int .i64 0, .int .i64 0] 25))
  have hbA := allocOld (allocOld (allocOld (alloc0 w (.cells #[.int .i64 a.1, .int .i64 a.2] 23)) (.cells #[.int .i64 b.1, .int .i64 b.2] 23)) (.cells #[.int .i64 n, .int .i64 d] 25)) (.cells #[.int .i64 0, .int .i64 0] 25)
  have hbB := allocOld (allocOld (alloc_at (w.alloc (.cells #[.int .i64 a.1, .int .i64 a.2] 23)) (.cells #[.int .i64 b.1, .int .i64 b.2] 23) (n := w.heap.size + 1) (by simp)) (.cells #[.int .i64 n, .int .i64 d] 25)) (.cells #[.int .i64 0, .int .i64 0] 25)
  have hbC := allocOld (alloc_at ((w.alloc (.cells #[.int .i64 a.1, .int .i64 a.2] 23)).alloc (.cells #[.int .i64 b.1, .int .i64 b.2] 23)) (.cells #[.int .i64 n, .int .i64 d] 25) (n := w.heap.size + 2) (by simp)) (.cells #[.int .i64 0, .int .i64 0] 25)
  have hbD := alloc_at (((w.alloc (.cells #[.int .i64 a.1, .int .i64 a.2] 23)).alloc (.cells #[.int .i64 b.1, .int .i64 b.2] 23)).alloc (.cells #[.int .i64 n, .int .i64 d] 25)) (.cells #[.int .i64 0, .int .i64 0] 25) (n := w.heap.size + 3) (by simp)
  have HL : Hid ((((((w.alloc (.cells #[.int .i64 a.1, .int .i64 a.2] 23)).alloc (.cells #[.int .i64 b.1, .int .i64 b.2] 23)).alloc (.cells #[.int .i64 n, .int .i64 d] 25)).alloc (.cells #[.int .i64 0, .int .i64 0] 25)).heap.size = w.heap.size + 4)) := Lib.hid (by simp)
  have HX : Hid (∀ W, Ext ((((w.alloc (.cells #[.int .i64 a.1, .int .i64 a.2] 23)).alloc (.cells #[.int .i64 b.1, .int .i64 b.2] 23)).alloc (.cells #[.int .i64 n, .int .i64 d] 25)).alloc (.cells #[.int .i64 0, .int .i64 0] 25)) W →
      W.cell? ⟨w.heap.size, 0, none⟩ = some (.int .i64 a.1) ∧ W.cell? ⟨w.heap.size, 1, none⟩ = some (.int .i64 a.2) ∧ W.cell? ⟨w.heap.size + 1, 0, none⟩ = some (.int .i64 b.1) ∧ W.cell? ⟨w.heap.size + 1, 1, none⟩ = some (.int .i64 b.2) ∧ W.cell? ⟨w.heap.size + 2, 0, none⟩ = some (.int .i64 n) ∧ W.cell? ⟨w.heap.size + 2, 1, none⟩ = some (.int .i64 d) ∧
      W.cell? ⟨w.heap.size + 3, 0, none⟩ = some (.int .i64 0) ∧ W.cell? ⟨w.heap.size + 3, 1, none⟩ = some (.int .i64 0) ∧ W.frozen? ⟨w.heap.size + 3, 0, none⟩ = false ∧ W.frozen? ⟨w.heap.size + 3, 1, none⟩ = false) := Lib.hid (fun W hW =>
    ⟨cellRow (hW.heap hbA (fun h => h)) 0 _ rfl, cellRow (hW.heap hbA (fun h => h)) 1 _ rfl, cellRow (hW.heap hbB (fun h => h)) 0 _ rfl, cellRow (hW.heap hbB (fun h => h)) 1 _ rfl, cellRow (hW.heap hbC (fun h => h)) 0 _ rfl, cellRow (hW.heap hbC (fun h => h)) 1 _ rfl,
      cellRow (hW.heap hbD (fun h => h)) 0 _ rfl, cellRow (hW.heap hbD (fun h => h)) 1 _ rfl, frozenRow (hW.heap hbD (fun h => h)) 0, frozenRow (hW.heap hbD (fun h => h)) 1⟩)
  clear hbA hbB hbC hbD
  have h3 : w.heap.size ≤ w.heap.size + 1 + 1 + 1 := by omega
  obtain ⟨k0, k1, k2, k3, k4, k5, k6, k7, f0, f1⟩ := HX.out _ (Upd.refl _ _)
  by_cases hs : a.2 = b.2
  · have hf : meetB a b n d = false := by unfold meetB; rw [beq_iff_eq.2 hs]; rfl
    rw [hf, show meetN a b n d = 0 by unfold meetN; rw [hf]; rfl, show meetD a b n d = 0 by unfold meetD; rw [hf]; rfl]
    have t1 : (a.2 == b.2) = true := beq_iff_eq.2 hs
    clear hs HX HL ha hb
    go_enter Try.func50, Try.ntmps50
    go_wp2_with fail
    exact bodyPost_ret (v := .tuple #[.agg #[.int .i64 0, .int .i64 0], .bool false]) (by simp [results, Try.results50, go_sem, *]) rfl ⟨rfl, by first | exact HZ.out | exact (HZ.out.setNew h3 _).setNew h3 _⟩
  · obtain ⟨e1, e2, e3, e4⟩ := mt_mk ha hb hs
    have t1 : (a.2 == b.2) = false := beq_eq_false_iff_ne.2 hs
    have HC : Hid (∀ W, Calls Try.prog 48 #[.int .i64 (b.1 - a.1), .int .i64 (a.2 - b.2)] W fun e w' => e = .returned (.tuple #[.agg #[.int .i64 (mtN a b), .int .i64 (mtD a b)], .int .i64 0]) ∧ Ext W w') := Lib.hid (fun W => by
      have := mk_x (b.1 - a.1) (a.2 - b.2) W (by omega) (by omega) (by omega) (by omega)
      rw [e1, e2, e3] at this
      exact this)
    have HD : Hid (∀ W, Calls Try.prog 55 #[.agg #[.int .i64 n, .int .i64 d], .agg #[.int .i64 (mtN a b), .int .i64 (mtD a b)]] W fun e w' => e = .returned (.bool (decide (n * mtD a b < mtN a b * d))) ∧ Ext W w') := Lib.hid (fun W => before_x n d _ _ W ht e4)
    have hf : meetB a b n d = decide (n * mtD a b < mtN a b * d) := by unfold meetB; rw [t1]; rfl
    unfold meetN meetD
    rw [hf]
    clear hf ha hb hs e1 e2 e3 e4
    generalize mtN a b = X at *
    generalize mtD a b = Y at *
    go_enter Try.func50, Try.ntmps50
    go_wp2_with fail
    refine (HC.out _).mono ?_
    rintro e w4 ⟨rfl, hw4⟩
    have H4 := Lib.hid hw4
    have HS4 := Lib.hid hw4.size
    have hbE := alloc0 w4 (.cells #[.int .i64 X, .int .i64 Y] 25)
    have H5 := Lib.hid (hw4.alloc (.cells #[.int .i64 X, .int .i64 Y] 25))
    have HY : Hid (∀ W, Ext (w4.alloc (.cells #[.int .i64 X, .int .i64 Y] 25)) W → W.cell? ⟨w4.heap.size, 0, none⟩ = some (.int .i64 X) ∧ W.cell? ⟨w4.heap.size, 1, none⟩ = some (.int .i64 Y)) := Lib.hid (fun W hW => ⟨cellRow (hW.heap hbE (fun h => h)) 0 _ rfl, cellRow (hW.heap hbE (fun h => h)) 1 _ rfl⟩)
    clear hw4 hbE k0 k1 k2 k3 k4 k5 k6 k7 f0 f1
    obtain ⟨k0, k1, k2, k3, k4, k5, k6, k7, f0, f1⟩ := HX.out _ H5.out
    obtain ⟨x0, x1⟩ := HY.out _ (Upd.refl _ _)
    go_wp2_with fail
    refine (HD.out _).mono ?_
    rintro e w6 ⟨rfl, hw6⟩
    have H6 := Lib.hid (H5.out.ext hw6)
    clear k0 k1 k2 k3 k4 k5 k6 k7 f0 f1 x0 x1
    obtain ⟨k0, k1, k2, k3, k4, k5, k6, k7, f0, f1⟩ := HX.out _ H6.out
    obtain ⟨x0, x1⟩ := HY.out _ hw6
    have HS6 := Lib.hid hw6.size
    have HN : Hid (w4.heap.size ≠ w.heap.size + 3) := Lib.hid (by have := HS4.out; have := HL.out; omega)
    have HF := Lib.hid (HZ.out.ext H6.out)
    clear hw6
    by_cases hlt : n * Y < X * d
    · have t2 : decide (n * Y < X * d) = true := decide_eq_true hlt
      have t3 : decide (n * Y < X * d) = true := decide_eq_true hlt
      try rw [decide_eq_true hlt]
      clear hlt
      go_wp2_with fail
      exact bodyPost_ret (v := .tuple #[.agg #[.int .i64 X, .int .i64 Y], .bool true]) (by simp [results, Try.results50, go_sem, *]) rfl ⟨rfl, (HF.out.setNew h3 _).setNew h3 _⟩
    · have t2 : decide (n * Y < X * d) = false := decide_eq_false hlt
      have t3 : decide (n * Y < X * d) = false := decide_eq_false hlt
      try rw [decide_eq_false hlt]
      clear hlt
      go_wp2_with fail
      all_goals exact bodyPost_ret (v := .tuple #[.agg #[.int .i64 0, .int .i64 0], .bool false]) (by simp [results, Try.results50, go_sem, *]) rfl ⟨rfl, by first | exact HF.out | exact (HF.out.setNew h3 _).setNew h3 _⟩

end Go.Proofs.Ytncnojhbdkhcjaa

/- At. -/
namespace Go.Proofs.Ytncnojhbdkhcjaa
open Go.RowKit Go.Hw
set_option linter.unusedVariables false
set_option linter.unusedSimpArgs false
set_option maxRecDepth 100000 in
set_option maxHeartbeats 2000000 in
theorem at_bad1 (a s n d : Int) (w : World) (hb : badM a s = true) : Calls Try.prog 11 #[.agg #[.int .i64 a, .int .i64 s], .agg #[.int .i64 n, .int .i64 d]] w fun e w' => e = .returned (.tuple #[.agg #[.int .i64 0, .int .i64 0], .int .i64 1]) ∧ Ext w w' := by
  have HB : Hid (∀ W, Calls Try.prog 46 #[.agg #[.int .i64 a, .int .i64 s]] W fun e w' => e = .returned (.bool true) ∧ Ext W w') := Lib.hid (fun W => by have := bad_x a s W; rw [hb] at this; exact this)
  have HZ := Lib.hid ((((Upd.refl (fun _ => False) w).alloc (.cells #[.int .i64 a, .int .i64 s] 23)).alloc (.cells #[.int .i64 n, .int .i64 d] 25)).alloc (.cells #[.int .i64 0, .int .i64 0] 25))
  have hb0 := allocOld (allocOld (alloc0 w (.cells #[.int .i64 a, .int .i64 s] 23)) (.cells #[.int .i64 n, .int .i64 d] 25)) (.cells #[.int .i64 0, .int .i64 0] 25)
  have hb1 := allocOld (alloc_at (w.alloc (.cells #[.int .i64 a, .int .i64 s] 23)) (.cells #[.int .i64 n, .int .i64 d] 25) (n := w.heap.size + 1) (by simp)) (.cells #[.int .i64 0, .int .i64 0] 25)
  have hb2 := alloc_at ((w.alloc (.cells #[.int .i64 a, .int .i64 s] 23)).alloc (.cells #[.int .i64 n, .int .i64 d] 25)) (.cells #[.int .i64 0, .int .i64 0] 25) (n := w.heap.size + 2) (by simp)
  have HL : Hid ((((w.alloc (.cells #[.int .i64 a, .int .i64 s] 23)).alloc (.cells #[.int .i64 n, .int .i64 d] 25)).alloc (.cells #[.int .i64 0, .int .i64 0] 25)).heap.size = w.heap.size + 3) := Lib.hid (by simp)
  have HX : Hid (∀ W, Ext (((w.alloc (.cells #[.int .i64 a, .int .i64 s] 23)).alloc (.cells #[.int .i64 n, .int .i64 d] 25)).alloc (.cells #[.int .i64 0, .int .i64 0] 25)) W → W.cell? ⟨w.heap.size, 0, none⟩ = some (.int .i64 a) ∧ W.cell? ⟨w.heap.size, 1, none⟩ = some (.int .i64 s) ∧ W.cell? ⟨w.heap.size + 1, 0, none⟩ = some (.int .i64 n) ∧ W.cell? ⟨w.heap.size + 1, 1, none⟩ = some (.int .i64 d) ∧ W.cell? ⟨w.heap.size + 2, 0, none⟩ = some (.int .i64 0) ∧ W.cell? ⟨w.heap.size + 2, 1, none⟩ = some (.int .i64 0) ∧ W.frozen? ⟨w.heap.size + 2, 0, none⟩ = false ∧ W.frozen? ⟨w.heap.size + 2, 1, none⟩ = false) := Lib.hid (fun W hW => ⟨cellRow (hW.heap hb0 (fun h => h)) 0 _ rfl, cellRow (hW.heap hb0 (fun h => h)) 1 _ rfl, cellRow (hW.heap hb1 (fun h => h)) 0 _ rfl, cellRow (hW.heap hb1 (fun h => h)) 1 _ rfl, cellRow (hW.heap hb2 (fun h => h)) 0 _ rfl, cellRow (hW.heap hb2 (fun h => h)) 1 _ rfl, frozenRow (hW.heap hb2 (fun h => h)) 0, frozenRow (hW.heap hb2 (fun h => h)) 1⟩)
  clear hb0 hb1 hb2
  have hle1 : w.heap.size ≤ w.heap.size + 1 := by omega
  have hle2 : w.heap.size ≤ w.heap.size + 1 + 1 := by omega
  obtain ⟨k00, k01, k10, k11, k20, k21, f20, f21⟩ := HX.out _ (Upd.refl _ _)
  go_enter Try.func11, Try.ntmps11
  go_wp2_with fail
  refine (HB.out _).mono ?_
  rintro e w4 ⟨rfl, hw4⟩
  have H4 := Lib.hid (hw4)
  clear hw4
  clear k00 k01 k10 k11 k20 k21 f20 f21
  obtain ⟨k00, k01, k10, k11, k20, k21, f20, f21⟩ := HX.out _ H4.out
  go_wp2_with fail
  all_goals exact bodyPost_ret (v := .tuple #[.agg #[.int .i64 0, .int .i64 0], .int .i64 1]) (by simp [results, Try.results11, go_sem, *]) rfl ⟨rfl, by first | exact (HZ.out.ext H4.out) | exact ((HZ.out.ext H4.out).setNew hle2 _).setNew hle2 _⟩

set_option maxRecDepth 100000 in
set_option maxHeartbeats 2000000 in
theorem at_bad2 (a s n d : Int) (w : World) (n0 : -9223372036854775808 ≤ n) (n1 : n ≤ 9223372036854775807) (d0 : -9223372036854775808 ≤ d) (d1 : d ≤ 9223372036854775807) (hb : badM a s = false) (ht : timeB n d = false) : Calls Try.prog 11 #[.agg #[.int .i64 a, .int .i64 s], .agg #[.int .i64 n, .int .i64 d]] w fun e w' => e = .returned (.tuple #[.agg #[.int .i64 0, .int .i64 0], .int .i64 1]) ∧ Ext w w' := by
  have HB : Hid (∀ W, Calls Try.prog 46 #[.agg #[.int .i64 a, .int .i64 s]] W fun e w' => e = .returned (.bool false) ∧ Ext W w') := Lib.hid (fun W => by have := bad_x a s W; rw [hb] at this; exact this)
  have HT : Hid (∀ W, Calls Try.prog 47 #[.agg #[.int .i64 n, .int .i64 d]] W fun e w' => e = .returned (.bool false) ∧ Ext W w') := Lib.hid (fun W => by have := time_x n d W n0 n1 d0 d1; rw [ht] at this; exact this)
  have HZ := Lib.hid ((((Upd.refl (fun _ => False) w).alloc (.cells #[.int .i64 a, .int .i64 s] 23)).alloc (.cells #[.int .i64 n, .int .i64 d] 25)).alloc (.cells #[.int .i64 0, .int .i64 0] 25))
  have hb0 := allocOld (allocOld (alloc0 w (.cells #[.int .i64 a, .int .i64 s] 23)) (.cells #[.int .i64 n, .int .i64 d] 25)) (.cells #[.int .i64 0, .int .i64 0] 25)
  have hb1 := allocOld (alloc_at (w.alloc (.cells #[.int .i64 a, .int .i64 s] 23)) (.cells #[.int .i64 n, .int .i64 d] 25) (n := w.heap.size + 1) (by simp)) (.cells #[.int .i64 0, .int .i64 0] 25)
  have hb2 := alloc_at ((w.alloc (.cells #[.int .i64 a, .int .i64 s] 23)).alloc (.cells #[.int .i64 n, .int .i64 d] 25)) (.cells #[.int .i64 0, .int .i64 0] 25) (n := w.heap.size + 2) (by simp)
  have HL : Hid ((((w.alloc (.cells #[.int .i64 a, .int .i64 s] 23)).alloc (.cells #[.int .i64 n, .int .i64 d] 25)).alloc (.cells #[.int .i64 0, .int .i64 0] 25)).heap.size = w.heap.size + 3) := Lib.hid (by simp)
  have HX : Hid (∀ W, Ext (((w.alloc (.cells #[.int .i64 a, .int .i64 s] 23)).alloc (.cells #[.int .i64 n, .int .i64 d] 25)).alloc (.cells #[.int .i64 0, .int .i64 0] 25)) W → W.cell? ⟨w.heap.size, 0, none⟩ = some (.int .i64 a) ∧ W.cell? ⟨w.heap.size, 1, none⟩ = some (.int .i64 s) ∧ W.cell? ⟨w.heap.size + 1, 0, none⟩ = some (.int .i64 n) ∧ W.cell? ⟨w.heap.size + 1, 1, none⟩ = some (.int .i64 d) ∧ W.cell? ⟨w.heap.size + 2, 0, none⟩ = some (.int .i64 0) ∧ W.cell? ⟨w.heap.size + 2, 1, none⟩ = some (.int .i64 0) ∧ W.frozen? ⟨w.heap.size + 2, 0, none⟩ = false ∧ W.frozen? ⟨w.heap.size + 2, 1, none⟩ = false) := Lib.hid (fun W hW => ⟨cellRow (hW.heap hb0 (fun h => h)) 0 _ rfl, cellRow (hW.heap hb0 (fun h => h)) 1 _ rfl, cellRow (hW.heap hb1 (fun h => h)) 0 _ rfl, cellRow (hW.heap hb1 (fun h => h)) 1 _ rfl, cellRow (hW.heap hb2 (fun h => h)) 0 _ rfl, cellRow (hW.heap hb2 (fun h => h)) 1 _ rfl, frozenRow (hW.heap hb2 (fun h => h)) 0, frozenRow (hW.heap hb2 (fun h => h)) 1⟩)
  clear hb0 hb1 hb2
  have hle1 : w.heap.size ≤ w.heap.size + 1 := by omega
  have hle2 : w.heap.size ≤ w.heap.size + 1 + 1 := by omega
  obtain ⟨k00, k01, k10, k11, k20, k21, f20, f21⟩ := HX.out _ (Upd.refl _ _)
  go_enter Try.func11, Try.ntmps11
  go_wp2_with fail
  refine (HB.out _).mono ?_
  rintro e w4 ⟨rfl, hw4⟩
  have H4 := Lib.hid (hw4)
  clear hw4
  clear k00 k01 k10 k11 k20 k21 f20 f21
  obtain ⟨k00, k01, k10, k11, k20, k21, f20, f21⟩ := HX.out _ H4.out
  go_wp2_with fail
  refine (HT.out _).mono ?_
  rintro e w5 ⟨rfl, hw5⟩
  have H5 := Lib.hid (H4.out.ext hw5)
  clear hw5
  clear k00 k01 k10 k11 k20 k21 f20 f21
  obtain ⟨k00, k01, k10, k11, k20, k21, f20, f21⟩ := HX.out _ H5.out
  go_wp2_with fail
  all_goals exact bodyPost_ret (v := .tuple #[.agg #[.int .i64 0, .int .i64 0], .int .i64 1]) (by simp [results, Try.results11, go_sem, *]) rfl ⟨rfl, by first | exact (HZ.out.ext H5.out) | exact ((HZ.out.ext H5.out).setNew hle2 _).setNew hle2 _⟩

set_option maxRecDepth 100000 in
set_option maxHeartbeats 2000000 in
theorem at_ok (a s n d : Int) (w : World) (hb : badM a s = false) (ht : timeB n d = true) : Calls Try.prog 11 #[.agg #[.int .i64 a, .int .i64 s], .agg #[.int .i64 n, .int .i64 d]] w fun e w' => e = .returned (.tuple #[.agg #[.int .i64 (mkN (a * d + s * n) d), .int .i64 (mkD (a * d + s * n) d)], .int .i64 (mkE (a * d + s * n) d)]) ∧ Ext w w' := by
  obtain ⟨hv, hn⟩ := (timeB_iff _ _).1 ht
  obtain ⟨⟨h1, h2⟩, h3, h4⟩ := (badM_iff _ _).1 hb
  obtain ⟨vn, vd, vd'⟩ := vf_bd hv
  have n0 : -9223372036854775808 ≤ n := by omega
  have n1 : n ≤ 9223372036854775807 := by omega
  have d0 : -9223372036854775808 ≤ d := by omega
  have d1 : d ≤ 9223372036854775807 := by omega
  have pad := mul_bd (x := a) (y := d) (by omega) vd'
  have psn := mul_bd (x := s) (y := n) (by omega) vn
  have HB : Hid (∀ W, Calls Try.prog 46 #[.agg #[.int .i64 a, .int .i64 s]] W fun e w' => e = .returned (.bool false) ∧ Ext W w') := Lib.hid (fun W => by have := bad_x a s W; rw [hb] at this; exact this)
  have HT : Hid (∀ W, Calls Try.prog 47 #[.agg #[.int .i64 n, .int .i64 d]] W fun e w' => e = .returned (.bool true) ∧ Ext W w') := Lib.hid (fun W => by have := time_x n d W n0 n1 d0 d1; rw [ht] at this; exact this)
  have HS : Hid (∀ W, Calls Try.prog 49 #[.agg #[.int .i64 a, .int .i64 s], .agg #[.int .i64 n, .int .i64 d]] W fun e w' => e = .returned (.int .i64 (a * d + s * n)) ∧ Ext W w') := Lib.hid (fun W => (scaled_x a s n d W hb hv).mono fun e w' ⟨h, h'⟩ => ⟨h, h' ▸ ((Upd.refl _ W).alloc _).alloc _⟩)
  have HM : Hid (∀ W, Calls Try.prog 48 #[.int .i64 (a * d + s * n), .int .i64 d] W fun e w' => e = .returned (.tuple #[.agg #[.int .i64 (mkN (a * d + s * n) d), .int .i64 (mkD (a * d + s * n) d)], .int .i64 (mkE (a * d + s * n) d)]) ∧ Ext W w') := Lib.hid (fun W => mk_x _ _ W (by omega) (by omega) (by omega) (by omega))
  generalize mkN (a * d + s * n) d = X at *
  generalize mkD (a * d + s * n) d = Y at *
  generalize mkE (a * d + s * n) d = E at *
  generalize a * d + s * n = Z at *
  clear pad psn vn vd vd' h1 h2 h3 h4 hv hn hb ht n0 n1 d0 d1
  have HZ := Lib.hid ((((Upd.refl (fun _ => False) w).alloc (.cells #[.int .i64 a, .int .i64 s] 23)).alloc (.cells #[.int .i64 n, .int .i64 d] 25)).alloc (.cells #[.int .i64 0, .int .i64 0] 25))
  have hb0 := allocOld (allocOld (alloc0 w (.cells #[.int .i64 a, .int .i64 s] 23)) (.cells #[.int .i64 n, .int .i64 d] 25)) (.cells #[.int .i64 0, .int .i64 0] 25)
  have hb1 := allocOld (alloc_at (w.alloc (.cells #[.int .i64 a, .int .i64 s] 23)) (.cells #[.int .i64 n, .int .i64 d] 25) (n := w.heap.size + 1) (by simp)) (.cells #[.int .i64 0, .int .i64 0] 25)
  have hb2 := alloc_at ((w.alloc (.cells #[.int .i64 a, .int .i64 s] 23)).alloc (.cells #[.int .i64 n, .int .i64 d] 25)) (.cells #[.int .i64 0, .int .i64 0] 25) (n := w.heap.size + 2) (by simp)
  have HL : Hid ((((w.alloc (.cells #[.int .i64 a, .int .i64 s] 23)).alloc (.cells #[.int .i64 n, .int .i64 d] 25)).alloc (.cells #[.int .i64 0, .int .i64 0] 25)).heap.size = w.heap.size + 3) := Lib.hid (by simp)
  have HX : Hid (∀ W, Ext (((w.alloc (.cells #[.int .i64 a, .int .i64 s] 23)).alloc (.cells #[.int .i64 n, .int .i64 d] 25)).alloc (.cells #[.int .i64 0, .int .i64 0] 25)) W → W.cell? ⟨w.heap.size, 0, none⟩ = some (.int .i64 a) ∧ W.cell? ⟨w.heap.size, 1, none⟩ = some (.int .i64 s) ∧ W.cell? ⟨w.heap.size + 1, 0, none⟩ = some (.int .i64 n) ∧ W.cell? ⟨w.heap.size + 1, 1, none⟩ = some (.int .i64 d) ∧ W.cell? ⟨w.heap.size + 2, 0, none⟩ = some (.int .i64 0) ∧ W.cell? ⟨w.heap.size + 2, 1, none⟩ = some (.int .i64 0) ∧ W.frozen? ⟨w.heap.size + 2, 0, none⟩ = false ∧ W.frozen? ⟨w.heap.size + 2, 1, none⟩ = false) := Lib.hid (fun W hW => ⟨cellRow (hW.heap hb0 (fun h => h)) 0 _ rfl, cellRow (hW.heap hb0 (fun h => h)) 1 _ rfl, cellRow (hW.heap hb1 (fun h => h)) 0 _ rfl, cellRow (hW.heap hb1 (fun h => h)) 1 _ rfl, cellRow (hW.heap hb2 (fun h => h)) 0 _ rfl, cellRow (hW.heap hb2 (fun h => h)) 1 _ rfl, frozenRow (hW.heap hb2 (fun h => h)) 0, frozenRow (hW.heap hb2 (fun h => h)) 1⟩)
  clear hb0 hb1 hb2
  have hle1 : w.heap.size ≤ w.heap.size + 1 := by omega
  have hle2 : w.heap.size ≤ w.heap.size + 1 + 1 := by omega
  obtain ⟨k00, k01, k10, k11, k20, k21, f20, f21⟩ := HX.out _ (Upd.refl _ _)
  go_enter Try.func11, Try.ntmps11
  go_wp2_with fail
  refine (HB.out _).mono ?_
  rintro e w4 ⟨rfl, hw4⟩
  have H4 := Lib.hid (hw4)
  clear hw4
  clear k00 k01 k10 k11 k20 k21 f20 f21
  obtain ⟨k00, k01, k10, k11, k20, k21, f20, f21⟩ := HX.out _ H4.out
  go_wp2_with fail
  refine (HT.out _).mono ?_
  rintro e w5 ⟨rfl, hw5⟩
  have H5 := Lib.hid (H4.out.ext hw5)
  clear hw5
  clear k00 k01 k10 k11 k20 k21 f20 f21
  obtain ⟨k00, k01, k10, k11, k20, k21, f20, f21⟩ := HX.out _ H5.out
  go_wp2_with fail
  have HXx : ∀ x : XW w5, _ := fun x => HX.out _ (H5.out.ext x.ext)
  have xk00 := fun x : XW w5 => (HXx x).1
  have xk01 := fun x : XW w5 => (HXx x).2.1
  have xk10 := fun x : XW w5 => (HXx x).2.2.1
  have xk11 := fun x : XW w5 => (HXx x).2.2.2.1
  have xk20 := fun x : XW w5 => (HXx x).2.2.2.2.1
  have xk21 := fun x : XW w5 => (HXx x).2.2.2.2.2.1
  have xf20 := fun x : XW w5 => (HXx x).2.2.2.2.2.2.1
  have xf21 := fun x : XW w5 => (HXx x).2.2.2.2.2.2.2
  clear HXx
  refine wp_region_par (α := Nat) 8 [(8, 2), (9, 2)] [[], [], [0, 1], [], [3], [0, 1, 2, 3, 4], [0, 1, 2, 3, 4, 5], [0, 1, 2, 3, 4, 5], [0, 1, 2, 3, 4, 5, 6, 7], [0, 1, 2, 3, 4, 5, 6, 7, 8]]
    [none, none, some (annVal (.int .i64 Z)), none, none, some (annVal (.tuple #[.agg #[.int .i64 X, .int .i64 Y], .int .i64 E])), none, none] [false, false, true, false, false, true, false, false] (by kernel_rfl) (by kernel_rfl) rfl (fun _ _ d _ _ h => by cases d <;> exact h) ?_
  simp only [List.take_succ_cons, List.take_zero, pickO, List.getElem?_cons_zero, List.getElem?_cons_succ]
  refine can_pure0 rfl (fun K hK => ?_); go_simp; refine hK _ ?_; clear hK K
  refine can_pure0 rfl (fun K hK => ?_); go_simp; refine hK _ ?_; clear hK K
  refine can_mem _ rfl (by go_simp) (fun W hW hG K hK => ?_) (fun K x2 hK => ?_)
  · go_simp
    refine (HS.out W).mono ?_
    rintro e w' ⟨rfl, h⟩
    exact hK default w' h trivial
  refine hK _ ?_; clear hK K
  dsimp only [annVal]
  refine can_pure0 rfl (fun K hK => ?_); go_simp; refine hK _ ?_; clear hK K
  refine can_pure0 rfl (fun K hK => ?_); go_simp; refine hK _ ?_; clear hK K
  refine can_mem _ rfl (by go_simp) (fun W hW hG K hK => ?_) (fun K x2 hK => ?_)
  · go_simp
    refine (HM.out W).mono ?_
    rintro e w' ⟨rfl, h⟩
    exact hK default w' h trivial
  refine hK _ ?_; clear hK K
  dsimp only [annVal]
  refine can_pure0 rfl (fun K hK => ?_); go_simp; refine hK _ ?_; clear hK K
  refine can_pure0 rfl (fun K hK => ?_); go_simp; refine hK _ ?_; clear hK K
  refine can_end (fun w8 hW hG => ?_)
  clear hG
  have H8 := Lib.hid (H5.out.ext hW)
  clear hW
  clear k00 k01 k10 k11 k20 k21 f20 f21
  obtain ⟨k00, k01, k10, k11, k20, k21, f20, f21⟩ := HX.out _ H8.out
  iterate 2 (refine mix_two (fun K hK => ?_); go_simp; refine hK _ _ ?_; clear hK K)
  simp only [wpMix]
  go_wp2_with fail
  all_goals exact bodyPost_ret (v := .tuple #[.agg #[.int .i64 X, .int .i64 Y], .int .i64 E]) (by simp [results, Try.results11, go_sem, *]) rfl ⟨rfl, by first | exact (HZ.out.ext H8.out) | exact ((HZ.out.ext H8.out).setNew hle2 _).setNew hle2 _⟩

end Go.Proofs.Ytncnojhbdkhcjaa

/- Meet. -/
namespace Go.Proofs.Ytncnojhbdkhcjaa
open Go.RowKit Go.Hw
set_option linter.unusedVariables false
set_option linter.unusedSimpArgs false
set_option maxRecDepth 100000 in
set_option maxHeartbeats 2000000 in
theorem rat_ok (a s n d : Int) (w : World) (hb : badM a s = false) (hv : vfB n d = true) : Calls Try.prog 16 #[.agg #[.int .i64 a, .int .i64 s], .agg #[.int .i64 n, .int .i64 d]] w fun e w' => e = .returned (.tuple #[.agg #[.int .i64 (mkN (a * d + s * n) d), .int .i64 (mkD (a * d + s * n) d)], .int .i64 (mkE (a * d + s * n) d)]) ∧ Ext w w' := by
  obtain ⟨⟨h1, h2⟩, h3, h4⟩ := (badM_iff _ _).1 hb
  obtain ⟨vn, vd, vd'⟩ := vf_bd hv
  have pad := mul_bd (x := a) (y := d) (by omega) vd'
  have psn := mul_bd (x := s) (y := n) (by omega) vn
  have HM : Hid (∀ W, Calls Try.prog 53 #[.int .i64 (a * d + s * n), .int .i64 d] W fun e w' => e = .returned (.tuple #[.agg #[.int .i64 (mkN (a * d + s * n) d), .int .i64 (mkD (a * d + s * n) d)], .int .i64 (mkE (a * d + s * n) d)]) ∧ Ext W w') := Lib.hid (fun W => rmk_x _ _ W (by omega) (by omega) (by omega) (by omega))
  generalize mkN (a * d + s * n) d = X at *
  generalize mkD (a * d + s * n) d = Y at *
  generalize mkE (a * d + s * n) d = E at *
  have HZ := Lib.hid ((((Upd.refl (fun _ => False) w).alloc (.cells #[.int .i64 a, .int .i64 s] 23)).alloc (.cells #[.int .i64 n, .int .i64 d] 25)).alloc (.cells #[.int .i64 0, .int .i64 0] 25))
  have hb0 := allocOld (allocOld (alloc0 w (.cells #[.int .i64 a, .int .i64 s] 23)) (.cells #[.int .i64 n, .int .i64 d] 25)) (.cells #[.int .i64 0, .int .i64 0] 25)
  have hb1 := allocOld (alloc_at (w.alloc (.cells #[.int .i64 a, .int .i64 s] 23)) (.cells #[.int .i64 n, .int .i64 d] 25) (n := w.heap.size + 1) (by simp)) (.cells #[.int .i64 0, .int .i64 0] 25)
  have hb2 := alloc_at ((w.alloc (.cells #[.int .i64 a, .int .i64 s] 23)).alloc (.cells #[.int .i64 n, .int .i64 d] 25)) (.cells #[.int .i64 0, .int .i64 0] 25) (n := w.heap.size + 2) (by simp)
  have HL : Hid ((((w.alloc (.cells #[.int .i64 a, .int .i64 s] 23)).alloc (.cells #[.int .i64 n, .int .i64 d] 25)).alloc (.cells #[.int .i64 0, .int .i64 0] 25)).heap.size = w.heap.size + 3) := Lib.hid (by simp)
  have HX : Hid (∀ W, Ext (((w.alloc (.cells #[.int .i64 a, .int .i64 s] 23)).alloc (.cells #[.int .i64 n, .int .i64 d] 25)).alloc (.cells #[.int .i64 0, .int .i64 0] 25)) W → W.cell? ⟨w.heap.size, 0, none⟩ = some (.int .i64 a) ∧ W.cell? ⟨w.heap.size, 1, none⟩ = some (.int .i64 s) ∧ W.cell? ⟨w.heap.size + 1, 0, none⟩ = some (.int .i64 n) ∧ W.cell? ⟨w.heap.size + 1, 1, none⟩ = some (.int .i64 d) ∧ W.cell? ⟨w.heap.size + 2, 0, none⟩ = some (.int .i64 0) ∧ W.cell? ⟨w.heap.size + 2, 1, none⟩ = some (.int .i64 0) ∧ W.frozen? ⟨w.heap.size + 2, 0, none⟩ = false ∧ W.frozen? ⟨w.heap.size + 2, 1, none⟩ = false) := Lib.hid (fun W hW => ⟨cellRow (hW.heap hb0 (fun h => h)) 0 _ rfl, cellRow (hW.heap hb0 (fun h => h)) 1 _ rfl, cellRow (hW.heap hb1 (fun h => h)) 0 _ rfl, cellRow (hW.heap hb1 (fun h => h)) 1 _ rfl, cellRow (hW.heap hb2 (fun h => h)) 0 _ rfl, cellRow (hW.heap hb2 (fun h => h)) 1 _ rfl, frozenRow (hW.heap hb2 (fun h => h)) 0, frozenRow (hW.heap hb2 (fun h => h)) 1⟩)
  clear hb0 hb1 hb2
  have hle1 : w.heap.size ≤ w.heap.size + 1 := by omega
  have hle2 : w.heap.size ≤ w.heap.size + 1 + 1 := by omega
  obtain ⟨k00, k01, k10, k11, k20, k21, f20, f21⟩ := HX.out _ (Upd.refl _ _)
  go_enter Try.func16, Try.ntmps16
  go_wp2_with fail
  refine (HM.out _).mono ?_
  rintro e w4 ⟨rfl, hw4⟩
  have H4 := Lib.hid (hw4)
  clear hw4
  clear k00 k01 k10 k11 k20 k21 f20 f21
  obtain ⟨k00, k01, k10, k11, k20, k21, f20, f21⟩ := HX.out _ H4.out
  go_wp2_with fail
  all_goals exact bodyPost_ret (v := .tuple #[.agg #[.int .i64 X, .int .i64 Y], .int .i64 E]) (by simp [results, Try.results16, go_sem, *]) rfl ⟨rfl, by first | exact (HZ.out.ext H4.out) | exact ((HZ.out.ext H4.out).setNew hle2 _).setNew hle2 _⟩

set_option maxRecDepth 100000 in
set_option maxHeartbeats 2000000 in
theorem meet_bad1 (a b : Mo) (n d : Int) (w : World) (ha : badM a.1 a.2 = true) : Calls Try.prog 12 #[.agg #[.int .i64 a.1, .int .i64 a.2], .agg #[.int .i64 b.1, .int .i64 b.2], .agg #[.int .i64 n, .int .i64 d]] w fun e w' => e = .returned (.tuple #[.agg #[.int .i64 0, .int .i64 0], .int .i64 1]) ∧ Ext w w' := by
  have HBa : Hid (∀ W, Calls Try.prog 46 #[.agg #[.int .i64 a.1, .int .i64 a.2]] W fun e w' => e = .returned (.bool true) ∧ Ext W w') := Lib.hid (fun W => by have := bad_x a.1 a.2 W; rw [ha] at this; exact this)
  have HZ := Lib.hid (((((Upd.refl (fun _ => False) w).alloc (.cells #[.int .i64 a.1, .int .i64 a.2] 23)).alloc (.cells #[.int .i64 b.1, .int .i64 b.2] 23)).alloc (.cells #[.int .i64 n, .int .i64 d] 25)).alloc (.cells #[.int .i64 0, .int .i64 0] 25))
  have hb0 := allocOld (allocOld (allocOld (alloc0 w (.cells #[.int .i64 a.1, .int .i64 a.2] 23)) (.cells #[.int .i64 b.1, .int .i64 b.2] 23)) (.cells #[.int .i64 n, .int .i64 d] 25)) (.cells #[.int .i64 0, .int .i64 0] 25)
  have hb1 := allocOld (allocOld (alloc_at (w.alloc (.cells #[.int .i64 a.1, .int .i64 a.2] 23)) (.cells #[.int .i64 b.1, .int .i64 b.2] 23) (n := w.heap.size + 1) (by simp)) (.cells #[.int .i64 n, .int .i64 d] 25)) (.cells #[.int .i64 0, .int .i64 0] 25)
  have hb2 := allocOld (alloc_at ((w.alloc (.cells #[.int .i64 a.1, .int .i64 a.2] 23)).alloc (.cells #[.int .i64 b.1, .int .i64 b.2] 23)) (.cells #[.int .i64 n, .int .i64 d] 25) (n := w.heap.size + 2) (by simp)) (.cells #[.int .i64 0, .int .i64 0] 25)
  have hb3 := alloc_at (((w.alloc (.cells #[.int .i64 a.1, .int .i64 a.2] 23)).alloc (.cells #[.int .i64 b.1, .int .i64 b.2] 23)).alloc (.cells #[.int .i64 n, .int .i64 d] 25)) (.cells #[.int .i64 0, .int .i64 0] 25) (n := w.heap.size + 3) (by simp)
  have HL : Hid (((((w.alloc (.cells #[.int .i64 a.1, .int .i64 a.2] 23)).alloc (.cells #[.int .i64 b.1, .int .i64 b.2] 23)).alloc (.cells #[.int .i64 n, .int .i64 d] 25)).alloc (.cells #[.int .i64 0, .int .i64 0] 25)).heap.size = w.heap.size + 4) := Lib.hid (by simp)
  have HX : Hid (∀ W, Ext ((((w.alloc (.cells #[.int .i64 a.1, .int .i64 a.2] 23)).alloc (.cells #[.int .i64 b.1, .int .i64 b.2] 23)).alloc (.cells #[.int .i64 n, .int .i64 d] 25)).alloc (.cells #[.int .i64 0, .int .i64 0] 25)) W → W.cell? ⟨w.heap.size, 0, none⟩ = some (.int .i64 a.1) ∧ W.cell? ⟨w.heap.size, 1, none⟩ = some (.int .i64 a.2) ∧ W.cell? ⟨w.heap.size + 1, 0, none⟩ = some (.int .i64 b.1) ∧ W.cell? ⟨w.heap.size + 1, 1, none⟩ = some (.int .i64 b.2) ∧ W.cell? ⟨w.heap.size + 2, 0, none⟩ = some (.int .i64 n) ∧ W.cell? ⟨w.heap.size + 2, 1, none⟩ = some (.int .i64 d) ∧ W.cell? ⟨w.heap.size + 3, 0, none⟩ = some (.int .i64 0) ∧ W.cell? ⟨w.heap.size + 3, 1, none⟩ = some (.int .i64 0) ∧ W.frozen? ⟨w.heap.size + 3, 0, none⟩ = false ∧ W.frozen? ⟨w.heap.size + 3, 1, none⟩ = false) := Lib.hid (fun W hW => ⟨cellRow (hW.heap hb0 (fun h => h)) 0 _ rfl, cellRow (hW.heap hb0 (fun h => h)) 1 _ rfl, cellRow (hW.heap hb1 (fun h => h)) 0 _ rfl, cellRow (hW.heap hb1 (fun h => h)) 1 _ rfl, cellRow (hW.heap hb2 (fun h => h)) 0 _ rfl, cellRow (hW.heap hb2 (fun h => h)) 1 _ rfl, cellRow (hW.heap hb3 (fun h => h)) 0 _ rfl, cellRow (hW.heap hb3 (fun h => h)) 1 _ rfl, frozenRow (hW.heap hb3 (fun h => h)) 0, frozenRow (hW.heap hb3 (fun h => h)) 1⟩)
  clear hb0 hb1 hb2 hb3
  have hle1 : w.heap.size ≤ w.heap.size + 1 := by omega
  have hle2 : w.heap.size ≤ w.heap.size + 1 + 1 := by omega
  have hle3 : w.heap.size ≤ w.heap.size + 1 + 1 + 1 := by omega
  obtain ⟨k00, k01, k10, k11, k20, k21, k30, k31, f30, f31⟩ := HX.out _ (Upd.refl _ _)
  go_enter Try.func12, Try.ntmps12
  go_wp2_with fail
  refine (HBa.out _).mono ?_
  rintro e w4 ⟨rfl, hw4⟩
  have H4 := Lib.hid (hw4)
  clear hw4
  clear k00 k01 k10 k11 k20 k21 k30 k31 f30 f31
  obtain ⟨k00, k01, k10, k11, k20, k21, k30, k31, f30, f31⟩ := HX.out _ H4.out
  go_wp2_with fail
  all_goals exact bodyPost_ret (v := .tuple #[.agg #[.int .i64 0, .int .i64 0], .int .i64 1]) (by simp [results, Try.results12, go_sem, *]) rfl ⟨rfl, by first | exact (HZ.out.ext H4.out) | exact ((HZ.out.ext H4.out).setNew hle3 _).setNew hle3 _⟩

set_option maxRecDepth 100000 in
set_option maxHeartbeats 2000000 in
theorem meet_bad2 (a b : Mo) (n d : Int) (w : World) (ha : badM a.1 a.2 = false) (hb : badM b.1 b.2 = true) : Calls Try.prog 12 #[.agg #[.int .i64 a.1, .int .i64 a.2], .agg #[.int .i64 b.1, .int .i64 b.2], .agg #[.int .i64 n, .int .i64 d]] w fun e w' => e = .returned (.tuple #[.agg #[.int .i64 0, .int .i64 0], .int .i64 1]) ∧ Ext w w' := by
  have HBa : Hid (∀ W, Calls Try.prog 46 #[.agg #[.int .i64 a.1, .int .i64 a.2]] W fun e w' => e = .returned (.bool false) ∧ Ext W w') := Lib.hid (fun W => by have := bad_x a.1 a.2 W; rw [ha] at this; exact this)
  have HBb : Hid (∀ W, Calls Try.prog 46 #[.agg #[.int .i64 b.1, .int .i64 b.2]] W fun e w' => e = .returned (.bool true) ∧ Ext W w') := Lib.hid (fun W => by have := bad_x b.1 b.2 W; rw [hb] at this; exact this)
  have HZ := Lib.hid (((((Upd.refl (fun _ => False) w).alloc (.cells #[.int .i64 a.1, .int .i64 a.2] 23)).alloc (.cells #[.int .i64 b.1, .int .i64 b.2] 23)).alloc (.cells #[.int .i64 n, .int .i64 d] 25)).alloc (.cells #[.int .i64 0, .int .i64 0] 25))
  have hb0 := allocOld (allocOld (allocOld (alloc0 w (.cells #[.int .i64 a.1, .int .i64 a.2] 23)) (.cells #[.int .i64 b.1, .int .i64 b.2] 23)) (.cells #[.int .i64 n, .int .i64 d] 25)) (.cells #[.int .i64 0, .int .i64 0] 25)
  have hb1 := allocOld (allocOld (alloc_at (w.alloc (.cells #[.int .i64 a.1, .int .i64 a.2] 23)) (.cells #[.int .i64 b.1, .int .i64 b.2] 23) (n := w.heap.size + 1) (by simp)) (.cells #[.int .i64 n, .int .i64 d] 25)) (.cells #[.int .i64 0, .int .i64 0] 25)
  have hb2 := allocOld (alloc_at ((w.alloc (.cells #[.int .i64 a.1, .int .i64 a.2] 23)).alloc (.cells #[.int .i64 b.1, .int .i64 b.2] 23)) (.cells #[.int .i64 n, .int .i64 d] 25) (n := w.heap.size + 2) (by simp)) (.cells #[.int .i64 0, .int .i64 0] 25)
  have hb3 := alloc_at (((w.alloc (.cells #[.int .i64 a.1, .int .i64 a.2] 23)).alloc (.cells #[.int .i64 b.1, .int .i64 b.2] 23)).alloc (.cells #[.int .i64 n, .int .i64 d] 25)) (.cells #[.int .i64 0, .int .i64 0] 25) (n := w.heap.size + 3) (by simp)
  have HL : Hid (((((w.alloc (.cells #[.int .i64 a.1, .int .i64 a.2] 23)).alloc (.cells #[.int .i64 b.1, .int .i64 b.2] 23)).alloc (.cells #[.int .i64 n, .int .i64 d] 25)).alloc (.cells #[.int .i64 0, .int .i64 0] 25)).heap.size = w.heap.size + 4) := Lib.hid (by simp)
  have HX : Hid (∀ W, Ext ((((w.alloc (.cells #[.int .i64 a.1, .int .i64 a.2] 23)).alloc (.cells #[.int .i64 b.1, .int .i64 b.2] 23)).alloc (.cells #[.int .i64 n, .int .i64 d] 25)).alloc (.cells #[.int .i64 0, .int .i64 0] 25)) W → W.cell? ⟨w.heap.size, 0, none⟩ = some (.int .i64 a.1) ∧ W.cell? ⟨w.heap.size, 1, none⟩ = some (.int .i64 a.2) ∧ W.cell? ⟨w.heap.size + 1, 0, none⟩ = some (.int .i64 b.1) ∧ W.cell? ⟨w.heap.size + 1, 1, none⟩ = some (.int .i64 b.2) ∧ W.cell? ⟨w.heap.size + 2, 0, none⟩ = some (.int .i64 n) ∧ W.cell? ⟨w.heap.size + 2, 1, none⟩ = some (.int .i64 d) ∧ W.cell? ⟨w.heap.size + 3, 0, none⟩ = some (.int .i64 0) ∧ W.cell? ⟨w.heap.size + 3, 1, none⟩ = some (.int .i64 0) ∧ W.frozen? ⟨w.heap.size + 3, 0, none⟩ = false ∧ W.frozen? ⟨w.heap.size + 3, 1, none⟩ = false) := Lib.hid (fun W hW => ⟨cellRow (hW.heap hb0 (fun h => h)) 0 _ rfl, cellRow (hW.heap hb0 (fun h => h)) 1 _ rfl, cellRow (hW.heap hb1 (fun h => h)) 0 _ rfl, cellRow (hW.heap hb1 (fun h => h)) 1 _ rfl, cellRow (hW.heap hb2 (fun h => h)) 0 _ rfl, cellRow (hW.heap hb2 (fun h => h)) 1 _ rfl, cellRow (hW.heap hb3 (fun h => h)) 0 _ rfl, cellRow (hW.heap hb3 (fun h => h)) 1 _ rfl, frozenRow (hW.heap hb3 (fun h => h)) 0, frozenRow (hW.heap hb3 (fun h => h)) 1⟩)
  clear hb0 hb1 hb2 hb3
  have hle1 : w.heap.size ≤ w.heap.size + 1 := by omega
  have hle2 : w.heap.size ≤ w.heap.size + 1 + 1 := by omega
  have hle3 : w.heap.size ≤ w.heap.size + 1 + 1 + 1 := by omega
  obtain ⟨k00, k01, k10, k11, k20, k21, k30, k31, f30, f31⟩ := HX.out _ (Upd.refl _ _)
  go_enter Try.func12, Try.ntmps12
  go_wp2_with fail
  refine (HBa.out _).mono ?_
  rintro e w4 ⟨rfl, hw4⟩
  have H4 := Lib.hid (hw4)
  clear hw4
  clear k00 k01 k10 k11 k20 k21 k30 k31 f30 f31
  obtain ⟨k00, k01, k10, k11, k20, k21, k30, k31, f30, f31⟩ := HX.out _ H4.out
  go_wp2_with fail
  refine (HBb.out _).mono ?_
  rintro e w5 ⟨rfl, hw5⟩
  have H5 := Lib.hid (H4.out.ext hw5)
  clear hw5
  clear k00 k01 k10 k11 k20 k21 k30 k31 f30 f31
  obtain ⟨k00, k01, k10, k11, k20, k21, k30, k31, f30, f31⟩ := HX.out _ H5.out
  go_wp2_with fail
  all_goals exact bodyPost_ret (v := .tuple #[.agg #[.int .i64 0, .int .i64 0], .int .i64 1]) (by simp [results, Try.results12, go_sem, *]) rfl ⟨rfl, by first | exact (HZ.out.ext H5.out) | exact ((HZ.out.ext H5.out).setNew hle3 _).setNew hle3 _⟩

set_option maxRecDepth 100000 in
set_option maxHeartbeats 2000000 in
theorem meet_bad3 (a b : Mo) (n d : Int) (w : World) (n0 : -9223372036854775808 ≤ n) (n1 : n ≤ 9223372036854775807) (d0 : -9223372036854775808 ≤ d) (d1 : d ≤ 9223372036854775807) (ha : badM a.1 a.2 = false) (hb : badM b.1 b.2 = false) (ht : timeB n d = false) : Calls Try.prog 12 #[.agg #[.int .i64 a.1, .int .i64 a.2], .agg #[.int .i64 b.1, .int .i64 b.2], .agg #[.int .i64 n, .int .i64 d]] w fun e w' => e = .returned (.tuple #[.agg #[.int .i64 0, .int .i64 0], .int .i64 1]) ∧ Ext w w' := by
  have HBa : Hid (∀ W, Calls Try.prog 46 #[.agg #[.int .i64 a.1, .int .i64 a.2]] W fun e w' => e = .returned (.bool false) ∧ Ext W w') := Lib.hid (fun W => by have := bad_x a.1 a.2 W; rw [ha] at this; exact this)
  have HBb : Hid (∀ W, Calls Try.prog 46 #[.agg #[.int .i64 b.1, .int .i64 b.2]] W fun e w' => e = .returned (.bool false) ∧ Ext W w') := Lib.hid (fun W => by have := bad_x b.1 b.2 W; rw [hb] at this; exact this)
  have HT : Hid (∀ W, Calls Try.prog 47 #[.agg #[.int .i64 n, .int .i64 d]] W fun e w' => e = .returned (.bool false) ∧ Ext W w') := Lib.hid (fun W => by have := time_x n d W n0 n1 d0 d1; rw [ht] at this; exact this)
  have HZ := Lib.hid (((((Upd.refl (fun _ => False) w).alloc (.cells #[.int .i64 a.1, .int .i64 a.2] 23)).alloc (.cells #[.int .i64 b.1, .int .i64 b.2] 23)).alloc (.cells #[.int .i64 n, .int .i64 d] 25)).alloc (.cells #[.int .i64 0, .int .i64 0] 25))
  have hb0 := allocOld (allocOld (allocOld (alloc0 w (.cells #[.int .i64 a.1, .int .i64 a.2] 23)) (.cells #[.int .i64 b.1, .int .i64 b.2] 23)) (.cells #[.int .i64 n, .int .i64 d] 25)) (.cells #[.int .i64 0, .int .i64 0] 25)
  have hb1 := allocOld (allocOld (alloc_at (w.alloc (.cells #[.int .i64 a.1, .int .i64 a.2] 23)) (.cells #[.int .i64 b.1, .int .i64 b.2] 23) (n := w.heap.size + 1) (by simp)) (.cells #[.int .i64 n, .int .i64 d] 25)) (.cells #[.int .i64 0, .int .i64 0] 25)
  have hb2 := allocOld (alloc_at ((w.alloc (.cells #[.int .i64 a.1, .int .i64 a.2] 23)).alloc (.cells #[.int .i64 b.1, .int .i64 b.2] 23)) (.cells #[.int .i64 n, .int .i64 d] 25) (n := w.heap.size + 2) (by simp)) (.cells #[.int .i64 0, .int .i64 0] 25)
  have hb3 := alloc_at (((w.alloc (.cells #[.int .i64 a.1, .int .i64 a.2] 23)).alloc (.cells #[.int .i64 b.1, .int .i64 b.2] 23)).alloc (.cells #[.int .i64 n, .int .i64 d] 25)) (.cells #[.int .i64 0, .int .i64 0] 25) (n := w.heap.size + 3) (by simp)
  have HL : Hid (((((w.alloc (.cells #[.int .i64 a.1, .int .i64 a.2] 23)).alloc (.cells #[.int .i64 b.1, .int .i64 b.2] 23)).alloc (.cells #[.int .i64 n, .int .i64 d] 25)).alloc (.cells #[.int .i64 0, .int .i64 0] 25)).heap.size = w.heap.size + 4) := Lib.hid (by simp)
  have HX : Hid (∀ W, Ext ((((w.alloc (.cells #[.int .i64 a.1, .int .i64 a.2] 23)).alloc (.cells #[.int .i64 b.1, .int .i64 b.2] 23)).alloc (.cells #[.int .i64 n, .int .i64 d] 25)).alloc (.cells #[.int .i64 0, .int .i64 0] 25)) W → W.cell? ⟨w.heap.size, 0, none⟩ = some (.int .i64 a.1) ∧ W.cell? ⟨w.heap.size, 1, none⟩ = some (.int .i64 a.2) ∧ W.cell? ⟨w.heap.size + 1, 0, none⟩ = some (.int .i64 b.1) ∧ W.cell? ⟨w.heap.size + 1, 1, none⟩ = some (.int .i64 b.2) ∧ W.cell? ⟨w.heap.size + 2, 0, none⟩ = some (.int .i64 n) ∧ W.cell? ⟨w.heap.size + 2, 1, none⟩ = some (.int .i64 d) ∧ W.cell? ⟨w.heap.size + 3, 0, none⟩ = some (.int .i64 0) ∧ W.cell? ⟨w.heap.size + 3, 1, none⟩ = some (.int .i64 0) ∧ W.frozen? ⟨w.heap.size + 3, 0, none⟩ = false ∧ W.frozen? ⟨w.heap.size + 3, 1, none⟩ = false) := Lib.hid (fun W hW => ⟨cellRow (hW.heap hb0 (fun h => h)) 0 _ rfl, cellRow (hW.heap hb0 (fun h => h)) 1 _ rfl, cellRow (hW.heap hb1 (fun h => h)) 0 _ rfl, cellRow (hW.heap hb1 (fun h => h)) 1 _ rfl, cellRow (hW.heap hb2 (fun h => h)) 0 _ rfl, cellRow (hW.heap hb2 (fun h => h)) 1 _ rfl, cellRow (hW.heap hb3 (fun h => h)) 0 _ rfl, cellRow (hW.heap hb3 (fun h => h)) 1 _ rfl, frozenRow (hW.heap hb3 (fun h => h)) 0, frozenRow (hW.heap hb3 (fun h => h)) 1⟩)
  clear hb0 hb1 hb2 hb3
  have hle1 : w.heap.size ≤ w.heap.size + 1 := by omega
  have hle2 : w.heap.size ≤ w.heap.size + 1 + 1 := by omega
  have hle3 : w.heap.size ≤ w.heap.size + 1 + 1 + 1 := by omega
  obtain ⟨k00, k01, k10, k11, k20, k21, k30, k31, f30, f31⟩ := HX.out _ (Upd.refl _ _)
  go_enter Try.func12, Try.ntmps12
  go_wp2_with fail
  refine (HBa.out _).mono ?_
  rintro e w4 ⟨rfl, hw4⟩
  have H4 := Lib.hid (hw4)
  clear hw4
  clear k00 k01 k10 k11 k20 k21 k30 k31 f30 f31
  obtain ⟨k00, k01, k10, k11, k20, k21, k30, k31, f30, f31⟩ := HX.out _ H4.out
  go_wp2_with fail
  refine (HBb.out _).mono ?_
  rintro e w5 ⟨rfl, hw5⟩
  have H5 := Lib.hid (H4.out.ext hw5)
  clear hw5
  clear k00 k01 k10 k11 k20 k21 k30 k31 f30 f31
  obtain ⟨k00, k01, k10, k11, k20, k21, k30, k31, f30, f31⟩ := HX.out _ H5.out
  go_wp2_with fail
  refine (HT.out _).mono ?_
  rintro e w6 ⟨rfl, hw6⟩
  have H6 := Lib.hid (H5.out.ext hw6)
  clear hw6
  clear k00 k01 k10 k11 k20 k21 k30 k31 f30 f31
  obtain ⟨k00, k01, k10, k11, k20, k21, k30, k31, f30, f31⟩ := HX.out _ H6.out
  go_wp2_with fail
  all_goals exact bodyPost_ret (v := .tuple #[.agg #[.int .i64 0, .int .i64 0], .int .i64 1]) (by simp [results, Try.results12, go_sem, *]) rfl ⟨rfl, by first | exact (HZ.out.ext H6.out) | exact ((HZ.out.ext H6.out).setNew hle3 _).setNew hle3 _⟩

set_option maxRecDepth 100000 in
set_option maxHeartbeats 2000000 in
theorem meet_ok (a b : Mo) (n d : Int) (w : World) (ha : badM a.1 a.2 = false) (hb : badM b.1 b.2 = false) (ht : timeB n d = true) : Calls Try.prog 12 #[.agg #[.int .i64 a.1, .int .i64 a.2], .agg #[.int .i64 b.1, .int .i64 b.2], .agg #[.int .i64 n, .int .i64 d]] w fun e w' => e = .returned (.tuple #[.agg #[.int .i64 (meetN a b n d), .int .i64 (meetD a b n d)], if meetB a b n d then .int .i64 0 else .int .i64 12]) ∧ Ext w w' := by
  obtain ⟨hv, hn⟩ := (timeB_iff _ _).1 ht
  obtain ⟨vn, vd, vd'⟩ := vf_bd hv
  have n0 : -9223372036854775808 ≤ n := by omega
  have n1 : n ≤ 9223372036854775807 := by omega
  have d0 : -9223372036854775808 ≤ d := by omega
  have d1 : d ≤ 9223372036854775807 := by omega
  have HM : Hid (∀ W, Calls Try.prog 50 #[.agg #[.int .i64 a.1, .int .i64 a.2], .agg #[.int .i64 b.1, .int .i64 b.2], .agg #[.int .i64 n, .int .i64 d]] W fun e w' => e = .returned (.tuple #[.agg #[.int .i64 (meetN a b n d), .int .i64 (meetD a b n d)], if meetB a b n d then .bool true else .bool false]) ∧ Ext W w') := Lib.hid (fun W => meet_x a b n d W ha hb hv)
  have HBa : Hid (∀ W, Calls Try.prog 46 #[.agg #[.int .i64 a.1, .int .i64 a.2]] W fun e w' => e = .returned (.bool false) ∧ Ext W w') := Lib.hid (fun W => by have := bad_x a.1 a.2 W; rw [ha] at this; exact this)
  have HBb : Hid (∀ W, Calls Try.prog 46 #[.agg #[.int .i64 b.1, .int .i64 b.2]] W fun e w' => e = .returned (.bool false) ∧ Ext W w') := Lib.hid (fun W => by have := bad_x b.1 b.2 W; rw [hb] at this; exact this)
  have HT : Hid (∀ W, Calls Try.prog 47 #[.agg #[.int .i64 n, .int .i64 d]] W fun e w' => e = .returned (.bool true) ∧ Ext W w') := Lib.hid (fun W => by have := time_x n d W n0 n1 d0 d1; rw [ht] at this; exact this)
  have e0 : meetB a b n d = false → meetN a b n d = 0 ∧ meetD a b n d = 0 := fun h => by unfold meetN meetD; rw [h]; exact ⟨rfl, rfl⟩
  generalize meetN a b n d = X at *
  generalize meetD a b n d = Y at *
  cases hB : meetB a b n d
  all_goals
    rw [hB] at HM e0
    have e1 := Lib.hid e0
    clear e0 hB hv hn ht vn vd vd' n0 n1 d0 d1 ha hb
  · obtain ⟨rfl, rfl⟩ := e1.out rfl
    have HZ := Lib.hid (((((Upd.refl (fun _ => False) w).alloc (.cells #[.int .i64 a.1, .int .i64 a.2] 23)).alloc (.cells #[.int .i64 b.1, .int .i64 b.2] 23)).alloc (.cells #[.int .i64 n, .int .i64 d] 25)).alloc (.cells #[.int .i64 0, .int .i64 0] 25))
    have hb0 := allocOld (allocOld (allocOld (alloc0 w (.cells #[.int .i64 a.1, .int .i64 a.2] 23)) (.cells #[.int .i64 b.1, .int .i64 b.2] 23)) (.cells #[.int .i64 n, .int .i64 d] 25)) (.cells #[.int .i64 0, .int .i64 0] 25)
    have hb1 := allocOld (allocOld (alloc_at (w.alloc (.cells #[.int .i64 a.1, .int .i64 a.2] 23)) (.cells #[.int .i64 b.1, .int .i64 b.2] 23) (n := w.heap.size + 1) (by simp)) (.cells #[.int .i64 n, .int .i64 d] 25)) (.cells #[.int .i64 0, .int .i64 0] 25)
    have hb2 := allocOld (alloc_at ((w.alloc (.cells #[.int .i64 a.1, .int .i64 a.2] 23)).alloc (.cells #[.int .i64 b.1, .int .i64 b.2] 23)) (.cells #[.int .i64 n, .int .i64 d] 25) (n := w.heap.size + 2) (by simp)) (.cells #[.int .i64 0, .int .i64 0] 25)
    have hb3 := alloc_at (((w.alloc (.cells #[.int .i64 a.1, .int .i64 a.2] 23)).alloc (.cells #[.int .i64 b.1, .int .i64 b.2] 23)).alloc (.cells #[.int .i64 n, .int .i64 d] 25)) (.cells #[.int .i64 0, .int .i64 0] 25) (n := w.heap.size + 3) (by simp)
    have HL : Hid (((((w.alloc (.cells #[.int .i64 a.1, .int .i64 a.2] 23)).alloc (.cells #[.int .i64 b.1, .int .i64 b.2] 23)).alloc (.cells #[.int .i64 n, .int .i64 d] 25)).alloc (.cells #[.int .i64 0, .int .i64 0] 25)).heap.size = w.heap.size + 4) := Lib.hid (by simp)
    have HX : Hid (∀ W, Ext ((((w.alloc (.cells #[.int .i64 a.1, .int .i64 a.2] 23)).alloc (.cells #[.int .i64 b.1, .int .i64 b.2] 23)).alloc (.cells #[.int .i64 n, .int .i64 d] 25)).alloc (.cells #[.int .i64 0, .int .i64 0] 25)) W → W.cell? ⟨w.heap.size, 0, none⟩ = some (.int .i64 a.1) ∧ W.cell? ⟨w.heap.size, 1, none⟩ = some (.int .i64 a.2) ∧ W.cell? ⟨w.heap.size + 1, 0, none⟩ = some (.int .i64 b.1) ∧ W.cell? ⟨w.heap.size + 1, 1, none⟩ = some (.int .i64 b.2) ∧ W.cell? ⟨w.heap.size + 2, 0, none⟩ = some (.int .i64 n) ∧ W.cell? ⟨w.heap.size + 2, 1, none⟩ = some (.int .i64 d) ∧ W.cell? ⟨w.heap.size + 3, 0, none⟩ = some (.int .i64 0) ∧ W.cell? ⟨w.heap.size + 3, 1, none⟩ = some (.int .i64 0) ∧ W.frozen? ⟨w.heap.size + 3, 0, none⟩ = false ∧ W.frozen? ⟨w.heap.size + 3, 1, none⟩ = false) := Lib.hid (fun W hW => ⟨cellRow (hW.heap hb0 (fun h => h)) 0 _ rfl, cellRow (hW.heap hb0 (fun h => h)) 1 _ rfl, cellRow (hW.heap hb1 (fun h => h)) 0 _ rfl, cellRow (hW.heap hb1 (fun h => h)) 1 _ rfl, cellRow (hW.heap hb2 (fun h => h)) 0 _ rfl, cellRow (hW.heap hb2 (fun h => h)) 1 _ rfl, cellRow (hW.heap hb3 (fun h => h)) 0 _ rfl, cellRow (hW.heap hb3 (fun h => h)) 1 _ rfl, frozenRow (hW.heap hb3 (fun h => h)) 0, frozenRow (hW.heap hb3 (fun h => h)) 1⟩)
    clear hb0 hb1 hb2 hb3
    have hle1 : w.heap.size ≤ w.heap.size + 1 := by omega
    have hle2 : w.heap.size ≤ w.heap.size + 1 + 1 := by omega
    have hle3 : w.heap.size ≤ w.heap.size + 1 + 1 + 1 := by omega
    obtain ⟨k00, k01, k10, k11, k20, k21, k30, k31, f30, f31⟩ := HX.out _ (Upd.refl _ _)
    go_enter Try.func12, Try.ntmps12
    go_wp2_with fail
    refine (HBa.out _).mono ?_
    rintro e w4 ⟨rfl, hw4⟩
    have H4 := Lib.hid (hw4)
    clear hw4
    clear k00 k01 k10 k11 k20 k21 k30 k31 f30 f31
    obtain ⟨k00, k01, k10, k11, k20, k21, k30, k31, f30, f31⟩ := HX.out _ H4.out
    go_wp2_with fail
    refine (HBb.out _).mono ?_
    rintro e w5 ⟨rfl, hw5⟩
    have H5 := Lib.hid (H4.out.ext hw5)
    clear hw5
    clear k00 k01 k10 k11 k20 k21 k30 k31 f30 f31
    obtain ⟨k00, k01, k10, k11, k20, k21, k30, k31, f30, f31⟩ := HX.out _ H5.out
    go_wp2_with fail
    refine (HT.out _).mono ?_
    rintro e w6 ⟨rfl, hw6⟩
    have H6 := Lib.hid (H5.out.ext hw6)
    clear hw6
    clear k00 k01 k10 k11 k20 k21 k30 k31 f30 f31
    obtain ⟨k00, k01, k10, k11, k20, k21, k30, k31, f30, f31⟩ := HX.out _ H6.out
    go_wp2_with fail
    refine (HM.out _).mono ?_
    rintro e w7 ⟨rfl, hw7⟩
    have hbE := alloc0 w7 (.cells #[.int .i64 0, .int .i64 0] 25)
    have H7 := Lib.hid ((H6.out.ext hw7).alloc (.cells #[.int .i64 0, .int .i64 0] 25))
    have y0 := cellRow hbE 0 _ rfl
    have y1 := cellRow hbE 1 _ rfl
    have HS := Lib.hid ((H6.out.ext hw7).size)
    have hne : w7.heap.size ≠ w.heap.size + 1 + 1 + 1 := by have := HS.out; have := HL.out; omega
    clear hw7 hbE
    clear k00 k01 k10 k11 k20 k21 k30 k31 f30 f31
    obtain ⟨k00, k01, k10, k11, k20, k21, k30, k31, f30, f31⟩ := HX.out _ H7.out
    go_wp2_with fail
    all_goals exact bodyPost_ret (v := .tuple #[.agg #[.int .i64 0, .int .i64 0], .int .i64 12]) (by simp [results, Try.results12, go_sem, *]) rfl ⟨rfl, by first | exact (HZ.out.ext H7.out) | exact ((HZ.out.ext H7.out).setNew hle3 _).setNew hle3 _⟩
  · skip
    have HZ := Lib.hid (((((Upd.refl (fun _ => False) w).alloc (.cells #[.int .i64 a.1, .int .i64 a.2] 23)).alloc (.cells #[.int .i64 b.1, .int .i64 b.2] 23)).alloc (.cells #[.int .i64 n, .int .i64 d] 25)).alloc (.cells #[.int .i64 0, .int .i64 0] 25))
    have hb0 := allocOld (allocOld (allocOld (alloc0 w (.cells #[.int .i64 a.1, .int .i64 a.2] 23)) (.cells #[.int .i64 b.1, .int .i64 b.2] 23)) (.cells #[.int .i64 n, .int .i64 d] 25)) (.cells #[.int .i64 0, .int .i64 0] 25)
    have hb1 := allocOld (allocOld (alloc_at (w.alloc (.cells #[.int .i64 a.1, .int .i64 a.2] 23)) (.cells #[.int .i64 b.1, .int .i64 b.2] 23) (n := w.heap.size + 1) (by simp)) (.cells #[.int .i64 n, .int .i64 d] 25)) (.cells #[.int .i64 0, .int .i64 0] 25)
    have hb2 := allocOld (alloc_at ((w.alloc (.cells #[.int .i64 a.1, .int .i64 a.2] 23)).alloc (.cells #[.int .i64 b.1, .int .i64 b.2] 23)) (.cells #[.int .i64 n, .int .i64 d] 25) (n := w.heap.size + 2) (by simp)) (.cells #[.int .i64 0, .int .i64 0] 25)
    have hb3 := alloc_at (((w.alloc (.cells #[.int .i64 a.1, .int .i64 a.2] 23)).alloc (.cells #[.int .i64 b.1, .int .i64 b.2] 23)).alloc (.cells #[.int .i64 n, .int .i64 d] 25)) (.cells #[.int .i64 0, .int .i64 0] 25) (n := w.heap.size + 3) (by simp)
    have HL : Hid (((((w.alloc (.cells #[.int .i64 a.1, .int .i64 a.2] 23)).alloc (.cells #[.int .i64 b.1, .int .i64 b.2] 23)).alloc (.cells #[.int .i64 n, .int .i64 d] 25)).alloc (.cells #[.int .i64 0, .int .i64 0] 25)).heap.size = w.heap.size + 4) := Lib.hid (by simp)
    have HX : Hid (∀ W, Ext ((((w.alloc (.cells #[.int .i64 a.1, .int .i64 a.2] 23)).alloc (.cells #[.int .i64 b.1, .int .i64 b.2] 23)).alloc (.cells #[.int .i64 n, .int .i64 d] 25)).alloc (.cells #[.int .i64 0, .int .i64 0] 25)) W → W.cell? ⟨w.heap.size, 0, none⟩ = some (.int .i64 a.1) ∧ W.cell? ⟨w.heap.size, 1, none⟩ = some (.int .i64 a.2) ∧ W.cell? ⟨w.heap.size + 1, 0, none⟩ = some (.int .i64 b.1) ∧ W.cell? ⟨w.heap.size + 1, 1, none⟩ = some (.int .i64 b.2) ∧ W.cell? ⟨w.heap.size + 2, 0, none⟩ = some (.int .i64 n) ∧ W.cell? ⟨w.heap.size + 2, 1, none⟩ = some (.int .i64 d) ∧ W.cell? ⟨w.heap.size + 3, 0, none⟩ = some (.int .i64 0) ∧ W.cell? ⟨w.heap.size + 3, 1, none⟩ = some (.int .i64 0) ∧ W.frozen? ⟨w.heap.size + 3, 0, none⟩ = false ∧ W.frozen? ⟨w.heap.size + 3, 1, none⟩ = false) := Lib.hid (fun W hW => ⟨cellRow (hW.heap hb0 (fun h => h)) 0 _ rfl, cellRow (hW.heap hb0 (fun h => h)) 1 _ rfl, cellRow (hW.heap hb1 (fun h => h)) 0 _ rfl, cellRow (hW.heap hb1 (fun h => h)) 1 _ rfl, cellRow (hW.heap hb2 (fun h => h)) 0 _ rfl, cellRow (hW.heap hb2 (fun h => h)) 1 _ rfl, cellRow (hW.heap hb3 (fun h => h)) 0 _ rfl, cellRow (hW.heap hb3 (fun h => h)) 1 _ rfl, frozenRow (hW.heap hb3 (fun h => h)) 0, frozenRow (hW.heap hb3 (fun h => h)) 1⟩)
    clear hb0 hb1 hb2 hb3
    have hle1 : w.heap.size ≤ w.heap.size + 1 := by omega
    have hle2 : w.heap.size ≤ w.heap.size + 1 + 1 := by omega
    have hle3 : w.heap.size ≤ w.heap.size + 1 + 1 + 1 := by omega
    obtain ⟨k00, k01, k10, k11, k20, k21, k30, k31, f30, f31⟩ := HX.out _ (Upd.refl _ _)
    go_enter Try.func12, Try.ntmps12
    go_wp2_with fail
    refine (HBa.out _).mono ?_
    rintro e w4 ⟨rfl, hw4⟩
    have H4 := Lib.hid (hw4)
    clear hw4
    clear k00 k01 k10 k11 k20 k21 k30 k31 f30 f31
    obtain ⟨k00, k01, k10, k11, k20, k21, k30, k31, f30, f31⟩ := HX.out _ H4.out
    go_wp2_with fail
    refine (HBb.out _).mono ?_
    rintro e w5 ⟨rfl, hw5⟩
    have H5 := Lib.hid (H4.out.ext hw5)
    clear hw5
    clear k00 k01 k10 k11 k20 k21 k30 k31 f30 f31
    obtain ⟨k00, k01, k10, k11, k20, k21, k30, k31, f30, f31⟩ := HX.out _ H5.out
    go_wp2_with fail
    refine (HT.out _).mono ?_
    rintro e w6 ⟨rfl, hw6⟩
    have H6 := Lib.hid (H5.out.ext hw6)
    clear hw6
    clear k00 k01 k10 k11 k20 k21 k30 k31 f30 f31
    obtain ⟨k00, k01, k10, k11, k20, k21, k30, k31, f30, f31⟩ := HX.out _ H6.out
    go_wp2_with fail
    refine (HM.out _).mono ?_
    rintro e w7 ⟨rfl, hw7⟩
    have hbE := alloc0 w7 (.cells #[.int .i64 X, .int .i64 Y] 25)
    have H7 := Lib.hid ((H6.out.ext hw7).alloc (.cells #[.int .i64 X, .int .i64 Y] 25))
    have y0 := cellRow hbE 0 _ rfl
    have y1 := cellRow hbE 1 _ rfl
    have HS := Lib.hid ((H6.out.ext hw7).size)
    have hne : w7.heap.size ≠ w.heap.size + 1 + 1 + 1 := by have := HS.out; have := HL.out; omega
    clear hw7 hbE
    clear k00 k01 k10 k11 k20 k21 k30 k31 f30 f31
    obtain ⟨k00, k01, k10, k11, k20, k21, k30, k31, f30, f31⟩ := HX.out _ H7.out
    go_wp2_with fail
    all_goals exact bodyPost_ret (v := .tuple #[.agg #[.int .i64 X, .int .i64 Y], .int .i64 0]) (by simp [results, Try.results12, go_sem, *]) rfl ⟨rfl, by first | exact (HZ.out.ext H7.out) | exact ((HZ.out.ext H7.out).setNew hle3 _).setNew hle3 _⟩

end Go.Proofs.Ytncnojhbdkhcjaa

/- Motions. -/
namespace Go.Proofs.Ytncnojhbdkhcjaa
open Go.RowKit Go.Hw
set_option linter.unusedVariables false
set_option linter.unusedSimpArgs false

/-- the first places hold valid motions -/
def mBt (l : List Mo) (k : Nat) : Bool := mB (l.take k)
theorem mB_snoc (l : List Mo) (k : Nat) (h : k < l.length) : mB (l.take (k + 1)) = (mB (l.take k) && !badM (mg l k).1 (mg l k).2) := by
  unfold mB mg
  rw [List.take_add_one, List.all_append, List.getD_eq_getElem?_getD, List.getElem?_eq_getElem h]
  simp
theorem mB_stop (l : List Mo) (k : Nat) (h : k < l.length) (hb : badM (mg l k).1 (mg l k).2 = true) : mB l = false := by
  cases h1 : mB l
  · rfl
  · have := mB_at h1 k
    rw [hb] at this; cases this
theorem MoR.shape {S : Nat → Prop} {w : World} {v : Value} {l : List Mo} (h : MoR S w v l) : ∃ a cap, v = .slice a l.length cap := SlR.shape h
theorem MoR.kept {S F : Nat → Prop} {w w' : World} {v : Value} {l : List Mo} (h : MoR S w v l) (hu : Upd F w w') (hF : ∀ k, S k → ¬ F k) : MoR S w' v l := SlR.kept h hu hF
theorem MoR.ext {S : Nat → Prop} {w w' : World} {v : Value} {l : List Mo} (h : MoR S w v l) (hu : Ext w w') : MoR S w' v l := SlR.kept h hu (fun _ _ h => h)
theorem MoR.at_ {S : Nat → Prop} {w : World} {a : Option Addr} {n cap : Nat} {l : List Mo} (h : MoR S w (.slice a n cap) l) (hl : 0 < l.length) : ∃ g off, a = some ⟨g, off, none⟩ := by
  obtain ⟨g, off, c, e, _⟩ := SlR.pos h hl
  injection e with e1 e2 e3
  exact ⟨g, off, e1⟩

set_option maxHeartbeats 1000000 in
theorem idxf_x (l : List Mo) (S : Nat → Prop) (v : Value) (w : World) (hR : MoR S w v l) (hl : l.length ≤ 4611686018427387904) : Calls Try.prog 69 #[v, .func (.func 46) #[] #[]] w fun e w' => ∃ r : Int, e = .returned (.int .i64 r) ∧ decide (0 ≤ r) = !mB l ∧ Ext w w' := by
  obtain ⟨a, cap, rfl⟩ := hR.shape
  have HB := Lib.hid bad_x
  have HR := Lib.hid hR
  have hrf := Lib.hid (Upd.refl (fun _ => False) w)
  go_enter Try.func69, Try.ntmps69
  go_wp2_with fail
  go_loopg [8] l.length (fun gk i wr => ∃ j : Nat, i = .int .i64 j ∧ gk = l.length - j ∧ j ≤ l.length ∧ Hid (Ext w wr) ∧ Hid (mB (l.take j) = true))
  case atStart => exact ⟨0, rfl, rfl, Nat.zero_le _, hrf, Lib.hid rfl⟩
  case round =>
    obtain ⟨j, rfl, rfl, hj, HE, HM⟩ := hrel
    by_cases hlt : j < l.length
    · obtain ⟨g, off, rfl⟩ := hR.at_ (by omega)
      obtain ⟨k0, k1⟩ := (hR.ext HE.out).cells hlt
      have i0 : (0 : Int) ≤ (j : Int) := by omega
      have i1 : (j : Int) < (l.length : Int) := by omega
      have i2 : decide ((j : Int) < (l.length : Int)) = true := decide_eq_true i1
      have HN := Lib.hid (mB_snoc l j hlt)
      have HS := Lib.hid (mB_stop l j hlt)
      clear hR
      generalize (mg l j).1 = p at *
      generalize (mg l j).2 = q at *
      go_wp2_with fail
      refine (HB.out p q _).mono ?_
      rintro e w4 ⟨rfl, hw4⟩
      have H4 := Lib.hid (HE.out.ext hw4)
      clear hw4
      cases hb : badM p q
      · have HN2 := Lib.hid (show mB (l.take (j + 1)) = true by rw [HN.out, HM.out, hb]; rfl)
        clear HN HS k0 k1
        go_wp2_with fail
        go_roundg (l.length - (j + 1))
        case measure => omega
        case rel => exact ⟨j + 1, by go_num, rfl, by omega, H4, HN2⟩
      · have HS2 := Lib.hid (HS.out hb)
        clear HN HS k0 k1
        go_wp2_with fail
        go_ret
        exact ⟨j, rfl, by rw [HS2.out, decide_eq_true i0]; rfl, H4.out⟩
    · obtain rfl : j = l.length := by omega
      have HT := Lib.hid (show mB l = true by have := HM.out; rwa [List.take_length] at this)
      clear hR
      go_wp2_with fail
      go_ret
      exact ⟨-1, rfl, by rw [HT.out]; rfl, HE.out⟩

theorem conf_x (l : List Mo) (S : Nat → Prop) (v : Value) (w : World) (hR : MoR S w v l) (hl : l.length ≤ 4611686018427387904) : Calls Try.prog 51 #[v, .func (.func 46) #[] #[]] w fun e w' => e = .returned (.bool (!mB l)) ∧ Ext w w' := by
  have HI := Lib.hid (fun W (h : Ext w W) => idxf_x l S v W (hR.ext h) hl)
  have hrf := Lib.hid (Upd.refl (fun _ => False) w)
  obtain ⟨a, cap, rfl⟩ := hR.shape
  clear hR
  generalize (!mB l) = Z at *
  go_enter Try.func51, Try.ntmps51
  go_wp2_with fail
  refine (HI.out _ hrf.out).mono ?_
  rintro e w4 ⟨r, rfl, hr, hw4⟩
  have H4 := Lib.hid hw4
  clear hw4
  subst hr
  go_wp2_with fail
  go_ret
  exact ⟨rfl, H4.out⟩

set_option maxHeartbeats 1000000 in
theorem rmots_x (l : List Mo) (S : Nat → Prop) (v : Value) (w : World) (hR : MoR S w v l) (hl : l.length ≤ 4611686018427387904) : Calls Try.prog 18 #[v] w fun e w' => e = .returned (.bool (mB l)) ∧ Ext w w' := by
  obtain ⟨a, cap, rfl⟩ := hR.shape
  have HB := Lib.hid rmotion_x
  have HR := Lib.hid hR
  have hrf := Lib.hid (Upd.refl (fun _ => False) w)
  generalize hz : mB l = Z
  have HZ := Lib.hid hz
  clear hz
  go_enter Try.func18, Try.ntmps18
  go_wp2_with fail
  go_loopg [3] l.length (fun gk i wr => ∃ j : Nat, i = .int .i64 j ∧ gk = l.length - j ∧ j ≤ l.length ∧ Hid (Ext w wr) ∧ Hid (mB (l.take j) = true))
  case atStart => exact ⟨0, rfl, rfl, Nat.zero_le _, hrf, Lib.hid rfl⟩
  case round =>
    obtain ⟨j, rfl, rfl, hj, HE, HM⟩ := hrel
    by_cases hlt : j < l.length
    · obtain ⟨g, off, rfl⟩ := hR.at_ (by omega)
      obtain ⟨k0, k1⟩ := (hR.ext HE.out).cells hlt
      have i0 : (0 : Int) ≤ (j : Int) := by omega
      have i1 : (j : Int) < (l.length : Int) := by omega
      have i2 : decide ((j : Int) < (l.length : Int)) = true := decide_eq_true i1
      have HN := Lib.hid (mB_snoc l j hlt)
      have HS := Lib.hid (mB_stop l j hlt)
      clear hR
      generalize (mg l j).1 = p at *
      generalize (mg l j).2 = q at *
      go_wp2_with fail
      refine (HB.out p q _).mono ?_
      rintro e w4 ⟨rfl, hw4⟩
      have H4 := Lib.hid (HE.out.ext hw4)
      clear hw4
      cases hb : badM p q
      · have HN2 := Lib.hid (show mB (l.take (j + 1)) = true by rw [HN.out, HM.out, hb]; rfl)
        clear HN HS k0 k1
        go_wp2_with fail
        go_roundg (l.length - (j + 1))
        case measure => omega
        case rel => exact ⟨j + 1, by go_num, rfl, by omega, H4, HN2⟩
      · have hS2 : Z = false := by rw [← HZ.out]; exact HS.out hb
        subst hS2
        clear HN HS k0 k1
        go_wp2_with fail
        go_ret
        exact ⟨rfl, H4.out⟩
    · obtain rfl : j = l.length := by omega
      have hT : Z = true := by rw [← HZ.out]; have := HM.out; rwa [List.take_length] at this
      subst hT
      clear hR
      go_wp2_with fail
      go_ret
      exact ⟨rfl, HE.out⟩

end Go.Proofs.Ytncnojhbdkhcjaa

/- cmp.Or. -/
namespace Go.Proofs.Ytncnojhbdkhcjaa
open Go.RowKit Go.Hw
set_option linter.unusedVariables false
set_option linter.unusedSimpArgs false

def or3 (x y z : Int) : Int := if x = 0 then (if y = 0 then z else y) else x
set_option maxHeartbeats 1000000 in
theorem or3_x (x y z : Int) (g : Nat) (w : World) (h0 : w.cell? ⟨g, 0, none⟩ = some (.int .i64 x)) (h1 : w.cell? ⟨g, 1, none⟩ = some (.int .i64 y)) (h2 : w.cell? ⟨g, 2, none⟩ = some (.int .i64 z)) :
    Calls Try.prog 72 #[.slice (some ⟨g, 0, none⟩) 3 3] w fun e w' => e = .returned (.int .i64 (or3 x y z)) ∧ w' = w := by
  unfold or3
  by_cases hx : x = 0
  · rw [if_pos hx]
    have t1 : (x != 0) = false := by simpa using hx
    by_cases hy : y = 0
    · rw [if_pos hy]
      have t2 : (y != 0) = false := by simpa using hy
      clear hx hy
      by_cases hz : z = 0
      · have t3 : (z != 0) = false := by simpa using hz
        go_enter Try.func72, Try.ntmps72
        go_wp2_with fail
        refine wp_loop_rounds 4 ?_
        iterate 4 (all_goals (try (rw [rounds_succ]; go_wp2_with fail)))
        subst hz
        go_ret
        exact ⟨rfl, rfl⟩
      · have t3 : (z != 0) = true := by simpa using hz
        clear hz
        go_enter Try.func72, Try.ntmps72
        go_wp2_with fail
        refine wp_loop_rounds 4 ?_
        iterate 4 (all_goals (try (rw [rounds_succ]; go_wp2_with fail)))
        go_ret
        exact ⟨rfl, rfl⟩
    · rw [if_neg hy]
      have t2 : (y != 0) = true := by simpa using hy
      clear hx hy
      go_enter Try.func72, Try.ntmps72
      go_wp2_with fail
      refine wp_loop_rounds 4 ?_
      iterate 4 (all_goals (try (rw [rounds_succ]; go_wp2_with fail)))
      go_ret
      exact ⟨rfl, rfl⟩
  · rw [if_neg hx]
    have t1 : (x != 0) = true := by simpa using hx
    clear hx
    go_enter Try.func72, Try.ntmps72
    go_wp2_with fail
    refine wp_loop_rounds 4 ?_
    iterate 4 (all_goals (try (rw [rounds_succ]; go_wp2_with fail)))
    go_ret
    exact ⟨rfl, rfl⟩

end Go.Proofs.Ytncnojhbdkhcjaa

/- The closure of order. -/
namespace Go.Proofs.Ytncnojhbdkhcjaa
open Go.RowKit Go.Hw
set_option linter.unusedVariables false
set_option linter.unusedSimpArgs false

/-- what the closure of order hands back -/
def cfK (l : List Mo) (n d : Int) (i j : Nat) : Int := or3 (Lib.compareInt (ps l n d i) (ps l n d j)) (Lib.compareInt (mg l i).2 (mg l j).2) (Lib.compareInt (i : Int) (j : Int))
set_option maxRecDepth 100000 in
set_option maxHeartbeats 2000000 in
theorem cl_x (bl bt g off cap : Nat) (l : List Mo) (n d : Int) (i j : Nat) (S : Nat → Prop) (w : World) (hi : i < l.length) (hj : j < l.length) (hm : mB l = true) (hv : vfB n d = true)
    (hS : w.cell? ⟨bl, 0, none⟩ = some (.slice (some ⟨g, off, none⟩) l.length cap)) (ht0 : w.cell? ⟨bt, 0, none⟩ = some (.int .i64 n)) (ht1 : w.cell? ⟨bt, 1, none⟩ = some (.int .i64 d)) (hR : MoR S w (.slice (some ⟨g, off, none⟩) l.length cap) l) :
    Calls Try.prog 71 #[.int .i64 i, .int .i64 j, .pointer (some ⟨bl, 0, none⟩), .pointer (some ⟨bt, 0, none⟩)] w fun e w' => e = .returned (.int .i64 (cfK l n d i j)) ∧ Go.HwD.ExtD w w' := by
  obtain ⟨i0, i1⟩ := hR.cells hi
  obtain ⟨j0, j1⟩ := hR.cells hj
  have hbi := mB_at hm i
  have hbj := mB_at hm j
  unfold cfK ps
  generalize (mg l i).1 = p at *
  generalize (mg l i).2 = q at *
  generalize (mg l j).1 = r at *
  generalize (mg l j).2 = u at *
  have HS1 : Hid (∀ W, Calls Try.prog 49 #[.agg #[.int .i64 p, .int .i64 q], .agg #[.int .i64 n, .int .i64 d]] W fun e w' => e = .returned (.int .i64 (p * d + q * n)) ∧ Go.HwD.ExtD W w') := Lib.hid (fun W => (scaled_x p q n d W hbi hv).mono fun e w' ⟨h, h'⟩ => ⟨h, h' ▸ (Go.HwD.ExtD.alloc W _).trans (Go.HwD.ExtD.alloc _ _)⟩)
  have HS2 : Hid (∀ W, Calls Try.prog 49 #[.agg #[.int .i64 r, .int .i64 u], .agg #[.int .i64 n, .int .i64 d]] W fun e w' => e = .returned (.int .i64 (r * d + u * n)) ∧ Go.HwD.ExtD W w') := Lib.hid (fun W => (scaled_x r u n d W hbj hv).mono fun e w' ⟨h, h'⟩ => ⟨h, h' ▸ (Go.HwD.ExtD.alloc W _).trans (Go.HwD.ExtD.alloc _ _)⟩)
  generalize p * d + q * n = P1 at *
  generalize r * d + u * n = P2 at *
  have HC1 : Hid (∀ W, Calls Try.prog 73 #[.int .i64 P1, .int .i64 P2] W fun e w' => e = .returned (.int .i64 (Lib.compareInt P1 P2)) ∧ Go.HwD.ExtD W w') := Lib.hid (fun W => (Try.cmp_Compare_int P1 P2 W).mono fun e w' ⟨h1, h2⟩ => ⟨h1, h2 ▸ Go.HwD.ExtD.refl _⟩)
  have HC2 : Hid (∀ W, Calls Try.prog 73 #[.int .i64 q, .int .i64 u] W fun e w' => e = .returned (.int .i64 (Lib.compareInt q u)) ∧ Go.HwD.ExtD W w') := Lib.hid (fun W => (Try.cmp_Compare_int q u W).mono fun e w' ⟨h1, h2⟩ => ⟨h1, h2 ▸ Go.HwD.ExtD.refl _⟩)
  have HC3 : Hid (∀ W, Calls Try.prog 73 #[.int .i64 i, .int .i64 j] W fun e w' => e = .returned (.int .i64 (Lib.compareInt (i : Int) (j : Int))) ∧ Go.HwD.ExtD W w') := Lib.hid (fun W => (Try.cmp_Compare_int i j W).mono fun e w' ⟨h1, h2⟩ => ⟨h1, h2 ▸ Go.HwD.ExtD.refl _⟩)
  generalize Lib.compareInt P1 P2 = C1 at *
  generalize Lib.compareInt q u = C2 at *
  generalize Lib.compareInt (i : Int) (j : Int) = C3 at *
  have HO : Hid (∀ W g, W.heap[g]? = some (.cells #[.int .i64 C1, .int .i64 C2, .int .i64 C3] 3 (0, 0)) → Calls Try.prog 72 #[.slice (some ⟨g, 0, none⟩) 3 3] W fun e w' => e = .returned (.int .i64 (or3 C1 C2 C3)) ∧ Go.HwD.ExtD W w') := Lib.hid (fun W g hg => (or3_x C1 C2 C3 g W (cellRow hg 0 _ rfl) (cellRow hg 1 _ rfl) (cellRow hg 2 _ rfl)).mono fun e w' ⟨h1, h2⟩ => ⟨h1, h2 ▸ Go.HwD.ExtD.refl _⟩)
  generalize hL : l.length = L at *
  have z1 : (0 : Int) ≤ (i : Int) := by omega
  have z2 : (i : Int) < (L : Int) := by omega
  have z3 : (0 : Int) ≤ (j : Int) := by omega
  have z4 : (j : Int) < (L : Int) := by omega
  have xs := fun x : XW w => x.ext.cell hS (fun h => h)
  have x0 := fun x : XW w => x.ext.cell ht0 (fun h => h)
  have x1 := fun x : XW w => x.ext.cell ht1 (fun h => h)
  have x2 := fun x : XW w => x.ext.cell i0 (fun h => h)
  have x3 := fun x : XW w => x.ext.cell i1 (fun h => h)
  have x4 := fun x : XW w => x.ext.cell j0 (fun h => h)
  have x5 := fun x : XW w => x.ext.cell j1 (fun h => h)
  clear hR hL hm hv hbi hbj hi hj hS ht0 ht1 i0 i1 j0 j1
  go_enter Try.func71, Try.ntmps71
  go_wp2_with fail
  refine Go.HwD.wp_region_par (α := Nat) 30 [] [[], [], [0, 1], [0, 1, 2], [], [0, 1, 2, 3, 4], [], [], [6, 7], [6, 7, 8], [], [0, 1, 2, 3, 4, 5, 6, 7, 8, 9, 10], [0, 1, 2, 3, 4, 5, 6, 7, 8, 9, 10, 11], [], [], [13, 14], [13, 14, 15], [13, 14, 15, 16], [], [], [18, 19], [18, 19, 20], [18, 19, 20, 21], [0, 1, 2, 3, 4, 5, 6, 7, 8, 9, 10, 11, 12, 13, 14, 15, 16, 17, 18, 19, 20, 21, 22], [], [], [0, 1, 2, 3, 4, 5, 6, 7, 8, 9, 10, 11, 12, 13, 14, 15, 16, 17, 18, 19, 20, 21, 22, 23, 24, 25], [0, 1, 2, 3, 4, 5, 6, 7, 8, 9, 10, 11, 12, 13, 14, 15, 16, 17, 18, 19, 20, 21, 22, 23, 24, 25, 26], [0, 1, 2, 3, 4, 5, 6, 7, 8, 9, 10, 11, 12, 13, 14, 15, 16, 17, 18, 19, 20, 21, 22, 23, 24, 25, 26, 27], [0, 1, 2, 3, 4, 5, 6, 7, 8, 9, 10, 11, 12, 13, 14, 15, 16, 17, 18, 19, 20, 21, 22, 23, 24, 25, 26, 27, 28]]
    [none, none, none, none, none, some (Go.HwD.annVal (.int .i64 P1)), none, none, none, none, none, some (Go.HwD.annVal (.int .i64 P2)), some (Go.HwD.annVal (.int .i64 C1)), none, none, none, none, none, none, none, none, none, none, some (Go.HwD.annVal (.int .i64 C2)), none, none, some (Go.HwD.annVal (.int .i64 C3)), some (Go.HwD.annBlk (fun g => .slice (some ⟨g, 0, none⟩) 3 3) (fun g => g) 0 (.cells #[.int .i64 C1, .int .i64 C2, .int .i64 C3] 3)), some (Go.HwD.annVal (.int .i64 (or3 C1 C2 C3))), none]
    [false, false, false, false, false, true, false, false, false, false, false, true, true, false, false, false, false, false, false, false, false, false, false, true, false, false, true, true, true, false] (by kernel_rfl) (by kernel_rfl) rfl (fun _ _ d _ _ h => by cases d <;> exact h) ?_
  simp only [List.take_succ_cons, List.take_zero, pickO, List.getElem?_cons_zero, List.getElem?_cons_succ]
  refine Go.HwD.can_pure0 rfl (fun K hK => ?_); go_simp; refine hK _ ?_; clear hK K
  refine Go.HwD.can_pure0 rfl (fun K hK => ?_); go_simp; refine hK _ ?_; clear hK K
  refine Go.HwD.can_pure0 rfl (fun K hK => ?_); go_simp; refine hK _ ?_; clear hK K
  refine Go.HwD.can_pure0 rfl (fun K hK => ?_); go_simp; refine hK _ ?_; clear hK K
  refine Go.HwD.can_pure0 rfl (fun K hK => ?_); go_simp; refine hK _ ?_; clear hK K
  refine Go.HwD.can_mem _ rfl (by go_simp) (fun W hW hG K hK => ?_) (fun K x2 hK => ?_)
  · go_simp
    refine (HS1.out W).mono ?_
    rintro e w' ⟨rfl, h⟩
    exact hK default w' h trivial
  refine hK _ ?_; clear hK K
  dsimp only [Go.HwD.annVal]
  refine Go.HwD.can_pure0 rfl (fun K hK => ?_); go_simp; refine hK _ ?_; clear hK K
  refine Go.HwD.can_pure0 rfl (fun K hK => ?_); go_simp; refine hK _ ?_; clear hK K
  refine Go.HwD.can_pure0 rfl (fun K hK => ?_); go_simp; refine hK _ ?_; clear hK K
  refine Go.HwD.can_pure0 rfl (fun K hK => ?_); go_simp; refine hK _ ?_; clear hK K
  refine Go.HwD.can_pure0 rfl (fun K hK => ?_); go_simp; refine hK _ ?_; clear hK K
  refine Go.HwD.can_mem _ rfl (by go_simp) (fun W hW hG K hK => ?_) (fun K x2 hK => ?_)
  · go_simp
    refine (HS2.out W).mono ?_
    rintro e w' ⟨rfl, h⟩
    exact hK default w' h trivial
  refine hK _ ?_; clear hK K
  dsimp only [Go.HwD.annVal]
  refine Go.HwD.can_mem _ rfl (by go_simp) (fun W hW hG K hK => ?_) (fun K x2 hK => ?_)
  · go_simp
    refine (HC1.out W).mono ?_
    rintro e w' ⟨rfl, h⟩
    exact hK default w' h trivial
  refine hK _ ?_; clear hK K
  dsimp only [Go.HwD.annVal]
  refine Go.HwD.can_pure0 rfl (fun K hK => ?_); go_simp; refine hK _ ?_; clear hK K
  refine Go.HwD.can_pure0 rfl (fun K hK => ?_); go_simp; refine hK _ ?_; clear hK K
  refine Go.HwD.can_pure0 rfl (fun K hK => ?_); go_simp; refine hK _ ?_; clear hK K
  refine Go.HwD.can_pure0 rfl (fun K hK => ?_); go_simp; refine hK _ ?_; clear hK K
  refine Go.HwD.can_pure0 rfl (fun K hK => ?_); go_simp; refine hK _ ?_; clear hK K
  refine Go.HwD.can_pure0 rfl (fun K hK => ?_); go_simp; refine hK _ ?_; clear hK K
  refine Go.HwD.can_pure0 rfl (fun K hK => ?_); go_simp; refine hK _ ?_; clear hK K
  refine Go.HwD.can_pure0 rfl (fun K hK => ?_); go_simp; refine hK _ ?_; clear hK K
  refine Go.HwD.can_pure0 rfl (fun K hK => ?_); go_simp; refine hK _ ?_; clear hK K
  refine Go.HwD.can_pure0 rfl (fun K hK => ?_); go_simp; refine hK _ ?_; clear hK K
  refine Go.HwD.can_mem _ rfl (by go_simp) (fun W hW hG K hK => ?_) (fun K x2 hK => ?_)
  · go_simp
    refine (HC2.out W).mono ?_
    rintro e w' ⟨rfl, h⟩
    exact hK default w' h trivial
  refine hK _ ?_; clear hK K
  dsimp only [Go.HwD.annVal]
  refine Go.HwD.can_pure0 rfl (fun K hK => ?_); go_simp; refine hK _ ?_; clear hK K
  refine Go.HwD.can_pure0 rfl (fun K hK => ?_); go_simp; refine hK _ ?_; clear hK K
  refine Go.HwD.can_mem _ rfl (by go_simp) (fun W hW hG K hK => ?_) (fun K x2 hK => ?_)
  · go_simp
    refine (HC3.out W).mono ?_
    rintro e w' ⟨rfl, h⟩
    exact hK default w' h trivial
  refine hK _ ?_; clear hK K
  dsimp only [Go.HwD.annVal]
  refine Go.HwD.can_mem _ rfl (by go_simp) (fun W hW hG K hK => ?_) (fun K g9 hK => ?_)
  · go_simp
    exact hK W.heap.size _ (Go.HwD.ExtD.alloc W _) ⟨Nat.zero_le _, alloc0 _ _⟩
  refine hK _ ?_; clear hK K
  dsimp only [Go.HwD.annBlk]
  refine Go.HwD.can_mem _ rfl (by go_simp) (fun W hW hG K hK => ?_) (fun K x2 hK => ?_)
  · have h2 := hG _ (List.mem_append_right _ (List.mem_singleton.2 rfl)) (by show (27 : Nat) ∈ _; decide)
    go_simp
    refine (HO.out W g9 h2.2).mono ?_
    rintro e w' ⟨rfl, h⟩
    exact hK default w' h trivial
  refine hK _ ?_; clear hK K
  dsimp only [Go.HwD.annVal]
  refine Go.HwD.can_pure0 rfl (fun K hK => ?_); go_simp; refine hK _ ?_; clear hK K
  refine Go.HwD.can_end (fun w8 hW hG => ?_)
  clear hG
  have HW := Lib.hid hW
  clear hW
  try simp only [wpMix]
  go_wp2_with fail
  go_ret
  exact ⟨rfl, HW.out⟩

end Go.Proofs.Ytncnojhbdkhcjaa

/- The order of the points. -/
namespace Go.Proofs.Ytncnojhbdkhcjaa
open Go.RowKit Go.Hw
set_option linter.unusedVariables false
set_option linter.unusedSimpArgs false

open Go.Sort
theorem lessK_iff (l : List Mo) (n d : Int) (a b : Nat) : lessK l n d a b = true ↔ ps l n d a < ps l n d b ∨ (ps l n d a = ps l n d b ∧ ((mg l a).2 < (mg l b).2 ∨ ((mg l a).2 = (mg l b).2 ∧ a < b))) := by
  unfold lessK
  split
  · rename_i h
    split
    · rename_i h2
      rw [decide_eq_true_eq]
      omega
    · rw [decide_eq_true_eq]
      omega
  · rw [decide_eq_true_eq]
    omega
theorem lessK_irrefl (l : List Mo) (n d : Int) (a : Nat) : lessK l n d a a = false := by
  rw [← Bool.not_eq_true, lessK_iff]
  omega
theorem lessK_trans {l : List Mo} {n d : Int} {a b c : Nat} (h1 : lessK l n d a b = true) (h2 : lessK l n d b c = true) : lessK l n d a c = true := by
  rw [lessK_iff] at *
  omega
theorem lessK_asymm {l : List Mo} {n d : Int} {a b : Nat} (h1 : lessK l n d a b = true) : lessK l n d b a = false := by
  rw [← Bool.not_eq_true, lessK_iff]
  rw [lessK_iff] at h1
  omega
theorem lessK_tot (l : List Mo) (n d : Int) (a b : Nat) (h : a ≠ b) : lessK l n d a b = true ∨ lessK l n d b a = true := by
  rw [lessK_iff, lessK_iff]
  omega
theorem lessK_ntrans {l : List Mo} {n d : Int} {a b c : Nat} (h1 : lessK l n d a b = false) (h2 : lessK l n d b c = false) : lessK l n d a c = false := by
  rw [← Bool.not_eq_true, lessK_iff] at *
  omega
def leK (l : List Mo) (n d : Int) (a b : Nat) : Bool := !lessK l n d b a
/-- the order of the points at a time -/
def ordF (l : List Mo) (n d : Int) : List Nat := (List.range l.length).mergeSort (leK l n d)
theorem ordF_perm (l : List Mo) (n d : Int) : (ordF l n d).Perm (List.range l.length) := List.mergeSort_perm _ _
theorem ordF_len (l : List Mo) (n d : Int) : (ordF l n d).length = l.length := by rw [(ordF_perm l n d).length_eq, List.length_range]
theorem ordF_mem (l : List Mo) (n d : Int) (a : Nat) : a ∈ ordF l n d ↔ a < l.length := by rw [(ordF_perm l n d).mem_iff, List.mem_range]
theorem ordF_nodup (l : List Mo) (n d : Int) : (ordF l n d).Nodup := (ordF_perm l n d).nodup_iff.2 List.nodup_range
theorem ordF_sorted (l : List Mo) (n d : Int) : (ordF l n d).Pairwise (fun a b => lessK l n d a b = true) := by
  have h := List.pairwise_mergeSort (le := leK l n d) (fun a b c h1 h2 => by
    unfold leK at *
    rw [Bool.not_eq_true'] at *
    exact lessK_ntrans h2 h1) (fun a b => by
    unfold leK
    rcases Nat.decEq a b with h | h
    · rcases lessK_tot l n d a b h with h | h
      · rw [lessK_asymm h]; rfl
      · rw [lessK_asymm h]; simp
    · subst h; rw [lessK_irrefl]; rfl) (List.range l.length)
  refine (h.and (ordF_nodup l n d)).imp ?_
  intro a b ⟨h1, h2⟩
  unfold leK at h1
  rw [Bool.not_eq_true'] at h1
  rcases lessK_tot l n d a b h2 with h | h
  · exact h
  · rw [h] at h1; cases h1
theorem ord_unique {l : List Mo} {n d : Int} {L : List Nat} (hp : L.Perm (List.range l.length)) (hs : L.Pairwise (fun a b => lessK l n d a b = true)) : L = ordF l n d :=
  List.Perm.eq_of_pairwise (le := fun a b => lessK l n d a b = true) (fun a b _ _ h1 h2 => by rw [lessK_asymm h1] at h2; cases h2) hs (ordF_sorted l n d) (hp.trans (ordF_perm l n d).symm)

/-- the order by the closure -/
def cfF {m : Nat} (l : List Mo) (n d : Int) (x y : Fin m) : Int := cfK l n d x y
theorem cfF_lt {m : Nat} (l : List Mo) (n d : Int) (x y : Fin m) : ltOf (cfF l n d) x y = lessK l n d x y := by
  rw [Bool.eq_iff_iff, lessK_iff]
  unfold ltOf cfF cfK or3 Lib.compareInt
  rw [decide_eq_true_eq]
  have : ((x : Nat) : Int) < ((y : Nat) : Int) ↔ (x : Nat) < (y : Nat) := by omega
  split <;> split <;> (try split) <;> (try split) <;> (try split) <;> (try split) <;> (try split) <;> (try split) <;> omega
theorem cfF_swo {m : Nat} (l : List Mo) (n d : Int) : SWO (ltOf (cfF (m := m) l n d)) where
  irrefl x := by rw [cfF_lt]; exact lessK_irrefl _ _ _ _
  trans x y z h1 h2 := by rw [cfF_lt] at *; exact lessK_trans h1 h2
  ntrans x y z h1 h2 := by rw [cfF_lt] at *; exact lessK_ntrans h1 h2
theorem cfF_tot {m : Nat} (l : List Mo) (n d : Int) (x y : Fin m) (h1 : ltOf (cfF l n d) x y = false) (h2 : ltOf (cfF l n d) y x = false) : x = y := by
  rw [cfF_lt] at *
  rcases Nat.decEq x.1 y.1 with h | h
  · rcases lessK_tot l n d x y h with h | h
    · rw [h] at h1; cases h1
    · rw [h] at h2; cases h2
  · exact Fin.ext h
theorem ordF_fin (l : List Mo) (n d : Int) : ((List.finRange l.length).mergeSort fun x y => !(ltOf (cfF l n d)) y x).map (fun x => x.1) = ordF l n d := by
  rw [List.map_mergeSort (s := leK l n d) (fun a _ b _ => by rw [cfF_lt]; rfl)]
  unfold ordF
  congr 1
  apply List.ext_getElem
  · simp
  · intro i h1 h2; simp

end Go.Proofs.Ytncnojhbdkhcjaa
