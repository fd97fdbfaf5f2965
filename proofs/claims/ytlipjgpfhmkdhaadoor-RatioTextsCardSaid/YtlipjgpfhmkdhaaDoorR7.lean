/- Add, Sub, Mul, Div. -/
import Derived.Test.YtlipjgpfhmkdhaaDoorR6
namespace Go.Proofs.YtlipjgpfhmkdhaaDoor
open Go.RowKit Go.Hw
set_option linter.unusedVariables false
set_option linter.unusedSimpArgs false

theorem mul_bd {x y : Int} (hx : -1073741824 ≤ x ∧ x ≤ 1073741824) (hy : -1073741824 ≤ y ∧ y ≤ 1073741824) : -1152921504606846976 ≤ x * y ∧ x * y ≤ 1152921504606846976 := by
  have h1 : (x * y).natAbs ≤ 1073741824 * 1073741824 := by rw [Int.natAbs_mul]; exact Nat.mul_le_mul (by omega) (by omega)
  omega
theorem vf_bd {n d : Int} (h : vfB n d = true) : (-1073741824 ≤ n ∧ n ≤ 1073741824) ∧ (1 ≤ d ∧ d ≤ 1073741824) ∧ (-1073741824 ≤ d ∧ d ≤ 1073741824) := by
  have := ((vfB_iff n d).1 h).1
  omega

set_option maxRecDepth 100000 in
set_option maxHeartbeats 1000000 in
theorem add_bad (a b c d : Int) (w : World) (ha0 : -9223372036854775808 ≤ a) (ha1 : a ≤ 9223372036854775807) (hb0 : -9223372036854775808 ≤ b) (hb1 : b ≤ 9223372036854775807) (hc0 : -9223372036854775808 ≤ c) (hc1 : c ≤ 9223372036854775807) (hd0 : -9223372036854775808 ≤ d) (hd1 : d ≤ 9223372036854775807) (hv : (vfB a b && vfB c d) = false) : Calls Tryd.prog 20 #[.agg #[.int .i64 a, .int .i64 b], .agg #[.int .i64 c, .int .i64 d]] w fun e w' => e = .returned (.tuple #[.agg #[.int .i64 0, .int .i64 0], .int .i64 1]) ∧ Ext w w' := by
  have CO := Lib.hid (fun (n e : Int) (W : World) => op_bad a b c d W ha0 ha1 hb0 hb1 hc0 hc1 hd0 hd1 n e hv)
  have HE0 : Hid (Ext w (((w.alloc (.cells #[.int .i64 a, .int .i64 b] 24)).alloc (.cells #[.int .i64 c, .int .i64 d] 24)).alloc (.cells #[.int .i64 0, .int .i64 0] 24))) := (((Upd.refl _ w).alloc _).alloc _).alloc _
  have hbA := allocOld (allocOld (alloc0 w (.cells #[.int .i64 a, .int .i64 b] 24)) (.cells #[.int .i64 c, .int .i64 d] 24)) (.cells #[.int .i64 0, .int .i64 0] 24)
  have hbB := allocOld (alloc_at (w.alloc (.cells #[.int .i64 a, .int .i64 b] 24)) (.cells #[.int .i64 c, .int .i64 d] 24) (n := w.heap.size + 1) (by simp)) (.cells #[.int .i64 0, .int .i64 0] 24)
  have hbZ := alloc_at ((w.alloc (.cells #[.int .i64 a, .int .i64 b] 24)).alloc (.cells #[.int .i64 c, .int .i64 d] 24)) (.cells #[.int .i64 0, .int .i64 0] 24) (n := w.heap.size + 1 + 1) (by simp)
  have HX : Hid (∀ W, Ext (((w.alloc (.cells #[.int .i64 a, .int .i64 b] 24)).alloc (.cells #[.int .i64 c, .int .i64 d] 24)).alloc (.cells #[.int .i64 0, .int .i64 0] 24)) W → (W.cell? ⟨w.heap.size, 0, none⟩ = some (.int .i64 a) ∧ W.cell? ⟨w.heap.size, 1, none⟩ = some (.int .i64 b) ∧ W.cell? ⟨w.heap.size + 1, 0, none⟩ = some (.int .i64 c) ∧ W.cell? ⟨w.heap.size + 1, 1, none⟩ = some (.int .i64 d)) ∧ W.heap[w.heap.size + 1 + 1]? = some (.cells #[.int .i64 0, .int .i64 0] 24)) := fun W hW =>
    ⟨⟨cellRow (hW.heap hbA (fun h => h)) 0 _ rfl, cellRow (hW.heap hbA (fun h => h)) 1 _ rfl, cellRow (hW.heap hbB (fun h => h)) 0 _ rfl, cellRow (hW.heap hbB (fun h => h)) 1 _ rfl⟩, hW.heap hbZ (fun h => h)⟩
  obtain ⟨⟨k0, k1, k2, k3⟩, hz⟩ := HX.out _ (Upd.refl _ _)
  have z0 := cellRow hz 0 _ rfl
  have z1 := cellRow hz 1 _ rfl
  have m0 := frozenRow hz 0
  have m1 := frozenRow hz 1
  clear hbA hbB hbZ hz
  have hs : w.heap.size ≤ w.heap.size + 1 + 1 := by omega
  clear hv ha0 ha1 hb0 hb1 hc0 hc1 hd0 hd1
  go_enter Tryd.func20, Tryd.ntmps20
  go_wp2_with fail
  refine (CO.out _ _ _).mono ?_
  rintro e w4 ⟨rfl, hw4⟩
  have H4 := Lib.hid (hw4)
  clear hw4 k0 k1 k2 k3 z0 z1 m0 m1
  obtain ⟨⟨k0, k1, k2, k3⟩, hz⟩ := HX.out _ H4.out
  have z0 := cellRow hz 0 _ rfl
  have z1 := cellRow hz 1 _ rfl
  have m0 := frozenRow hz 0
  have m1 := frozenRow hz 1
  clear hz
  go_wp2_with fail
  exact bodyPost_ret (v := .tuple #[.agg #[.int .i64 0, .int .i64 0], .int .i64 1]) (by simp [results, Tryd.results20, go_sem, z0, z1]) rfl ⟨rfl, ((HE0.out.ext H4.out).setNew (by omega) _).setNew (by omega) _⟩

set_option maxRecDepth 100000 in
set_option maxHeartbeats 1000000 in
theorem add_ok (a b c d : Int) (w : World) (ha0 : -9223372036854775808 ≤ a) (ha1 : a ≤ 9223372036854775807) (hb0 : -9223372036854775808 ≤ b) (hb1 : b ≤ 9223372036854775807) (hc0 : -9223372036854775808 ≤ c) (hc1 : c ≤ 9223372036854775807) (hd0 : -9223372036854775808 ≤ d) (hd1 : d ≤ 9223372036854775807) (hv : vfB a b = true ∧ vfB c d = true) : Calls Tryd.prog 20 #[.agg #[.int .i64 a, .int .i64 b], .agg #[.int .i64 c, .int .i64 d]] w fun x w' => x = .returned (.tuple #[.agg #[.int .i64 (mkN (a * d + c * b) (b * d)), .int .i64 (mkD (a * d + c * b) (b * d))], .int .i64 (mkE (a * d + c * b) (b * d))]) ∧ Ext w w' := by
  obtain ⟨va, vb, vb'⟩ := vf_bd hv.1
  obtain ⟨vc, vd, vd'⟩ := vf_bd hv.2
  have pad := mul_bd va vd'
  have pcb := mul_bd vc vb'
  have pbd := mul_bd vb' vd'
  have pac := mul_bd va vc
  have pbc := mul_bd vb' vc
  have CO : Hid (∀ W, Calls Tryd.prog 44 #[.agg #[.int .i64 a, .int .i64 b], .agg #[.int .i64 c, .int .i64 d], .int .i64 (a * d + c * b), .int .i64 (b * d)] W fun x w' => x = .returned (.tuple #[.agg #[.int .i64 (mkN (a * d + c * b) (b * d)), .int .i64 (mkD (a * d + c * b) (b * d))], .int .i64 (mkE (a * d + c * b) (b * d))]) ∧ Ext W w') := fun W => op_ok a b c d W ha0 ha1 hb0 hb1 hc0 hc1 hd0 hd1 (a * d + c * b) (b * d) (by omega) (by omega) (by omega) (by omega) (by rw [hv.1, hv.2]; rfl)
  have HE0 : Hid (Ext w (((w.alloc (.cells #[.int .i64 a, .int .i64 b] 24)).alloc (.cells #[.int .i64 c, .int .i64 d] 24)).alloc (.cells #[.int .i64 0, .int .i64 0] 24))) := (((Upd.refl _ w).alloc _).alloc _).alloc _
  have hbA := allocOld (allocOld (alloc0 w (.cells #[.int .i64 a, .int .i64 b] 24)) (.cells #[.int .i64 c, .int .i64 d] 24)) (.cells #[.int .i64 0, .int .i64 0] 24)
  have hbB := allocOld (alloc_at (w.alloc (.cells #[.int .i64 a, .int .i64 b] 24)) (.cells #[.int .i64 c, .int .i64 d] 24) (n := w.heap.size + 1) (by simp)) (.cells #[.int .i64 0, .int .i64 0] 24)
  have hbZ := alloc_at ((w.alloc (.cells #[.int .i64 a, .int .i64 b] 24)).alloc (.cells #[.int .i64 c, .int .i64 d] 24)) (.cells #[.int .i64 0, .int .i64 0] 24) (n := w.heap.size + 1 + 1) (by simp)
  have HX : Hid (∀ W, Ext (((w.alloc (.cells #[.int .i64 a, .int .i64 b] 24)).alloc (.cells #[.int .i64 c, .int .i64 d] 24)).alloc (.cells #[.int .i64 0, .int .i64 0] 24)) W → (W.cell? ⟨w.heap.size, 0, none⟩ = some (.int .i64 a) ∧ W.cell? ⟨w.heap.size, 1, none⟩ = some (.int .i64 b) ∧ W.cell? ⟨w.heap.size + 1, 0, none⟩ = some (.int .i64 c) ∧ W.cell? ⟨w.heap.size + 1, 1, none⟩ = some (.int .i64 d)) ∧ W.heap[w.heap.size + 1 + 1]? = some (.cells #[.int .i64 0, .int .i64 0] 24)) := fun W hW =>
    ⟨⟨cellRow (hW.heap hbA (fun h => h)) 0 _ rfl, cellRow (hW.heap hbA (fun h => h)) 1 _ rfl, cellRow (hW.heap hbB (fun h => h)) 0 _ rfl, cellRow (hW.heap hbB (fun h => h)) 1 _ rfl⟩, hW.heap hbZ (fun h => h)⟩
  obtain ⟨⟨k0, k1, k2, k3⟩, hz⟩ := HX.out _ (Upd.refl _ _)
  have z0 := cellRow hz 0 _ rfl
  have z1 := cellRow hz 1 _ rfl
  have m0 := frozenRow hz 0
  have m1 := frozenRow hz 1
  clear hbA hbB hbZ hz
  have hs : w.heap.size ≤ w.heap.size + 1 + 1 := by omega
  clear hv ha0 ha1 hb0 hb1 hc0 hc1 hd0 hd1
  generalize mkN (a * d + c * b) (b * d) = N at *
  generalize mkD (a * d + c * b) (b * d) = D at *
  generalize mkE (a * d + c * b) (b * d) = E at *
  go_enter Tryd.func20, Tryd.ntmps20
  go_wp2_with fail
  refine (CO.out _).mono ?_
  rintro e w4 ⟨rfl, hw4⟩
  have H4 := Lib.hid (hw4)
  clear hw4 k0 k1 k2 k3 z0 z1 m0 m1
  obtain ⟨⟨k0, k1, k2, k3⟩, hz⟩ := HX.out _ H4.out
  have z0 := cellRow hz 0 _ rfl
  have z1 := cellRow hz 1 _ rfl
  have m0 := frozenRow hz 0
  have m1 := frozenRow hz 1
  clear hz
  go_wp2_with fail
  exact bodyPost_ret (v := .tuple #[.agg #[.int .i64 N, .int .i64 D], .int .i64 E]) (by simp [results, Tryd.results20, go_sem, z0, z1]) rfl ⟨rfl, ((HE0.out.ext H4.out).setNew (by omega) _).setNew (by omega) _⟩

set_option maxRecDepth 100000 in
set_option maxHeartbeats 1000000 in
theorem radd_bad (a b c d : Int) (w : World) (hv : (vfB a b && vfB c d) = false) : Calls Tryd.prog 24 #[.agg #[.int .i64 a, .int .i64 b], .agg #[.int .i64 c, .int .i64 d]] w fun e w' => e = .returned (.tuple #[.agg #[.int .i64 0, .int .i64 0], .int .i64 1]) ∧ Ext w w' := by
  have CV := Lib.hid (fun (x y : Int) (W : World) => rvalid_x x y W)
  have HE0 : Hid (Ext w (((w.alloc (.cells #[.int .i64 a, .int .i64 b] 24)).alloc (.cells #[.int .i64 c, .int .i64 d] 24)).alloc (.cells #[.int .i64 0, .int .i64 0] 24))) := (((Upd.refl _ w).alloc _).alloc _).alloc _
  have hbA := allocOld (allocOld (alloc0 w (.cells #[.int .i64 a, .int .i64 b] 24)) (.cells #[.int .i64 c, .int .i64 d] 24)) (.cells #[.int .i64 0, .int .i64 0] 24)
  have hbB := allocOld (alloc_at (w.alloc (.cells #[.int .i64 a, .int .i64 b] 24)) (.cells #[.int .i64 c, .int .i64 d] 24) (n := w.heap.size + 1) (by simp)) (.cells #[.int .i64 0, .int .i64 0] 24)
  have hbZ := alloc_at ((w.alloc (.cells #[.int .i64 a, .int .i64 b] 24)).alloc (.cells #[.int .i64 c, .int .i64 d] 24)) (.cells #[.int .i64 0, .int .i64 0] 24) (n := w.heap.size + 1 + 1) (by simp)
  have HX : Hid (∀ W, Ext (((w.alloc (.cells #[.int .i64 a, .int .i64 b] 24)).alloc (.cells #[.int .i64 c, .int .i64 d] 24)).alloc (.cells #[.int .i64 0, .int .i64 0] 24)) W → (W.cell? ⟨w.heap.size, 0, none⟩ = some (.int .i64 a) ∧ W.cell? ⟨w.heap.size, 1, none⟩ = some (.int .i64 b) ∧ W.cell? ⟨w.heap.size + 1, 0, none⟩ = some (.int .i64 c) ∧ W.cell? ⟨w.heap.size + 1, 1, none⟩ = some (.int .i64 d)) ∧ W.heap[w.heap.size + 1 + 1]? = some (.cells #[.int .i64 0, .int .i64 0] 24)) := fun W hW =>
    ⟨⟨cellRow (hW.heap hbA (fun h => h)) 0 _ rfl, cellRow (hW.heap hbA (fun h => h)) 1 _ rfl, cellRow (hW.heap hbB (fun h => h)) 0 _ rfl, cellRow (hW.heap hbB (fun h => h)) 1 _ rfl⟩, hW.heap hbZ (fun h => h)⟩
  obtain ⟨⟨k0, k1, k2, k3⟩, hz⟩ := HX.out _ (Upd.refl _ _)
  have z0 := cellRow hz 0 _ rfl
  have z1 := cellRow hz 1 _ rfl
  have m0 := frozenRow hz 0
  have m1 := frozenRow hz 1
  clear hbA hbB hbZ hz
  have hs : w.heap.size ≤ w.heap.size + 1 + 1 := by omega
  cases h1 : vfB a b
  · have C1 : Hid (∀ W, Calls Tryd.prog 16 #[.agg #[.int .i64 a, .int .i64 b]] W fun e w' => e = .returned (.bool false) ∧ Ext W w') := fun W => by have := CV.out a b W; rw [h1] at this; exact this
    clear h1 hv CV
    go_enter Tryd.func24, Tryd.ntmps24
    go_wp2_with fail
    refine (C1.out _).mono ?_
    rintro e w4 ⟨rfl, hw4⟩
    have H4 := Lib.hid (hw4)
    clear hw4 k0 k1 k2 k3 z0 z1 m0 m1
    obtain ⟨⟨k0, k1, k2, k3⟩, hz⟩ := HX.out _ H4.out
    have z0 := cellRow hz 0 _ rfl
    have z1 := cellRow hz 1 _ rfl
    have m0 := frozenRow hz 0
    have m1 := frozenRow hz 1
    clear hz
    go_wp2_with fail
    exact bodyPost_ret (v := .tuple #[.agg #[.int .i64 0, .int .i64 0], .int .i64 1]) (by simp [results, Tryd.results24, go_sem, z0, z1]) rfl ⟨rfl, ((HE0.out.ext H4.out).setNew (by omega) _).setNew (by omega) _⟩
  · have h2 : vfB c d = false := by rw [h1] at hv; exact hv
    have C1 : Hid (∀ W, Calls Tryd.prog 16 #[.agg #[.int .i64 a, .int .i64 b]] W fun e w' => e = .returned (.bool true) ∧ Ext W w') := fun W => by have := CV.out a b W; rw [h1] at this; exact this
    have C2 : Hid (∀ W, Calls Tryd.prog 16 #[.agg #[.int .i64 c, .int .i64 d]] W fun e w' => e = .returned (.bool false) ∧ Ext W w') := fun W => by have := CV.out c d W; rw [h2] at this; exact this
    clear h1 h2 hv CV
    go_enter Tryd.func24, Tryd.ntmps24
    go_wp2_with fail
    refine (C1.out _).mono ?_
    rintro e w4 ⟨rfl, hw4⟩
    have H4 := Lib.hid (hw4)
    clear hw4 k0 k1 k2 k3 z0 z1 m0 m1
    obtain ⟨⟨k0, k1, k2, k3⟩, hz⟩ := HX.out _ H4.out
    have z0 := cellRow hz 0 _ rfl
    have z1 := cellRow hz 1 _ rfl
    have m0 := frozenRow hz 0
    have m1 := frozenRow hz 1
    clear hz
    go_wp2_with fail
    refine (C2.out _).mono ?_
    rintro e w5 ⟨rfl, hw5⟩
    have H5 := Lib.hid (H4.out.ext hw5)
    clear hw5 k0 k1 k2 k3 z0 z1 m0 m1
    obtain ⟨⟨k0, k1, k2, k3⟩, hz⟩ := HX.out _ H5.out
    have z0 := cellRow hz 0 _ rfl
    have z1 := cellRow hz 1 _ rfl
    have m0 := frozenRow hz 0
    have m1 := frozenRow hz 1
    clear hz
    go_wp2_with fail
    exact bodyPost_ret (v := .tuple #[.agg #[.int .i64 0, .int .i64 0], .int .i64 1]) (by simp [results, Tryd.results24, go_sem, z0, z1]) rfl ⟨rfl, ((HE0.out.ext H5.out).setNew (by omega) _).setNew (by omega) _⟩

set_option maxRecDepth 100000 in
set_option maxHeartbeats 1000000 in
theorem radd_ok (a b c d : Int) (w : World) (hv : vfB a b = true ∧ vfB c d = true) : Calls Tryd.prog 24 #[.agg #[.int .i64 a, .int .i64 b], .agg #[.int .i64 c, .int .i64 d]] w fun x w' => x = .returned (.tuple #[.agg #[.int .i64 (mkN (a * d + c * b) (b * d)), .int .i64 (mkD (a * d + c * b) (b * d))], .int .i64 (mkE (a * d + c * b) (b * d))]) ∧ Ext w w' := by
  obtain ⟨va, vb, vb'⟩ := vf_bd hv.1
  obtain ⟨vc, vd, vd'⟩ := vf_bd hv.2
  have pad := mul_bd va vd'
  have pcb := mul_bd vc vb'
  have pbd := mul_bd vb' vd'
  have pac := mul_bd va vc
  have pbc := mul_bd vb' vc
  have CO : Hid (∀ W, Calls Tryd.prog 14 #[.int .i64 (a * d + c * b), .int .i64 (b * d)] W fun x w' => x = .returned (.tuple #[.agg #[.int .i64 (mkN (a * d + c * b) (b * d)), .int .i64 (mkD (a * d + c * b) (b * d))], .int .i64 (mkE (a * d + c * b) (b * d))]) ∧ Ext W w') := fun W => rmk_x (a * d + c * b) (b * d) W (by omega) (by omega) (by omega) (by omega)
  have C1 : Hid (∀ W, Calls Tryd.prog 16 #[.agg #[.int .i64 a, .int .i64 b]] W fun e w' => e = .returned (.bool true) ∧ Ext W w') := fun W => by have := rvalid_x a b W; rw [hv.1] at this; exact this
  have C2 : Hid (∀ W, Calls Tryd.prog 16 #[.agg #[.int .i64 c, .int .i64 d]] W fun e w' => e = .returned (.bool true) ∧ Ext W w') := fun W => by have := rvalid_x c d W; rw [hv.2] at this; exact this
  have HE0 : Hid (Ext w (((w.alloc (.cells #[.int .i64 a, .int .i64 b] 24)).alloc (.cells #[.int .i64 c, .int .i64 d] 24)).alloc (.cells #[.int .i64 0, .int .i64 0] 24))) := (((Upd.refl _ w).alloc _).alloc _).alloc _
  have hbA := allocOld (allocOld (alloc0 w (.cells #[.int .i64 a, .int .i64 b] 24)) (.cells #[.int .i64 c, .int .i64 d] 24)) (.cells #[.int .i64 0, .int .i64 0] 24)
  have hbB := allocOld (alloc_at (w.alloc (.cells #[.int .i64 a, .int .i64 b] 24)) (.cells #[.int .i64 c, .int .i64 d] 24) (n := w.heap.size + 1) (by simp)) (.cells #[.int .i64 0, .int .i64 0] 24)
  have hbZ := alloc_at ((w.alloc (.cells #[.int .i64 a, .int .i64 b] 24)).alloc (.cells #[.int .i64 c, .int .i64 d] 24)) (.cells #[.int .i64 0, .int .i64 0] 24) (n := w.heap.size + 1 + 1) (by simp)
  have HX : Hid (∀ W, Ext (((w.alloc (.cells #[.int .i64 a, .int .i64 b] 24)).alloc (.cells #[.int .i64 c, .int .i64 d] 24)).alloc (.cells #[.int .i64 0, .int .i64 0] 24)) W → (W.cell? ⟨w.heap.size, 0, none⟩ = some (.int .i64 a) ∧ W.cell? ⟨w.heap.size, 1, none⟩ = some (.int .i64 b) ∧ W.cell? ⟨w.heap.size + 1, 0, none⟩ = some (.int .i64 c) ∧ W.cell? ⟨w.heap.size + 1, 1, none⟩ = some (.int .i64 d)) ∧ W.heap[w.heap.size + 1 + 1]? = some (.cells #[.int .i64 0, .int .i64 0] 24)) := fun W hW =>
    ⟨⟨cellRow (hW.heap hbA (fun h => h)) 0 _ rfl, cellRow (hW.heap hbA (fun h => h)) 1 _ rfl, cellRow (hW.heap hbB (fun h => h)) 0 _ rfl, cellRow (hW.heap hbB (fun h => h)) 1 _ rfl⟩, hW.heap hbZ (fun h => h)⟩
  obtain ⟨⟨k0, k1, k2, k3⟩, hz⟩ := HX.out _ (Upd.refl _ _)
  have z0 := cellRow hz 0 _ rfl
  have z1 := cellRow hz 1 _ rfl
  have m0 := frozenRow hz 0
  have m1 := frozenRow hz 1
  clear hbA hbB hbZ hz
  have hs : w.heap.size ≤ w.heap.size + 1 + 1 := by omega
  clear hv
  generalize mkN (a * d + c * b) (b * d) = N at *
  generalize mkD (a * d + c * b) (b * d) = D at *
  generalize mkE (a * d + c * b) (b * d) = E at *
  go_enter Tryd.func24, Tryd.ntmps24
  go_wp2_with fail
  refine (C1.out _).mono ?_
  rintro e w4 ⟨rfl, hw4⟩
  have H4 := Lib.hid (hw4)
  clear hw4 k0 k1 k2 k3 z0 z1 m0 m1
  obtain ⟨⟨k0, k1, k2, k3⟩, hz⟩ := HX.out _ H4.out
  have z0 := cellRow hz 0 _ rfl
  have z1 := cellRow hz 1 _ rfl
  have m0 := frozenRow hz 0
  have m1 := frozenRow hz 1
  clear hz
  go_wp2_with fail
  refine (C2.out _).mono ?_
  rintro e w5 ⟨rfl, hw5⟩
  have H5 := Lib.hid (H4.out.ext hw5)
  clear hw5 k0 k1 k2 k3 z0 z1 m0 m1
  obtain ⟨⟨k0, k1, k2, k3⟩, hz⟩ := HX.out _ H5.out
  have z0 := cellRow hz 0 _ rfl
  have z1 := cellRow hz 1 _ rfl
  have m0 := frozenRow hz 0
  have m1 := frozenRow hz 1
  clear hz
  go_wp2_with fail
  refine (CO.out _).mono ?_
  rintro e w6 ⟨rfl, hw6⟩
  have H6 := Lib.hid (H5.out.ext hw6)
  clear hw6 k0 k1 k2 k3 z0 z1 m0 m1
  obtain ⟨⟨k0, k1, k2, k3⟩, hz⟩ := HX.out _ H6.out
  have z0 := cellRow hz 0 _ rfl
  have z1 := cellRow hz 1 _ rfl
  have m0 := frozenRow hz 0
  have m1 := frozenRow hz 1
  clear hz
  go_wp2_with fail
  exact bodyPost_ret (v := .tuple #[.agg #[.int .i64 N, .int .i64 D], .int .i64 E]) (by simp [results, Tryd.results24, go_sem, z0, z1]) rfl ⟨rfl, ((HE0.out.ext H6.out).setNew (by omega) _).setNew (by omega) _⟩

set_option maxRecDepth 100000 in
set_option maxHeartbeats 1000000 in
theorem sub_bad (a b c d : Int) (w : World) (ha0 : -9223372036854775808 ≤ a) (ha1 : a ≤ 9223372036854775807) (hb0 : -9223372036854775808 ≤ b) (hb1 : b ≤ 9223372036854775807) (hc0 : -9223372036854775808 ≤ c) (hc1 : c ≤ 9223372036854775807) (hd0 : -9223372036854775808 ≤ d) (hd1 : d ≤ 9223372036854775807) (hv : (vfB a b && vfB c d) = false) : Calls Tryd.prog 21 #[.agg #[.int .i64 a, .int .i64 b], .agg #[.int .i64 c, .int .i64 d]] w fun e w' => e = .returned (.tuple #[.agg #[.int .i64 0, .int .i64 0], .int .i64 1]) ∧ Ext w w' := by
  have CO := Lib.hid (fun (n e : Int) (W : World) => op_bad a b c d W ha0 ha1 hb0 hb1 hc0 hc1 hd0 hd1 n e hv)
  have HE0 : Hid (Ext w (((w.alloc (.cells #[.int .i64 a, .int .i64 b] 24)).alloc (.cells #[.int .i64 c, .int .i64 d] 24)).alloc (.cells #[.int .i64 0, .int .i64 0] 24))) := (((Upd.refl _ w).alloc _).alloc _).alloc _
  have hbA := allocOld (allocOld (alloc0 w (.cells #[.int .i64 a, .int .i64 b] 24)) (.cells #[.int .i64 c, .int .i64 d] 24)) (.cells #[.int .i64 0, .int .i64 0] 24)
  have hbB := allocOld (alloc_at (w.alloc (.cells #[.int .i64 a, .int .i64 b] 24)) (.cells #[.int .i64 c, .int .i64 d] 24) (n := w.heap.size + 1) (by simp)) (.cells #[.int .i64 0, .int .i64 0] 24)
  have hbZ := alloc_at ((w.alloc (.cells #[.int .i64 a, .int .i64 b] 24)).alloc (.cells #[.int .i64 c, .int .i64 d] 24)) (.cells #[.int .i64 0, .int .i64 0] 24) (n := w.heap.size + 1 + 1) (by simp)
  have HX : Hid (∀ W, Ext (((w.alloc (.cells #[.int .i64 a, .int .i64 b] 24)).alloc (.cells #[.int .i64 c, .int .i64 d] 24)).alloc (.cells #[.int .i64 0, .int .i64 0] 24)) W → (W.cell? ⟨w.heap.size, 0, none⟩ = some (.int .i64 a) ∧ W.cell? ⟨w.heap.size, 1, none⟩ = some (.int .i64 b) ∧ W.cell? ⟨w.heap.size + 1, 0, none⟩ = some (.int .i64 c) ∧ W.cell? ⟨w.heap.size + 1, 1, none⟩ = some (.int .i64 d)) ∧ W.heap[w.heap.size + 1 + 1]? = some (.cells #[.int .i64 0, .int .i64 0] 24)) := fun W hW =>
    ⟨⟨cellRow (hW.heap hbA (fun h => h)) 0 _ rfl, cellRow (hW.heap hbA (fun h => h)) 1 _ rfl, cellRow (hW.heap hbB (fun h => h)) 0 _ rfl, cellRow (hW.heap hbB (fun h => h)) 1 _ rfl⟩, hW.heap hbZ (fun h => h)⟩
  obtain ⟨⟨k0, k1, k2, k3⟩, hz⟩ := HX.out _ (Upd.refl _ _)
  have z0 := cellRow hz 0 _ rfl
  have z1 := cellRow hz 1 _ rfl
  have m0 := frozenRow hz 0
  have m1 := frozenRow hz 1
  clear hbA hbB hbZ hz
  have hs : w.heap.size ≤ w.heap.size + 1 + 1 := by omega
  clear hv ha0 ha1 hb0 hb1 hc0 hc1 hd0 hd1
  go_enter Tryd.func21, Tryd.ntmps21
  go_wp2_with fail
  refine (CO.out _ _ _).mono ?_
  rintro e w4 ⟨rfl, hw4⟩
  have H4 := Lib.hid (hw4)
  clear hw4 k0 k1 k2 k3 z0 z1 m0 m1
  obtain ⟨⟨k0, k1, k2, k3⟩, hz⟩ := HX.out _ H4.out
  have z0 := cellRow hz 0 _ rfl
  have z1 := cellRow hz 1 _ rfl
  have m0 := frozenRow hz 0
  have m1 := frozenRow hz 1
  clear hz
  go_wp2_with fail
  exact bodyPost_ret (v := .tuple #[.agg #[.int .i64 0, .int .i64 0], .int .i64 1]) (by simp [results, Tryd.results21, go_sem, z0, z1]) rfl ⟨rfl, ((HE0.out.ext H4.out).setNew (by omega) _).setNew (by omega) _⟩

set_option maxRecDepth 100000 in
set_option maxHeartbeats 1000000 in
theorem sub_ok (a b c d : Int) (w : World) (ha0 : -9223372036854775808 ≤ a) (ha1 : a ≤ 9223372036854775807) (hb0 : -9223372036854775808 ≤ b) (hb1 : b ≤ 9223372036854775807) (hc0 : -9223372036854775808 ≤ c) (hc1 : c ≤ 9223372036854775807) (hd0 : -9223372036854775808 ≤ d) (hd1 : d ≤ 9223372036854775807) (hv : vfB a b = true ∧ vfB c d = true) : Calls Tryd.prog 21 #[.agg #[.int .i64 a, .int .i64 b], .agg #[.int .i64 c, .int .i64 d]] w fun x w' => x = .returned (.tuple #[.agg #[.int .i64 (mkN (a * d - c * b) (b * d)), .int .i64 (mkD (a * d - c * b) (b * d))], .int .i64 (mkE (a * d - c * b) (b * d))]) ∧ Ext w w' := by
  obtain ⟨va, vb, vb'⟩ := vf_bd hv.1
  obtain ⟨vc, vd, vd'⟩ := vf_bd hv.2
  have pad := mul_bd va vd'
  have pcb := mul_bd vc vb'
  have pbd := mul_bd vb' vd'
  have pac := mul_bd va vc
  have pbc := mul_bd vb' vc
  have CO : Hid (∀ W, Calls Tryd.prog 44 #[.agg #[.int .i64 a, .int .i64 b], .agg #[.int .i64 c, .int .i64 d], .int .i64 (a * d - c * b), .int .i64 (b * d)] W fun x w' => x = .returned (.tuple #[.agg #[.int .i64 (mkN (a * d - c * b) (b * d)), .int .i64 (mkD (a * d - c * b) (b * d))], .int .i64 (mkE (a * d - c * b) (b * d))]) ∧ Ext W w') := fun W => op_ok a b c d W ha0 ha1 hb0 hb1 hc0 hc1 hd0 hd1 (a * d - c * b) (b * d) (by omega) (by omega) (by omega) (by omega) (by rw [hv.1, hv.2]; rfl)
  have HE0 : Hid (Ext w (((w.alloc (.cells #[.int .i64 a, .int .i64 b] 24)).alloc (.cells #[.int .i64 c, .int .i64 d] 24)).alloc (.cells #[.int .i64 0, .int .i64 0] 24))) := (((Upd.refl _ w).alloc _).alloc _).alloc _
  have hbA := allocOld (allocOld (alloc0 w (.cells #[.int .i64 a, .int .i64 b] 24)) (.cells #[.int .i64 c, .int .i64 d] 24)) (.cells #[.int .i64 0, .int .i64 0] 24)
  have hbB := allocOld (alloc_at (w.alloc (.cells #[.int .i64 a, .int .i64 b] 24)) (.cells #[.int .i64 c, .int .i64 d] 24) (n := w.heap.size + 1) (by simp)) (.cells #[.int .i64 0, .int .i64 0] 24)
  have hbZ := alloc_at ((w.alloc (.cells #[.int .i64 a, .int .i64 b] 24)).alloc (.cells #[.int .i64 c, .int .i64 d] 24)) (.cells #[.int .i64 0, .int .i64 0] 24) (n := w.heap.size + 1 + 1) (by simp)
  have HX : Hid (∀ W, Ext (((w.alloc (.cells #[.int .i64 a, .int .i64 b] 24)).alloc (.cells #[.int .i64 c, .int .i64 d] 24)).alloc (.cells #[.int .i64 0, .int .i64 0] 24)) W → (W.cell? ⟨w.heap.size, 0, none⟩ = some (.int .i64 a) ∧ W.cell? ⟨w.heap.size, 1, none⟩ = some (.int .i64 b) ∧ W.cell? ⟨w.heap.size + 1, 0, none⟩ = some (.int .i64 c) ∧ W.cell? ⟨w.heap.size + 1, 1, none⟩ = some (.int .i64 d)) ∧ W.heap[w.heap.size + 1 + 1]? = some (.cells #[.int .i64 0, .int .i64 0] 24)) := fun W hW =>
    ⟨⟨cellRow (hW.heap hbA (fun h => h)) 0 _ rfl, cellRow (hW.heap hbA (fun h => h)) 1 _ rfl, cellRow (hW.heap hbB (fun h => h)) 0 _ rfl, cellRow (hW.heap hbB (fun h => h)) 1 _ rfl⟩, hW.heap hbZ (fun h => h)⟩
  obtain ⟨⟨k0, k1, k2, k3⟩, hz⟩ := HX.out _ (Upd.refl _ _)
  have z0 := cellRow hz 0 _ rfl
  have z1 := cellRow hz 1 _ rfl
  have m0 := frozenRow hz 0
  have m1 := frozenRow hz 1
  clear hbA hbB hbZ hz
  have hs : w.heap.size ≤ w.heap.size + 1 + 1 := by omega
  clear hv ha0 ha1 hb0 hb1 hc0 hc1 hd0 hd1
  generalize mkN (a * d - c * b) (b * d) = N at *
  generalize mkD (a * d - c * b) (b * d) = D at *
  generalize mkE (a * d - c * b) (b * d) = E at *
  go_enter Tryd.func21, Tryd.ntmps21
  go_wp2_with fail
  refine (CO.out _).mono ?_
  rintro e w4 ⟨rfl, hw4⟩
  have H4 := Lib.hid (hw4)
  clear hw4 k0 k1 k2 k3 z0 z1 m0 m1
  obtain ⟨⟨k0, k1, k2, k3⟩, hz⟩ := HX.out _ H4.out
  have z0 := cellRow hz 0 _ rfl
  have z1 := cellRow hz 1 _ rfl
  have m0 := frozenRow hz 0
  have m1 := frozenRow hz 1
  clear hz
  go_wp2_with fail
  exact bodyPost_ret (v := .tuple #[.agg #[.int .i64 N, .int .i64 D], .int .i64 E]) (by simp [results, Tryd.results21, go_sem, z0, z1]) rfl ⟨rfl, ((HE0.out.ext H4.out).setNew (by omega) _).setNew (by omega) _⟩

set_option maxRecDepth 100000 in
set_option maxHeartbeats 1000000 in
theorem rsub_bad (a b c d : Int) (w : World) (hv : (vfB a b && vfB c d) = false) : Calls Tryd.prog 25 #[.agg #[.int .i64 a, .int .i64 b], .agg #[.int .i64 c, .int .i64 d]] w fun e w' => e = .returned (.tuple #[.agg #[.int .i64 0, .int .i64 0], .int .i64 1]) ∧ Ext w w' := by
  have CV := Lib.hid (fun (x y : Int) (W : World) => rvalid_x x y W)
  have HE0 : Hid (Ext w (((w.alloc (.cells #[.int .i64 a, .int .i64 b] 24)).alloc (.cells #[.int .i64 c, .int .i64 d] 24)).alloc (.cells #[.int .i64 0, .int .i64 0] 24))) := (((Upd.refl _ w).alloc _).alloc _).alloc _
  have hbA := allocOld (allocOld (alloc0 w (.cells #[.int .i64 a, .int .i64 b] 24)) (.cells #[.int .i64 c, .int .i64 d] 24)) (.cells #[.int .i64 0, .int .i64 0] 24)
  have hbB := allocOld (alloc_at (w.alloc (.cells #[.int .i64 a, .int .i64 b] 24)) (.cells #[.int .i64 c, .int .i64 d] 24) (n := w.heap.size + 1) (by simp)) (.cells #[.int .i64 0, .int .i64 0] 24)
  have hbZ := alloc_at ((w.alloc (.cells #[.int .i64 a, .int .i64 b] 24)).alloc (.cells #[.int .i64 c, .int .i64 d] 24)) (.cells #[.int .i64 0, .int .i64 0] 24) (n := w.heap.size + 1 + 1) (by simp)
  have HX : Hid (∀ W, Ext (((w.alloc (.cells #[.int .i64 a, .int .i64 b] 24)).alloc (.cells #[.int .i64 c, .int .i64 d] 24)).alloc (.cells #[.int .i64 0, .int .i64 0] 24)) W → (W.cell? ⟨w.heap.size, 0, none⟩ = some (.int .i64 a) ∧ W.cell? ⟨w.heap.size, 1, none⟩ = some (.int .i64 b) ∧ W.cell? ⟨w.heap.size + 1, 0, none⟩ = some (.int .i64 c) ∧ W.cell? ⟨w.heap.size + 1, 1, none⟩ = some (.int .i64 d)) ∧ W.heap[w.heap.size + 1 + 1]? = some (.cells #[.int .i64 0, .int .i64 0] 24)) := fun W hW =>
    ⟨⟨cellRow (hW.heap hbA (fun h => h)) 0 _ rfl, cellRow (hW.heap hbA (fun h => h)) 1 _ rfl, cellRow (hW.heap hbB (fun h => h)) 0 _ rfl, cellRow (hW.heap hbB (fun h => h)) 1 _ rfl⟩, hW.heap hbZ (fun h => h)⟩
  obtain ⟨⟨k0, k1, k2, k3⟩, hz⟩ := HX.out _ (Upd.refl _ _)
  have z0 := cellRow hz 0 _ rfl
  have z1 := cellRow hz 1 _ rfl
  have m0 := frozenRow hz 0
  have m1 := frozenRow hz 1
  clear hbA hbB hbZ hz
  have hs : w.heap.size ≤ w.heap.size + 1 + 1 := by omega
  cases h1 : vfB a b
  · have C1 : Hid (∀ W, Calls Tryd.prog 16 #[.agg #[.int .i64 a, .int .i64 b]] W fun e w' => e = .returned (.bool false) ∧ Ext W w') := fun W => by have := CV.out a b W; rw [h1] at this; exact this
    clear h1 hv CV
    go_enter Tryd.func25, Tryd.ntmps25
    go_wp2_with fail
    refine (C1.out _).mono ?_
    rintro e w4 ⟨rfl, hw4⟩
    have H4 := Lib.hid (hw4)
    clear hw4 k0 k1 k2 k3 z0 z1 m0 m1
    obtain ⟨⟨k0, k1, k2, k3⟩, hz⟩ := HX.out _ H4.out
    have z0 := cellRow hz 0 _ rfl
    have z1 := cellRow hz 1 _ rfl
    have m0 := frozenRow hz 0
    have m1 := frozenRow hz 1
    clear hz
    go_wp2_with fail
    exact bodyPost_ret (v := .tuple #[.agg #[.int .i64 0, .int .i64 0], .int .i64 1]) (by simp [results, Tryd.results25, go_sem, z0, z1]) rfl ⟨rfl, ((HE0.out.ext H4.out).setNew (by omega) _).setNew (by omega) _⟩
  · have h2 : vfB c d = false := by rw [h1] at hv; exact hv
    have C1 : Hid (∀ W, Calls Tryd.prog 16 #[.agg #[.int .i64 a, .int .i64 b]] W fun e w' => e = .returned (.bool true) ∧ Ext W w') := fun W => by have := CV.out a b W; rw [h1] at this; exact this
    have C2 : Hid (∀ W, Calls Tryd.prog 16 #[.agg #[.int .i64 c, .int .i64 d]] W fun e w' => e = .returned (.bool false) ∧ Ext W w') := fun W => by have := CV.out c d W; rw [h2] at this; exact this
    clear h1 h2 hv CV
    go_enter Tryd.func25, Tryd.ntmps25
    go_wp2_with fail
    refine (C1.out _).mono ?_
    rintro e w4 ⟨rfl, hw4⟩
    have H4 := Lib.hid (hw4)
    clear hw4 k0 k1 k2 k3 z0 z1 m0 m1
    obtain ⟨⟨k0, k1, k2, k3⟩, hz⟩ := HX.out _ H4.out
    have z0 := cellRow hz 0 _ rfl
    have z1 := cellRow hz 1 _ rfl
    have m0 := frozenRow hz 0
    have m1 := frozenRow hz 1
    clear hz
    go_wp2_with fail
    refine (C2.out _).mono ?_
    rintro e w5 ⟨rfl, hw5⟩
    have H5 := Lib.hid (H4.out.ext hw5)
    clear hw5 k0 k1 k2 k3 z0 z1 m0 m1
    obtain ⟨⟨k0, k1, k2, k3⟩, hz⟩ := HX.out _ H5.out
    have z0 := cellRow hz 0 _ rfl
    have z1 := cellRow hz 1 _ rfl
    have m0 := frozenRow hz 0
    have m1 := frozenRow hz 1
    clear hz
    go_wp2_with fail
    exact bodyPost_ret (v := .tuple #[.agg #[.int .i64 0, .int .i64 0], .int .i64 1]) (by simp [results, Tryd.results25, go_sem, z0, z1]) rfl ⟨rfl, ((HE0.out.ext H5.out).setNew (by omega) _).setNew (by omega) _⟩

set_option maxRecDepth 100000 in
set_option maxHeartbeats 1000000 in
theorem mul_bad (a b c d : Int) (w : World) (ha0 : -9223372036854775808 ≤ a) (ha1 : a ≤ 9223372036854775807) (hb0 : -9223372036854775808 ≤ b) (hb1 : b ≤ 9223372036854775807) (hc0 : -9223372036854775808 ≤ c) (hc1 : c ≤ 9223372036854775807) (hd0 : -9223372036854775808 ≤ d) (hd1 : d ≤ 9223372036854775807) (hv : (vfB a b && vfB c d) = false) : Calls Tryd.prog 22 #[.agg #[.int .i64 a, .int .i64 b], .agg #[.int .i64 c, .int .i64 d]] w fun e w' => e = .returned (.tuple #[.agg #[.int .i64 0, .int .i64 0], .int .i64 1]) ∧ Ext w w' := by
  have CO := Lib.hid (fun (n e : Int) (W : World) => op_bad a b c d W ha0 ha1 hb0 hb1 hc0 hc1 hd0 hd1 n e hv)
  have HE0 : Hid (Ext w (((w.alloc (.cells #[.int .i64 a, .int .i64 b] 24)).alloc (.cells #[.int .i64 c, .int .i64 d] 24)).alloc (.cells #[.int .i64 0, .int .i64 0] 24))) := (((Upd.refl _ w).alloc _).alloc _).alloc _
  have hbA := allocOld (allocOld (alloc0 w (.cells #[.int .i64 a, .int .i64 b] 24)) (.cells #[.int .i64 c, .int .i64 d] 24)) (.cells #[.int .i64 0, .int .i64 0] 24)
  have hbB := allocOld (alloc_at (w.alloc (.cells #[.int .i64 a, .int .i64 b] 24)) (.cells #[.int .i64 c, .int .i64 d] 24) (n := w.heap.size + 1) (by simp)) (.cells #[.int .i64 0, .int .i64 0] 24)
  have hbZ := alloc_at ((w.alloc (.cells #[.int .i64 a, .int .i64 b] 24)).alloc (.cells #[.int .i64 c, .int .i64 d] 24)) (.cells #[.int .i64 0, .int .i64 0] 24) (n := w.heap.size + 1 + 1) (by simp)
  have HX : Hid (∀ W, Ext (((w.alloc (.cells #[.int .i64 a, .int .i64 b] 24)).alloc (.cells #[.int .i64 c, .int .i64 d] 24)).alloc (.cells #[.int .i64 0, .int .i64 0] 24)) W → (W.cell? ⟨w.heap.size, 0, none⟩ = some (.int .i64 a) ∧ W.cell? ⟨w.heap.size, 1, none⟩ = some (.int .i64 b) ∧ W.cell? ⟨w.heap.size + 1, 0, none⟩ = some (.int .i64 c) ∧ W.cell? ⟨w.heap.size + 1, 1, none⟩ = some (.int .i64 d)) ∧ W.heap[w.heap.size + 1 + 1]? = some (.cells #[.int .i64 0, .int .i64 0] 24)) := fun W hW =>
    ⟨⟨cellRow (hW.heap hbA (fun h => h)) 0 _ rfl, cellRow (hW.heap hbA (fun h => h)) 1 _ rfl, cellRow (hW.heap hbB (fun h => h)) 0 _ rfl, cellRow (hW.heap hbB (fun h => h)) 1 _ rfl⟩, hW.heap hbZ (fun h => h)⟩
  obtain ⟨⟨k0, k1, k2, k3⟩, hz⟩ := HX.out _ (Upd.refl _ _)
  have z0 := cellRow hz 0 _ rfl
  have z1 := cellRow hz 1 _ rfl
  have m0 := frozenRow hz 0
  have m1 := frozenRow hz 1
  clear hbA hbB hbZ hz
  have hs : w.heap.size ≤ w.heap.size + 1 + 1 := by omega
  clear hv ha0 ha1 hb0 hb1 hc0 hc1 hd0 hd1
  go_enter Tryd.func22, Tryd.ntmps22
  go_wp2_with fail
  refine (CO.out _ _ _).mono ?_
  rintro e w4 ⟨rfl, hw4⟩
  have H4 := Lib.hid (hw4)
  clear hw4 k0 k1 k2 k3 z0 z1 m0 m1
  obtain ⟨⟨k0, k1, k2, k3⟩, hz⟩ := HX.out _ H4.out
  have z0 := cellRow hz 0 _ rfl
  have z1 := cellRow hz 1 _ rfl
  have m0 := frozenRow hz 0
  have m1 := frozenRow hz 1
  clear hz
  go_wp2_with fail
  exact bodyPost_ret (v := .tuple #[.agg #[.int .i64 0, .int .i64 0], .int .i64 1]) (by simp [results, Tryd.results22, go_sem, z0, z1]) rfl ⟨rfl, ((HE0.out.ext H4.out).setNew (by omega) _).setNew (by omega) _⟩

set_option maxRecDepth 100000 in
set_option maxHeartbeats 1000000 in
theorem mul_ok (a b c d : Int) (w : World) (ha0 : -9223372036854775808 ≤ a) (ha1 : a ≤ 9223372036854775807) (hb0 : -9223372036854775808 ≤ b) (hb1 : b ≤ 9223372036854775807) (hc0 : -9223372036854775808 ≤ c) (hc1 : c ≤ 9223372036854775807) (hd0 : -9223372036854775808 ≤ d) (hd1 : d ≤ 9223372036854775807) (hv : vfB a b = true ∧ vfB c d = true) : Calls Tryd.prog 22 #[.agg #[.int .i64 a, .int .i64 b], .agg #[.int .i64 c, .int .i64 d]] w fun x w' => x = .returned (.tuple #[.agg #[.int .i64 (mkN (a * c) (b * d)), .int .i64 (mkD (a * c) (b * d))], .int .i64 (mkE (a * c) (b * d))]) ∧ Ext w w' := by
  obtain ⟨va, vb, vb'⟩ := vf_bd hv.1
  obtain ⟨vc, vd, vd'⟩ := vf_bd hv.2
  have pad := mul_bd va vd'
  have pcb := mul_bd vc vb'
  have pbd := mul_bd vb' vd'
  have pac := mul_bd va vc
  have pbc := mul_bd vb' vc
  have CO : Hid (∀ W, Calls Tryd.prog 44 #[.agg #[.int .i64 a, .int .i64 b], .agg #[.int .i64 c, .int .i64 d], .int .i64 (a * c), .int .i64 (b * d)] W fun x w' => x = .returned (.tuple #[.agg #[.int .i64 (mkN (a * c) (b * d)), .int .i64 (mkD (a * c) (b * d))], .int .i64 (mkE (a * c) (b * d))]) ∧ Ext W w') := fun W => op_ok a b c d W ha0 ha1 hb0 hb1 hc0 hc1 hd0 hd1 (a * c) (b * d) (by omega) (by omega) (by omega) (by omega) (by rw [hv.1, hv.2]; rfl)
  have HE0 : Hid (Ext w (((w.alloc (.cells #[.int .i64 a, .int .i64 b] 24)).alloc (.cells #[.int .i64 c, .int .i64 d] 24)).alloc (.cells #[.int .i64 0, .int .i64 0] 24))) := (((Upd.refl _ w).alloc _).alloc _).alloc _
  have hbA := allocOld (allocOld (alloc0 w (.cells #[.int .i64 a, .int .i64 b] 24)) (.cells #[.int .i64 c, .int .i64 d] 24)) (.cells #[.int .i64 0, .int .i64 0] 24)
  have hbB := allocOld (alloc_at (w.alloc (.cells #[.int .i64 a, .int .i64 b] 24)) (.cells #[.int .i64 c, .int .i64 d] 24) (n := w.heap.size + 1) (by simp)) (.cells #[.int .i64 0, .int .i64 0] 24)
  have hbZ := alloc_at ((w.alloc (.cells #[.int .i64 a, .int .i64 b] 24)).alloc (.cells #[.int .i64 c, .int .i64 d] 24)) (.cells #[.int .i64 0, .int .i64 0] 24) (n := w.heap.size + 1 + 1) (by simp)
  have HX : Hid (∀ W, Ext (((w.alloc (.cells #[.int .i64 a, .int .i64 b] 24)).alloc (.cells #[.int .i64 c, .int .i64 d] 24)).alloc (.cells #[.int .i64 0, .int .i64 0] 24)) W → (W.cell? ⟨w.heap.size, 0, none⟩ = some (.int .i64 a) ∧ W.cell? ⟨w.heap.size, 1, none⟩ = some (.int .i64 b) ∧ W.cell? ⟨w.heap.size + 1, 0, none⟩ = some (.int .i64 c) ∧ W.cell? ⟨w.heap.size + 1, 1, none⟩ = some (.int .i64 d)) ∧ W.heap[w.heap.size + 1 + 1]? = some (.cells #[.int .i64 0, .int .i64 0] 24)) := fun W hW =>
    ⟨⟨cellRow (hW.heap hbA (fun h => h)) 0 _ rfl, cellRow (hW.heap hbA (fun h => h)) 1 _ rfl, cellRow (hW.heap hbB (fun h => h)) 0 _ rfl, cellRow (hW.heap hbB (fun h => h)) 1 _ rfl⟩, hW.heap hbZ (fun h => h)⟩
  obtain ⟨⟨k0, k1, k2, k3⟩, hz⟩ := HX.out _ (Upd.refl _ _)
  have z0 := cellRow hz 0 _ rfl
  have z1 := cellRow hz 1 _ rfl
  have m0 := frozenRow hz 0
  have m1 := frozenRow hz 1
  clear hbA hbB hbZ hz
  have hs : w.heap.size ≤ w.heap.size + 1 + 1 := by omega
  clear hv ha0 ha1 hb0 hb1 hc0 hc1 hd0 hd1
  generalize mkN (a * c) (b * d) = N at *
  generalize mkD (a * c) (b * d) = D at *
  generalize mkE (a * c) (b * d) = E at *
  go_enter Tryd.func22, Tryd.ntmps22
  go_wp2_with fail
  refine (CO.out _).mono ?_
  rintro e w4 ⟨rfl, hw4⟩
  have H4 := Lib.hid (hw4)
  clear hw4 k0 k1 k2 k3 z0 z1 m0 m1
  obtain ⟨⟨k0, k1, k2, k3⟩, hz⟩ := HX.out _ H4.out
  have z0 := cellRow hz 0 _ rfl
  have z1 := cellRow hz 1 _ rfl
  have m0 := frozenRow hz 0
  have m1 := frozenRow hz 1
  clear hz
  go_wp2_with fail
  exact bodyPost_ret (v := .tuple #[.agg #[.int .i64 N, .int .i64 D], .int .i64 E]) (by simp [results, Tryd.results22, go_sem, z0, z1]) rfl ⟨rfl, ((HE0.out.ext H4.out).setNew (by omega) _).setNew (by omega) _⟩

set_option maxRecDepth 100000 in
set_option maxHeartbeats 1000000 in
theorem rmul_bad (a b c d : Int) (w : World) (hv : (vfB a b && vfB c d) = false) : Calls Tryd.prog 26 #[.agg #[.int .i64 a, .int .i64 b], .agg #[.int .i64 c, .int .i64 d]] w fun e w' => e = .returned (.tuple #[.agg #[.int .i64 0, .int .i64 0], .int .i64 1]) ∧ Ext w w' := by
  have CV := Lib.hid (fun (x y : Int) (W : World) => rvalid_x x y W)
  have HE0 : Hid (Ext w (((w.alloc (.cells #[.int .i64 a, .int .i64 b] 24)).alloc (.cells #[.int .i64 c, .int .i64 d] 24)).alloc (.cells #[.int .i64 0, .int .i64 0] 24))) := (((Upd.refl _ w).alloc _).alloc _).alloc _
  have hbA := allocOld (allocOld (alloc0 w (.cells #[.int .i64 a, .int .i64 b] 24)) (.cells #[.int .i64 c, .int .i64 d] 24)) (.cells #[.int .i64 0, .int .i64 0] 24)
  have hbB := allocOld (alloc_at (w.alloc (.cells #[.int .i64 a, .int .i64 b] 24)) (.cells #[.int .i64 c, .int .i64 d] 24) (n := w.heap.size + 1) (by simp)) (.cells #[.int .i64 0, .int .i64 0] 24)
  have hbZ := alloc_at ((w.alloc (.cells #[.int .i64 a, .int .i64 b] 24)).alloc (.cells #[.int .i64 c, .int .i64 d] 24)) (.cells #[.int .i64 0, .int .i64 0] 24) (n := w.heap.size + 1 + 1) (by simp)
  have HX : Hid (∀ W, Ext (((w.alloc (.cells #[.int .i64 a, .int .i64 b] 24)).alloc (.cells #[.int .i64 c, .int .i64 d] 24)).alloc (.cells #[.int .i64 0, .int .i64 0] 24)) W → (W.cell? ⟨w.heap.size, 0, none⟩ = some (.int .i64 a) ∧ W.cell? ⟨w.heap.size, 1, none⟩ = some (.int .i64 b) ∧ W.cell? ⟨w.heap.size + 1, 0, none⟩ = some (.int .i64 c) ∧ W.cell? ⟨w.heap.size + 1, 1, none⟩ = some (.int .i64 d)) ∧ W.heap[w.heap.size + 1 + 1]? = some (.cells #[.int .i64 0, .int .i64 0] 24)) := fun W hW =>
    ⟨⟨cellRow (hW.heap hbA (fun h => h)) 0 _ rfl, cellRow (hW.heap hbA (fun h => h)) 1 _ rfl, cellRow (hW.heap hbB (fun h => h)) 0 _ rfl, cellRow (hW.heap hbB (fun h => h)) 1 _ rfl⟩, hW.heap hbZ (fun h => h)⟩
  obtain ⟨⟨k0, k1, k2, k3⟩, hz⟩ := HX.out _ (Upd.refl _ _)
  have z0 := cellRow hz 0 _ rfl
  have z1 := cellRow hz 1 _ rfl
  have m0 := frozenRow hz 0
  have m1 := frozenRow hz 1
  clear hbA hbB hbZ hz
  have hs : w.heap.size ≤ w.heap.size + 1 + 1 := by omega
  cases h1 : vfB a b
  · have C1 : Hid (∀ W, Calls Tryd.prog 16 #[.agg #[.int .i64 a, .int .i64 b]] W fun e w' => e = .returned (.bool false) ∧ Ext W w') := fun W => by have := CV.out a b W; rw [h1] at this; exact this
    clear h1 hv CV
    go_enter Tryd.func26, Tryd.ntmps26
    go_wp2_with fail
    refine (C1.out _).mono ?_
    rintro e w4 ⟨rfl, hw4⟩
    have H4 := Lib.hid (hw4)
    clear hw4 k0 k1 k2 k3 z0 z1 m0 m1
    obtain ⟨⟨k0, k1, k2, k3⟩, hz⟩ := HX.out _ H4.out
    have z0 := cellRow hz 0 _ rfl
    have z1 := cellRow hz 1 _ rfl
    have m0 := frozenRow hz 0
    have m1 := frozenRow hz 1
    clear hz
    go_wp2_with fail
    exact bodyPost_ret (v := .tuple #[.agg #[.int .i64 0, .int .i64 0], .int .i64 1]) (by simp [results, Tryd.results26, go_sem, z0, z1]) rfl ⟨rfl, ((HE0.out.ext H4.out).setNew (by omega) _).setNew (by omega) _⟩
  · have h2 : vfB c d = false := by rw [h1] at hv; exact hv
    have C1 : Hid (∀ W, Calls Tryd.prog 16 #[.agg #[.int .i64 a, .int .i64 b]] W fun e w' => e = .returned (.bool true) ∧ Ext W w') := fun W => by have := CV.out a b W; rw [h1] at this; exact this
    have C2 : Hid (∀ W, Calls Tryd.prog 16 #[.agg #[.int .i64 c, .int .i64 d]] W fun e w' => e = .returned (.bool false) ∧ Ext W w') := fun W => by have := CV.out c d W; rw [h2] at this; exact this
    clear h1 h2 hv CV
    go_enter Tryd.func26, Tryd.ntmps26
    go_wp2_with fail
    refine (C1.out _).mono ?_
    rintro e w4 ⟨rfl, hw4⟩
    have H4 := Lib.hid (hw4)
    clear hw4 k0 k1 k2 k3 z0 z1 m0 m1
    obtain ⟨⟨k0, k1, k2, k3⟩, hz⟩ := HX.out _ H4.out
    have z0 := cellRow hz 0 _ rfl
    have z1 := cellRow hz 1 _ rfl
    have m0 := frozenRow hz 0
    have m1 := frozenRow hz 1
    clear hz
    go_wp2_with fail
    refine (C2.out _).mono ?_
    rintro e w5 ⟨rfl, hw5⟩
    have H5 := Lib.hid (H4.out.ext hw5)
    clear hw5 k0 k1 k2 k3 z0 z1 m0 m1
    obtain ⟨⟨k0, k1, k2, k3⟩, hz⟩ := HX.out _ H5.out
    have z0 := cellRow hz 0 _ rfl
    have z1 := cellRow hz 1 _ rfl
    have m0 := frozenRow hz 0
    have m1 := frozenRow hz 1
    clear hz
    go_wp2_with fail
    exact bodyPost_ret (v := .tuple #[.agg #[.int .i64 0, .int .i64 0], .int .i64 1]) (by simp [results, Tryd.results26, go_sem, z0, z1]) rfl ⟨rfl, ((HE0.out.ext H5.out).setNew (by omega) _).setNew (by omega) _⟩

set_option maxRecDepth 100000 in
set_option maxHeartbeats 1000000 in
theorem rmul_ok (a b c d : Int) (w : World) (hv : vfB a b = true ∧ vfB c d = true) : Calls Tryd.prog 26 #[.agg #[.int .i64 a, .int .i64 b], .agg #[.int .i64 c, .int .i64 d]] w fun x w' => x = .returned (.tuple #[.agg #[.int .i64 (mkN (a * c) (b * d)), .int .i64 (mkD (a * c) (b * d))], .int .i64 (mkE (a * c) (b * d))]) ∧ Ext w w' := by
  obtain ⟨va, vb, vb'⟩ := vf_bd hv.1
  obtain ⟨vc, vd, vd'⟩ := vf_bd hv.2
  have pad := mul_bd va vd'
  have pcb := mul_bd vc vb'
  have pbd := mul_bd vb' vd'
  have pac := mul_bd va vc
  have pbc := mul_bd vb' vc
  have CO : Hid (∀ W, Calls Tryd.prog 14 #[.int .i64 (a * c), .int .i64 (b * d)] W fun x w' => x = .returned (.tuple #[.agg #[.int .i64 (mkN (a * c) (b * d)), .int .i64 (mkD (a * c) (b * d))], .int .i64 (mkE (a * c) (b * d))]) ∧ Ext W w') := fun W => rmk_x (a * c) (b * d) W (by omega) (by omega) (by omega) (by omega)
  have C1 : Hid (∀ W, Calls Tryd.prog 16 #[.agg #[.int .i64 a, .int .i64 b]] W fun e w' => e = .returned (.bool true) ∧ Ext W w') := fun W => by have := rvalid_x a b W; rw [hv.1] at this; exact this
  have C2 : Hid (∀ W, Calls Tryd.prog 16 #[.agg #[.int .i64 c, .int .i64 d]] W fun e w' => e = .returned (.bool true) ∧ Ext W w') := fun W => by have := rvalid_x c d W; rw [hv.2] at this; exact this
  have HE0 : Hid (Ext w (((w.alloc (.cells #[.int .i64 a, .int .i64 b] 24)).alloc (.cells #[.int .i64 c, .int .i64 d] 24)).alloc (.cells #[.int .i64 0, .int .i64 0] 24))) := (((Upd.refl _ w).alloc _).alloc _).alloc _
  have hbA := allocOld (allocOld (alloc0 w (.cells #[.int .i64 a, .int .i64 b] 24)) (.cells #[.int .i64 c, .int .i64 d] 24)) (.cells #[.int .i64 0, .int .i64 0] 24)
  have hbB := allocOld (alloc_at (w.alloc (.cells #[.int .i64 a, .int .i64 b] 24)) (.cells #[.int .i64 c, .int .i64 d] 24) (n := w.heap.size + 1) (by simp)) (.cells #[.int .i64 0, .int .i64 0] 24)
  have hbZ := alloc_at ((w.alloc (.cells #[.int .i64 a, .int .i64 b] 24)).alloc (.cells #[.int .i64 c, .int .i64 d] 24)) (.cells #[.int .i64 0, .int .i64 0] 24) (n := w.heap.size + 1 + 1) (by simp)
  have HX : Hid (∀ W, Ext (((w.alloc (.cells #[.int .i64 a, .int .i64 b] 24)).alloc (.cells #[.int .i64 c, .int .i64 d] 24)).alloc (.cells #[.int .i64 0, .int .i64 0] 24)) W → (W.cell? ⟨w.heap.size, 0, none⟩ = some (.int .i64 a) ∧ W.cell? ⟨w.heap.size, 1, none⟩ = some (.int .i64 b) ∧ W.cell? ⟨w.heap.size + 1, 0, none⟩ = some (.int .i64 c) ∧ W.cell? ⟨w.heap.size + 1, 1, none⟩ = some (.int .i64 d)) ∧ W.heap[w.heap.size + 1 + 1]? = some (.cells #[.int .i64 0, .int .i64 0] 24)) := fun W hW =>
    ⟨⟨cellRow (hW.heap hbA (fun h => h)) 0 _ rfl, cellRow (hW.heap hbA (fun h => h)) 1 _ rfl, cellRow (hW.heap hbB (fun h => h)) 0 _ rfl, cellRow (hW.heap hbB (fun h => h)) 1 _ rfl⟩, hW.heap hbZ (fun h => h)⟩
  obtain ⟨⟨k0, k1, k2, k3⟩, hz⟩ := HX.out _ (Upd.refl _ _)
  have z0 := cellRow hz 0 _ rfl
  have z1 := cellRow hz 1 _ rfl
  have m0 := frozenRow hz 0
  have m1 := frozenRow hz 1
  clear hbA hbB hbZ hz
  have hs : w.heap.size ≤ w.heap.size + 1 + 1 := by omega
  clear hv
  generalize mkN (a * c) (b * d) = N at *
  generalize mkD (a * c) (b * d) = D at *
  generalize mkE (a * c) (b * d) = E at *
  go_enter Tryd.func26, Tryd.ntmps26
  go_wp2_with fail
  refine (C1.out _).mono ?_
  rintro e w4 ⟨rfl, hw4⟩
  have H4 := Lib.hid (hw4)
  clear hw4 k0 k1 k2 k3 z0 z1 m0 m1
  obtain ⟨⟨k0, k1, k2, k3⟩, hz⟩ := HX.out _ H4.out
  have z0 := cellRow hz 0 _ rfl
  have z1 := cellRow hz 1 _ rfl
  have m0 := frozenRow hz 0
  have m1 := frozenRow hz 1
  clear hz
  go_wp2_with fail
  refine (C2.out _).mono ?_
  rintro e w5 ⟨rfl, hw5⟩
  have H5 := Lib.hid (H4.out.ext hw5)
  clear hw5 k0 k1 k2 k3 z0 z1 m0 m1
  obtain ⟨⟨k0, k1, k2, k3⟩, hz⟩ := HX.out _ H5.out
  have z0 := cellRow hz 0 _ rfl
  have z1 := cellRow hz 1 _ rfl
  have m0 := frozenRow hz 0
  have m1 := frozenRow hz 1
  clear hz
  go_wp2_with fail
  refine (CO.out _).mono ?_
  rintro e w6 ⟨rfl, hw6⟩
  have H6 := Lib.hid (H5.out.ext hw6)
  clear hw6 k0 k1 k2 k3 z0 z1 m0 m1
  obtain ⟨⟨k0, k1, k2, k3⟩, hz⟩ := HX.out _ H6.out
  have z0 := cellRow hz 0 _ rfl
  have z1 := cellRow hz 1 _ rfl
  have m0 := frozenRow hz 0
  have m1 := frozenRow hz 1
  clear hz
  go_wp2_with fail
  exact bodyPost_ret (v := .tuple #[.agg #[.int .i64 N, .int .i64 D], .int .i64 E]) (by simp [results, Tryd.results26, go_sem, z0, z1]) rfl ⟨rfl, ((HE0.out.ext H6.out).setNew (by omega) _).setNew (by omega) _⟩

set_option maxRecDepth 100000 in
set_option maxHeartbeats 1000000 in
theorem div_bad (a b c d : Int) (w : World) (ha0 : -9223372036854775808 ≤ a) (ha1 : a ≤ 9223372036854775807) (hb0 : -9223372036854775808 ≤ b) (hb1 : b ≤ 9223372036854775807) (hc0 : -9223372036854775808 ≤ c) (hc1 : c ≤ 9223372036854775807) (hd0 : -9223372036854775808 ≤ d) (hd1 : d ≤ 9223372036854775807) (hv : (vfB a b && vfB c d) = false) : Calls Tryd.prog 23 #[.agg #[.int .i64 a, .int .i64 b], .agg #[.int .i64 c, .int .i64 d]] w fun e w' => e = .returned (.tuple #[.agg #[.int .i64 0, .int .i64 0], .int .i64 1]) ∧ Ext w w' := by
  have CO := Lib.hid (fun (n e : Int) (W : World) => op_bad a b c d W ha0 ha1 hb0 hb1 hc0 hc1 hd0 hd1 n e hv)
  have HE0 : Hid (Ext w (((w.alloc (.cells #[.int .i64 a, .int .i64 b] 24)).alloc (.cells #[.int .i64 c, .int .i64 d] 24)).alloc (.cells #[.int .i64 0, .int .i64 0] 24))) := (((Upd.refl _ w).alloc _).alloc _).alloc _
  have hbA := allocOld (allocOld (alloc0 w (.cells #[.int .i64 a, .int .i64 b] 24)) (.cells #[.int .i64 c, .int .i64 d] 24)) (.cells #[.int .i64 0, .int .i64 0] 24)
  have hbB := allocOld (alloc_at (w.alloc (.cells #[.int .i64 a, .int .i64 b] 24)) (.cells #[.int .i64 c, .int .i64 d] 24) (n := w.heap.size + 1) (by simp)) (.cells #[.int .i64 0, .int .i64 0] 24)
  have hbZ := alloc_at ((w.alloc (.cells #[.int .i64 a, .int .i64 b] 24)).alloc (.cells #[.int .i64 c, .int .i64 d] 24)) (.cells #[.int .i64 0, .int .i64 0] 24) (n := w.heap.size + 1 + 1) (by simp)
  have HX : Hid (∀ W, Ext (((w.alloc (.cells #[.int .i64 a, .int .i64 b] 24)).alloc (.cells #[.int .i64 c, .int .i64 d] 24)).alloc (.cells #[.int .i64 0, .int .i64 0] 24)) W → (W.cell? ⟨w.heap.size, 0, none⟩ = some (.int .i64 a) ∧ W.cell? ⟨w.heap.size, 1, none⟩ = some (.int .i64 b) ∧ W.cell? ⟨w.heap.size + 1, 0, none⟩ = some (.int .i64 c) ∧ W.cell? ⟨w.heap.size + 1, 1, none⟩ = some (.int .i64 d)) ∧ W.heap[w.heap.size + 1 + 1]? = some (.cells #[.int .i64 0, .int .i64 0] 24)) := fun W hW =>
    ⟨⟨cellRow (hW.heap hbA (fun h => h)) 0 _ rfl, cellRow (hW.heap hbA (fun h => h)) 1 _ rfl, cellRow (hW.heap hbB (fun h => h)) 0 _ rfl, cellRow (hW.heap hbB (fun h => h)) 1 _ rfl⟩, hW.heap hbZ (fun h => h)⟩
  obtain ⟨⟨k0, k1, k2, k3⟩, hz⟩ := HX.out _ (Upd.refl _ _)
  have z0 := cellRow hz 0 _ rfl
  have z1 := cellRow hz 1 _ rfl
  have m0 := frozenRow hz 0
  have m1 := frozenRow hz 1
  clear hbA hbB hbZ hz
  have hs : w.heap.size ≤ w.heap.size + 1 + 1 := by omega
  clear hv ha0 ha1 hb0 hb1 hc0 hc1 hd0 hd1
  go_enter Tryd.func23, Tryd.ntmps23
  go_wp2_with fail
  refine (CO.out _ _ _).mono ?_
  rintro e w4 ⟨rfl, hw4⟩
  have H4 := Lib.hid (hw4)
  clear hw4 k0 k1 k2 k3 z0 z1 m0 m1
  obtain ⟨⟨k0, k1, k2, k3⟩, hz⟩ := HX.out _ H4.out
  have z0 := cellRow hz 0 _ rfl
  have z1 := cellRow hz 1 _ rfl
  have m0 := frozenRow hz 0
  have m1 := frozenRow hz 1
  clear hz
  go_wp2_with fail
  exact bodyPost_ret (v := .tuple #[.agg #[.int .i64 0, .int .i64 0], .int .i64 1]) (by simp [results, Tryd.results23, go_sem, z0, z1]) rfl ⟨rfl, ((HE0.out.ext H4.out).setNew (by omega) _).setNew (by omega) _⟩

set_option maxRecDepth 100000 in
set_option maxHeartbeats 1000000 in
theorem div_ok (a b c d : Int) (w : World) (ha0 : -9223372036854775808 ≤ a) (ha1 : a ≤ 9223372036854775807) (hb0 : -9223372036854775808 ≤ b) (hb1 : b ≤ 9223372036854775807) (hc0 : -9223372036854775808 ≤ c) (hc1 : c ≤ 9223372036854775807) (hd0 : -9223372036854775808 ≤ d) (hd1 : d ≤ 9223372036854775807) (hv : vfB a b = true ∧ vfB c d = true) : Calls Tryd.prog 23 #[.agg #[.int .i64 a, .int .i64 b], .agg #[.int .i64 c, .int .i64 d]] w fun x w' => x = .returned (.tuple #[.agg #[.int .i64 (mkN (a * d) (b * c)), .int .i64 (mkD (a * d) (b * c))], .int .i64 (mkE (a * d) (b * c))]) ∧ Ext w w' := by
  obtain ⟨va, vb, vb'⟩ := vf_bd hv.1
  obtain ⟨vc, vd, vd'⟩ := vf_bd hv.2
  have pad := mul_bd va vd'
  have pcb := mul_bd vc vb'
  have pbd := mul_bd vb' vd'
  have pac := mul_bd va vc
  have pbc := mul_bd vb' vc
  have CO : Hid (∀ W, Calls Tryd.prog 44 #[.agg #[.int .i64 a, .int .i64 b], .agg #[.int .i64 c, .int .i64 d], .int .i64 (a * d), .int .i64 (b * c)] W fun x w' => x = .returned (.tuple #[.agg #[.int .i64 (mkN (a * d) (b * c)), .int .i64 (mkD (a * d) (b * c))], .int .i64 (mkE (a * d) (b * c))]) ∧ Ext W w') := fun W => op_ok a b c d W ha0 ha1 hb0 hb1 hc0 hc1 hd0 hd1 (a * d) (b * c) (by omega) (by omega) (by omega) (by omega) (by rw [hv.1, hv.2]; rfl)
  have HE0 : Hid (Ext w (((w.alloc (.cells #[.int .i64 a, .int .i64 b] 24)).alloc (.cells #[.int .i64 c, .int .i64 d] 24)).alloc (.cells #[.int .i64 0, .int .i64 0] 24))) := (((Upd.refl _ w).alloc _).alloc _).alloc _
  have hbA := allocOld (allocOld (alloc0 w (.cells #[.int .i64 a, .int .i64 b] 24)) (.cells #[.int .i64 c, .int .i64 d] 24)) (.cells #[.int .i64 0, .int .i64 0] 24)
  have hbB := allocOld (alloc_at (w.alloc (.cells #[.int .i64 a, .int .i64 b] 24)) (.cells #[.int .i64 c, .int .i64 d] 24) (n := w.heap.size + 1) (by simp)) (.cells #[.int .i64 0, .int .i64 0] 24)
  have hbZ := alloc_at ((w.alloc (.cells #[.int .i64 a, .int .i64 b] 24)).alloc (.cells #[.int .i64 c, .int .i64 d] 24)) (.cells #[.int .i64 0, .int .i64 0] 24) (n := w.heap.size + 1 + 1) (by simp)
  have HX : Hid (∀ W, Ext (((w.alloc (.cells #[.int .i64 a, .int .i64 b] 24)).alloc (.cells #[.int .i64 c, .int .i64 d] 24)).alloc (.cells #[.int .i64 0, .int .i64 0] 24)) W → (W.cell? ⟨w.heap.size, 0, none⟩ = some (.int .i64 a) ∧ W.cell? ⟨w.heap.size, 1, none⟩ = some (.int .i64 b) ∧ W.cell? ⟨w.heap.size + 1, 0, none⟩ = some (.int .i64 c) ∧ W.cell? ⟨w.heap.size + 1, 1, none⟩ = some (.int .i64 d)) ∧ W.heap[w.heap.size + 1 + 1]? = some (.cells #[.int .i64 0, .int .i64 0] 24)) := fun W hW =>
    ⟨⟨cellRow (hW.heap hbA (fun h => h)) 0 _ rfl, cellRow (hW.heap hbA (fun h => h)) 1 _ rfl, cellRow (hW.heap hbB (fun h => h)) 0 _ rfl, cellRow (hW.heap hbB (fun h => h)) 1 _ rfl⟩, hW.heap hbZ (fun h => h)⟩
  obtain ⟨⟨k0, k1, k2, k3⟩, hz⟩ := HX.out _ (Upd.refl _ _)
  have z0 := cellRow hz 0 _ rfl
  have z1 := cellRow hz 1 _ rfl
  have m0 := frozenRow hz 0
  have m1 := frozenRow hz 1
  clear hbA hbB hbZ hz
  have hs : w.heap.size ≤ w.heap.size + 1 + 1 := by omega
  clear hv ha0 ha1 hb0 hb1 hc0 hc1 hd0 hd1
  generalize mkN (a * d) (b * c) = N at *
  generalize mkD (a * d) (b * c) = D at *
  generalize mkE (a * d) (b * c) = E at *
  go_enter Tryd.func23, Tryd.ntmps23
  go_wp2_with fail
  refine (CO.out _).mono ?_
  rintro e w4 ⟨rfl, hw4⟩
  have H4 := Lib.hid (hw4)
  clear hw4 k0 k1 k2 k3 z0 z1 m0 m1
  obtain ⟨⟨k0, k1, k2, k3⟩, hz⟩ := HX.out _ H4.out
  have z0 := cellRow hz 0 _ rfl
  have z1 := cellRow hz 1 _ rfl
  have m0 := frozenRow hz 0
  have m1 := frozenRow hz 1
  clear hz
  go_wp2_with fail
  exact bodyPost_ret (v := .tuple #[.agg #[.int .i64 N, .int .i64 D], .int .i64 E]) (by simp [results, Tryd.results23, go_sem, z0, z1]) rfl ⟨rfl, ((HE0.out.ext H4.out).setNew (by omega) _).setNew (by omega) _⟩

set_option maxRecDepth 100000 in
set_option maxHeartbeats 1000000 in
theorem rdiv_bad (a b c d : Int) (w : World) (hv : (vfB a b && vfB c d) = false) : Calls Tryd.prog 27 #[.agg #[.int .i64 a, .int .i64 b], .agg #[.int .i64 c, .int .i64 d]] w fun e w' => e = .returned (.tuple #[.agg #[.int .i64 0, .int .i64 0], .int .i64 1]) ∧ Ext w w' := by
  have CV := Lib.hid (fun (x y : Int) (W : World) => rvalid_x x y W)
  have HE0 : Hid (Ext w (((w.alloc (.cells #[.int .i64 a, .int .i64 b] 24)).alloc (.cells #[.int .i64 c, .int .i64 d] 24)).alloc (.cells #[.int .i64 0, .int .i64 0] 24))) := (((Upd.refl _ w).alloc _).alloc _).alloc _
  have hbA := allocOld (allocOld (alloc0 w (.cells #[.int .i64 a, .int .i64 b] 24)) (.cells #[.int .i64 c, .int .i64 d] 24)) (.cells #[.int .i64 0, .int .i64 0] 24)
  have hbB := allocOld (alloc_at (w.alloc (.cells #[.int .i64 a, .int .i64 b] 24)) (.cells #[.int .i64 c, .int .i64 d] 24) (n := w.heap.size + 1) (by simp)) (.cells #[.int .i64 0, .int .i64 0] 24)
  have hbZ := alloc_at ((w.alloc (.cells #[.int .i64 a, .int .i64 b] 24)).alloc (.cells #[.int .i64 c, .int .i64 d] 24)) (.cells #[.int .i64 0, .int .i64 0] 24) (n := w.heap.size + 1 + 1) (by simp)
  have HX : Hid (∀ W, Ext (((w.alloc (.cells #[.int .i64 a, .int .i64 b] 24)).alloc (.cells #[.int .i64 c, .int .i64 d] 24)).alloc (.cells #[.int .i64 0, .int .i64 0] 24)) W → (W.cell? ⟨w.heap.size, 0, none⟩ = some (.int .i64 a) ∧ W.cell? ⟨w.heap.size, 1, none⟩ = some (.int .i64 b) ∧ W.cell? ⟨w.heap.size + 1, 0, none⟩ = some (.int .i64 c) ∧ W.cell? ⟨w.heap.size + 1, 1, none⟩ = some (.int .i64 d)) ∧ W.heap[w.heap.size + 1 + 1]? = some (.cells #[.int .i64 0, .int .i64 0] 24)) := fun W hW =>
    ⟨⟨cellRow (hW.heap hbA (fun h => h)) 0 _ rfl, cellRow (hW.heap hbA (fun h => h)) 1 _ rfl, cellRow (hW.heap hbB (fun h => h)) 0 _ rfl, cellRow (hW.heap hbB (fun h => h)) 1 _ rfl⟩, hW.heap hbZ (fun h => h)⟩
  obtain ⟨⟨k0, k1, k2, k3⟩, hz⟩ := HX.out _ (Upd.refl _ _)
  have z0 := cellRow hz 0 _ rfl
  have z1 := cellRow hz 1 _ rfl
  have m0 := frozenRow hz 0
  have m1 := frozenRow hz 1
  clear hbA hbB hbZ hz
  have hs : w.heap.size ≤ w.heap.size + 1 + 1 := by omega
  cases h1 : vfB a b
  · have C1 : Hid (∀ W, Calls Tryd.prog 16 #[.agg #[.int .i64 a, .int .i64 b]] W fun e w' => e = .returned (.bool false) ∧ Ext W w') := fun W => by have := CV.out a b W; rw [h1] at this; exact this
    clear h1 hv CV
    go_enter Tryd.func27, Tryd.ntmps27
    go_wp2_with fail
    refine (C1.out _).mono ?_
    rintro e w4 ⟨rfl, hw4⟩
    have H4 := Lib.hid (hw4)
    clear hw4 k0 k1 k2 k3 z0 z1 m0 m1
    obtain ⟨⟨k0, k1, k2, k3⟩, hz⟩ := HX.out _ H4.out
    have z0 := cellRow hz 0 _ rfl
    have z1 := cellRow hz 1 _ rfl
    have m0 := frozenRow hz 0
    have m1 := frozenRow hz 1
    clear hz
    go_wp2_with fail
    exact bodyPost_ret (v := .tuple #[.agg #[.int .i64 0, .int .i64 0], .int .i64 1]) (by simp [results, Tryd.results27, go_sem, z0, z1]) rfl ⟨rfl, ((HE0.out.ext H4.out).setNew (by omega) _).setNew (by omega) _⟩
  · have h2 : vfB c d = false := by rw [h1] at hv; exact hv
    have C1 : Hid (∀ W, Calls Tryd.prog 16 #[.agg #[.int .i64 a, .int .i64 b]] W fun e w' => e = .returned (.bool true) ∧ Ext W w') := fun W => by have := CV.out a b W; rw [h1] at this; exact this
    have C2 : Hid (∀ W, Calls Tryd.prog 16 #[.agg #[.int .i64 c, .int .i64 d]] W fun e w' => e = .returned (.bool false) ∧ Ext W w') := fun W => by have := CV.out c d W; rw [h2] at this; exact this
    clear h1 h2 hv CV
    go_enter Tryd.func27, Tryd.ntmps27
    go_wp2_with fail
    refine (C1.out _).mono ?_
    rintro e w4 ⟨rfl, hw4⟩
    have H4 := Lib.hid (hw4)
    clear hw4 k0 k1 k2 k3 z0 z1 m0 m1
    obtain ⟨⟨k0, k1, k2, k3⟩, hz⟩ := HX.out _ H4.out
    have z0 := cellRow hz 0 _ rfl
    have z1 := cellRow hz 1 _ rfl
    have m0 := frozenRow hz 0
    have m1 := frozenRow hz 1
    clear hz
    go_wp2_with fail
    refine (C2.out _).mono ?_
    rintro e w5 ⟨rfl, hw5⟩
    have H5 := Lib.hid (H4.out.ext hw5)
    clear hw5 k0 k1 k2 k3 z0 z1 m0 m1
    obtain ⟨⟨k0, k1, k2, k3⟩, hz⟩ := HX.out _ H5.out
    have z0 := cellRow hz 0 _ rfl
    have z1 := cellRow hz 1 _ rfl
    have m0 := frozenRow hz 0
    have m1 := frozenRow hz 1
    clear hz
    go_wp2_with fail
    exact bodyPost_ret (v := .tuple #[.agg #[.int .i64 0, .int .i64 0], .int .i64 1]) (by simp [results, Tryd.results27, go_sem, z0, z1]) rfl ⟨rfl, ((HE0.out.ext H5.out).setNew (by omega) _).setNew (by omega) _⟩

set_option maxRecDepth 100000 in
set_option maxHeartbeats 1000000 in
theorem rdiv_ok (a b c d : Int) (w : World) (hv : vfB a b = true ∧ vfB c d = true) : Calls Tryd.prog 27 #[.agg #[.int .i64 a, .int .i64 b], .agg #[.int .i64 c, .int .i64 d]] w fun x w' => x = .returned (.tuple #[.agg #[.int .i64 (mkN (a * d) (b * c)), .int .i64 (mkD (a * d) (b * c))], .int .i64 (mkE (a * d) (b * c))]) ∧ Ext w w' := by
  obtain ⟨va, vb, vb'⟩ := vf_bd hv.1
  obtain ⟨vc, vd, vd'⟩ := vf_bd hv.2
  have pad := mul_bd va vd'
  have pcb := mul_bd vc vb'
  have pbd := mul_bd vb' vd'
  have pac := mul_bd va vc
  have pbc := mul_bd vb' vc
  have CO : Hid (∀ W, Calls Tryd.prog 14 #[.int .i64 (a * d), .int .i64 (b * c)] W fun x w' => x = .returned (.tuple #[.agg #[.int .i64 (mkN (a * d) (b * c)), .int .i64 (mkD (a * d) (b * c))], .int .i64 (mkE (a * d) (b * c))]) ∧ Ext W w') := fun W => rmk_x (a * d) (b * c) W (by omega) (by omega) (by omega) (by omega)
  have C1 : Hid (∀ W, Calls Tryd.prog 16 #[.agg #[.int .i64 a, .int .i64 b]] W fun e w' => e = .returned (.bool true) ∧ Ext W w') := fun W => by have := rvalid_x a b W; rw [hv.1] at this; exact this
  have C2 : Hid (∀ W, Calls Tryd.prog 16 #[.agg #[.int .i64 c, .int .i64 d]] W fun e w' => e = .returned (.bool true) ∧ Ext W w') := fun W => by have := rvalid_x c d W; rw [hv.2] at this; exact this
  have HE0 : Hid (Ext w (((w.alloc (.cells #[.int .i64 a, .int .i64 b] 24)).alloc (.cells #[.int .i64 c, .int .i64 d] 24)).alloc (.cells #[.int .i64 0, .int .i64 0] 24))) := (((Upd.refl _ w).alloc _).alloc _).alloc _
  have hbA := allocOld (allocOld (alloc0 w (.cells #[.int .i64 a, .int .i64 b] 24)) (.cells #[.int .i64 c, .int .i64 d] 24)) (.cells #[.int .i64 0, .int .i64 0] 24)
  have hbB := allocOld (alloc_at (w.alloc (.cells #[.int .i64 a, .int .i64 b] 24)) (.cells #[.int .i64 c, .int .i64 d] 24) (n := w.heap.size + 1) (by simp)) (.cells #[.int .i64 0, .int .i64 0] 24)
  have hbZ := alloc_at ((w.alloc (.cells #[.int .i64 a, .int .i64 b] 24)).alloc (.cells #[.int .i64 c, .int .i64 d] 24)) (.cells #[.int .i64 0, .int .i64 0] 24) (n := w.heap.size + 1 + 1) (by simp)
  have HX : Hid (∀ W, Ext (((w.alloc (.cells #[.int .i64 a, .int .i64 b] 24)).alloc (.cells #[.int .i64 c, .int .i64 d] 24)).alloc (.cells #[.int .i64 0, .int .i64 0] 24)) W → (W.cell? ⟨w.heap.size, 0, none⟩ = some (.int .i64 a) ∧ W.cell? ⟨w.heap.size, 1, none⟩ = some (.int .i64 b) ∧ W.cell? ⟨w.heap.size + 1, 0, none⟩ = some (.int .i64 c) ∧ W.cell? ⟨w.heap.size + 1, 1, none⟩ = some (.int .i64 d)) ∧ W.heap[w.heap.size + 1 + 1]? = some (.cells #[.int .i64 0, .int .i64 0] 24)) := fun W hW =>
    ⟨⟨cellRow (hW.heap hbA (fun h => h)) 0 _ rfl, cellRow (hW.heap hbA (fun h => h)) 1 _ rfl, cellRow (hW.heap hbB (fun h => h)) 0 _ rfl, cellRow (hW.heap hbB (fun h => h)) 1 _ rfl⟩, hW.heap hbZ (fun h => h)⟩
  obtain ⟨⟨k0, k1, k2, k3⟩, hz⟩ := HX.out _ (Upd.refl _ _)
  have z0 := cellRow hz 0 _ rfl
  have z1 := cellRow hz 1 _ rfl
  have m0 := frozenRow hz 0
  have m1 := frozenRow hz 1
  clear hbA hbB hbZ hz
  have hs : w.heap.size ≤ w.heap.size + 1 + 1 := by omega
  clear hv
  generalize mkN (a * d) (b * c) = N at *
  generalize mkD (a * d) (b * c) = D at *
  generalize mkE (a * d) (b * c) = E at *
  go_enter Tryd.func27, Tryd.ntmps27
  go_wp2_with fail
  refine (C1.out _).mono ?_
  rintro e w4 ⟨rfl, hw4⟩
  have H4 := Lib.hid (hw4)
  clear hw4 k0 k1 k2 k3 z0 z1 m0 m1
  obtain ⟨⟨k0, k1, k2, k3⟩, hz⟩ := HX.out _ H4.out
  have z0 := cellRow hz 0 _ rfl
  have z1 := cellRow hz 1 _ rfl
  have m0 := frozenRow hz 0
  have m1 := frozenRow hz 1
  clear hz
  go_wp2_with fail
  refine (C2.out _).mono ?_
  rintro e w5 ⟨rfl, hw5⟩
  have H5 := Lib.hid (H4.out.ext hw5)
  clear hw5 k0 k1 k2 k3 z0 z1 m0 m1
  obtain ⟨⟨k0, k1, k2, k3⟩, hz⟩ := HX.out _ H5.out
  have z0 := cellRow hz 0 _ rfl
  have z1 := cellRow hz 1 _ rfl
  have m0 := frozenRow hz 0
  have m1 := frozenRow hz 1
  clear hz
  go_wp2_with fail
  refine (CO.out _).mono ?_
  rintro e w6 ⟨rfl, hw6⟩
  have H6 := Lib.hid (H5.out.ext hw6)
  clear hw6 k0 k1 k2 k3 z0 z1 m0 m1
  obtain ⟨⟨k0, k1, k2, k3⟩, hz⟩ := HX.out _ H6.out
  have z0 := cellRow hz 0 _ rfl
  have z1 := cellRow hz 1 _ rfl
  have m0 := frozenRow hz 0
  have m1 := frozenRow hz 1
  clear hz
  go_wp2_with fail
  exact bodyPost_ret (v := .tuple #[.agg #[.int .i64 N, .int .i64 D], .int .i64 E]) (by simp [results, Tryd.results27, go_sem, z0, z1]) rfl ⟨rfl, ((HE0.out.ext H6.out).setNew (by omega) _).setNew (by omega) _⟩

end Go.Proofs.YtlipjgpfhmkdhaaDoor
