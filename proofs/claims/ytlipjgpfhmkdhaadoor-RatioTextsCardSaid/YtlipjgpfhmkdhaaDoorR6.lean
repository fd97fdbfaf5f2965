/- ratio.op. -/
import Derived.Test.YtlipjgpfhmkdhaaDoorR5
namespace Go.Proofs.YtlipjgpfhmkdhaaDoor
open Go.RowKit Go.Hw
set_option linter.unusedVariables false
set_option linter.unusedSimpArgs false

set_option maxRecDepth 100000 in
set_option maxHeartbeats 1000000 in
theorem op_bad (a b c d : Int) (w : World) (ha0 : -9223372036854775808 ≤ a) (ha1 : a ≤ 9223372036854775807) (hb0 : -9223372036854775808 ≤ b) (hb1 : b ≤ 9223372036854775807) (hc0 : -9223372036854775808 ≤ c) (hc1 : c ≤ 9223372036854775807) (hd0 : -9223372036854775808 ≤ d) (hd1 : d ≤ 9223372036854775807) (n e : Int) (hv : (vfB a b && vfB c d) = false) : Calls Tryd.prog 44 #[.agg #[.int .i64 a, .int .i64 b], .agg #[.int .i64 c, .int .i64 d], .int .i64 n, .int .i64 e] w fun e w' => e = .returned (.tuple #[.agg #[.int .i64 0, .int .i64 0], .int .i64 1]) ∧ Ext w w' := by
  have CV := Lib.hid (fun (x y : Int) (W : World) (h1 : -9223372036854775808 ≤ x) (h2 : x ≤ 9223372036854775807) (h3 : -9223372036854775808 ≤ y) (h4 : y ≤ 9223372036854775807) => valid_x x y W h1 h2 h3 h4)
  have HE0 : Hid (Ext w (((w.alloc (.cells #[.int .i64 a, .int .i64 b] 24)).alloc (.cells #[.int .i64 c, .int .i64 d] 24)).alloc (.cells #[.int .i64 0, .int .i64 0] 24))) := (((Upd.refl _ w).alloc _).alloc _).alloc _
  have hbA := allocOld (allocOld (alloc0 w (.cells #[.int .i64 a, .int .i64 b] 24)) (.cells #[.int .i64 c, .int .i64 d] 24)) (.cells #[.int .i64 0, .int .i64 0] 24)
  have hbB := allocOld (alloc_at (w.alloc (.cells #[.int .i64 a, .int .i64 b] 24)) (.cells #[.int .i64 c, .int .i64 d] 24) (n := w.heap.size + 1) (by simp)) (.cells #[.int .i64 0, .int .i64 0] 24)
  have hbZ := alloc_at ((w.alloc (.cells #[.int .i64 a, .int .i64 b] 24)).alloc (.cells #[.int .i64 c, .int .i64 d] 24)) (.cells #[.int .i64 0, .int .i64 0] 24) (n := w.heap.size + 1 + 1) (by simp)
  have HX : Hid (∀ W, Ext (((w.alloc (.cells #[.int .i64 a, .int .i64 b] 24)).alloc (.cells #[.int .i64 c, .int .i64 d] 24)).alloc (.cells #[.int .i64 0, .int .i64 0] 24)) W → (W.cell? ⟨w.heap.size, 0, none⟩ = some (.int .i64 a) ∧ W.cell? ⟨w.heap.size, 1, none⟩ = some (.int .i64 b) ∧ W.cell? ⟨w.heap.size + 1, 0, none⟩ = some (.int .i64 c) ∧ W.cell? ⟨w.heap.size + 1, 1, none⟩ = some (.int .i64 d)) ∧ W.heap[w.heap.size + 1 + 1]? = some (.cells #[.int .i64 0, .int .i64 0] 24)) := fun W hW =>
    ⟨⟨cellRow (hW.heap hbA (fun h => h)) 0 _ rfl, cellRow (hW.heap hbA (fun h => h)) 1 _ rfl, cellRow (hW.heap hbB (fun h => h)) 0 _ rfl, cellRow (hW.heap hbB (fun h => h)) 1 _ rfl⟩, hW.heap hbZ (fun h => h)⟩
  obtain ⟨⟨k0, k1, k2, k3⟩, hz⟩ := HX.out _ (Upd.refl _ _)
  have z0 := cellRow hz 0 _ rfl
  have z1 := cellRow hz 1 _ rfl
  have m0 := frozenRow hz 0
  have m1 := frozenRow hz 1
  clear hbA hbB hbZ hz
  have hs : w.heap.size ≤ w.heap.size + 1 + 1 := by omega
  cases h1 : vfB a b
  · have C1 : Hid (∀ W, Calls Tryd.prog 15 #[.agg #[.int .i64 a, .int .i64 b]] W fun e w' => e = .returned (.bool false) ∧ Ext W w') := fun W => by have := CV.out a b W ha0 ha1 hb0 hb1; rw [h1] at this; exact this
    clear h1 hv CV
    go_enter Tryd.func44, Tryd.ntmps44
    go_wp2_with fail
    refine (C1.out _).mono ?_
    rintro e w4 ⟨rfl, hw4⟩
    have H4 := Lib.hid (hw4)
    clear hw4 k0 k1 k2 k3 z0 z1 m0 m1
    obtain ⟨⟨k0, k1, k2, k3⟩, hz⟩ := HX.out _ H4.out
    have z0 := cellRow hz 0 _ rfl
    have z1 := cellRow hz 1 _ rfl
    have m0 := frozenRow hz 0
    have m1 := frozenRow hz 1
    clear hz
    go_wp2_with fail
    exact bodyPost_ret (v := .tuple #[.agg #[.int .i64 0, .int .i64 0], .int .i64 1]) (by simp [results, Tryd.results44, go_sem, z0, z1]) rfl ⟨rfl, ((HE0.out.ext H4.out).setNew (by omega) _).setNew (by omega) _⟩
  · have h2 : vfB c d = false := by rw [h1] at hv; exact hv
    have C1 : Hid (∀ W, Calls Tryd.prog 15 #[.agg #[.int .i64 a, .int .i64 b]] W fun e w' => e = .returned (.bool true) ∧ Ext W w') := fun W => by have := CV.out a b W ha0 ha1 hb0 hb1; rw [h1] at this; exact this
    have C2 : Hid (∀ W, Calls Tryd.prog 15 #[.agg #[.int .i64 c, .int .i64 d]] W fun e w' => e = .returned (.bool false) ∧ Ext W w') := fun W => by have := CV.out c d W hc0 hc1 hd0 hd1; rw [h2] at this; exact this
    clear h1 h2 hv CV
    go_enter Tryd.func44, Tryd.ntmps44
    go_wp2_with fail
    refine (C1.out _).mono ?_
    rintro e w4 ⟨rfl, hw4⟩
    have H4 := Lib.hid (hw4)
    clear hw4 k0 k1 k2 k3 z0 z1 m0 m1
    obtain ⟨⟨k0, k1, k2, k3⟩, hz⟩ := HX.out _ H4.out
    have z0 := cellRow hz 0 _ rfl
    have z1 := cellRow hz 1 _ rfl
    have m0 := frozenRow hz 0
    have m1 := frozenRow hz 1
    clear hz
    go_wp2_with fail
    refine (C2.out _).mono ?_
    rintro e w5 ⟨rfl, hw5⟩
    have H5 := Lib.hid (H4.out.ext hw5)
    clear hw5 k0 k1 k2 k3 z0 z1 m0 m1
    obtain ⟨⟨k0, k1, k2, k3⟩, hz⟩ := HX.out _ H5.out
    have z0 := cellRow hz 0 _ rfl
    have z1 := cellRow hz 1 _ rfl
    have m0 := frozenRow hz 0
    have m1 := frozenRow hz 1
    clear hz
    go_wp2_with fail
    exact bodyPost_ret (v := .tuple #[.agg #[.int .i64 0, .int .i64 0], .int .i64 1]) (by simp [results, Tryd.results44, go_sem, z0, z1]) rfl ⟨rfl, ((HE0.out.ext H5.out).setNew (by omega) _).setNew (by omega) _⟩

set_option maxRecDepth 100000 in
set_option maxHeartbeats 1000000 in
theorem op_ok (a b c d : Int) (w : World) (ha0 : -9223372036854775808 ≤ a) (ha1 : a ≤ 9223372036854775807) (hb0 : -9223372036854775808 ≤ b) (hb1 : b ≤ 9223372036854775807) (hc0 : -9223372036854775808 ≤ c) (hc1 : c ≤ 9223372036854775807) (hd0 : -9223372036854775808 ≤ d) (hd1 : d ≤ 9223372036854775807) (n e : Int) (hn0 : -9223372036854775808 ≤ n) (hn1 : n ≤ 9223372036854775807) (he0 : -9223372036854775808 ≤ e) (he1 : e ≤ 9223372036854775807) (hv : (vfB a b && vfB c d) = true) : Calls Tryd.prog 44 #[.agg #[.int .i64 a, .int .i64 b], .agg #[.int .i64 c, .int .i64 d], .int .i64 n, .int .i64 e] w fun x w' => x = .returned (.tuple #[.agg #[.int .i64 (mkN n e), .int .i64 (mkD n e)], .int .i64 (mkE n e)]) ∧ Ext w w' := by
  have CV := Lib.hid (fun (x y : Int) (W : World) (h1 : -9223372036854775808 ≤ x) (h2 : x ≤ 9223372036854775807) (h3 : -9223372036854775808 ≤ y) (h4 : y ≤ 9223372036854775807) => valid_x x y W h1 h2 h3 h4)
  have CM := Lib.hid (fun W : World => mk_x n e W hn0 hn1 he0 he1)
  have HE0 : Hid (Ext w (((w.alloc (.cells #[.int .i64 a, .int .i64 b] 24)).alloc (.cells #[.int .i64 c, .int .i64 d] 24)).alloc (.cells #[.int .i64 0, .int .i64 0] 24))) := (((Upd.refl _ w).alloc _).alloc _).alloc _
  have hbA := allocOld (allocOld (alloc0 w (.cells #[.int .i64 a, .int .i64 b] 24)) (.cells #[.int .i64 c, .int .i64 d] 24)) (.cells #[.int .i64 0, .int .i64 0] 24)
  have hbB := allocOld (alloc_at (w.alloc (.cells #[.int .i64 a, .int .i64 b] 24)) (.cells #[.int .i64 c, .int .i64 d] 24) (n := w.heap.size + 1) (by simp)) (.cells #[.int .i64 0, .int .i64 0] 24)
  have hbZ := alloc_at ((w.alloc (.cells #[.int .i64 a, .int .i64 b] 24)).alloc (.cells #[.int .i64 c, .int .i64 d] 24)) (.cells #[.int .i64 0, .int .i64 0] 24) (n := w.heap.size + 1 + 1) (by simp)
  have HX : Hid (∀ W, Ext (((w.alloc (.cells #[.int .i64 a, .int .i64 b] 24)).alloc (.cells #[.int .i64 c, .int .i64 d] 24)).alloc (.cells #[.int .i64 0, .int .i64 0] 24)) W → (W.cell? ⟨w.heap.size, 0, none⟩ = some (.int .i64 a) ∧ W.cell? ⟨w.heap.size, 1, none⟩ = some (.int .i64 b) ∧ W.cell? ⟨w.heap.size + 1, 0, none⟩ = some (.int .i64 c) ∧ W.cell? ⟨w.heap.size + 1, 1, none⟩ = some (.int .i64 d)) ∧ W.heap[w.heap.size + 1 + 1]? = some (.cells #[.int .i64 0, .int .i64 0] 24)) := fun W hW =>
    ⟨⟨cellRow (hW.heap hbA (fun h => h)) 0 _ rfl, cellRow (hW.heap hbA (fun h => h)) 1 _ rfl, cellRow (hW.heap hbB (fun h => h)) 0 _ rfl, cellRow (hW.heap hbB (fun h => h)) 1 _ rfl⟩, hW.heap hbZ (fun h => h)⟩
  obtain ⟨⟨k0, k1, k2, k3⟩, hz⟩ := HX.out _ (Upd.refl _ _)
  have z0 := cellRow hz 0 _ rfl
  have z1 := cellRow hz 1 _ rfl
  have m0 := frozenRow hz 0
  have m1 := frozenRow hz 1
  clear hbA hbB hbZ hz
  have hs : w.heap.size ≤ w.heap.size + 1 + 1 := by omega
  rw [Bool.and_eq_true] at hv
  obtain ⟨h1, h2⟩ := hv
  have C1 : Hid (∀ W, Calls Tryd.prog 15 #[.agg #[.int .i64 a, .int .i64 b]] W fun e w' => e = .returned (.bool true) ∧ Ext W w') := fun W => by have := CV.out a b W ha0 ha1 hb0 hb1; rw [h1] at this; exact this
  have C2 : Hid (∀ W, Calls Tryd.prog 15 #[.agg #[.int .i64 c, .int .i64 d]] W fun e w' => e = .returned (.bool true) ∧ Ext W w') := fun W => by have := CV.out c d W hc0 hc1 hd0 hd1; rw [h2] at this; exact this
  clear h1 h2 CV
  generalize mkN n e = N at *
  generalize mkD n e = D at *
  generalize mkE n e = E at *
  go_enter Tryd.func44, Tryd.ntmps44
  go_wp2_with fail
  refine (C1.out _).mono ?_
  rintro e w4 ⟨rfl, hw4⟩
  have H4 := Lib.hid (hw4)
  clear hw4 k0 k1 k2 k3 z0 z1 m0 m1
  obtain ⟨⟨k0, k1, k2, k3⟩, hz⟩ := HX.out _ H4.out
  have z0 := cellRow hz 0 _ rfl
  have z1 := cellRow hz 1 _ rfl
  have m0 := frozenRow hz 0
  have m1 := frozenRow hz 1
  clear hz
  go_wp2_with fail
  refine (C2.out _).mono ?_
  rintro e w5 ⟨rfl, hw5⟩
  have H5 := Lib.hid (H4.out.ext hw5)
  clear hw5 k0 k1 k2 k3 z0 z1 m0 m1
  obtain ⟨⟨k0, k1, k2, k3⟩, hz⟩ := HX.out _ H5.out
  have z0 := cellRow hz 0 _ rfl
  have z1 := cellRow hz 1 _ rfl
  have m0 := frozenRow hz 0
  have m1 := frozenRow hz 1
  clear hz
  go_wp2_with fail
  refine (CM.out _).mono ?_
  rintro e w6 ⟨rfl, hw6⟩
  have H6 := Lib.hid (H5.out.ext hw6)
  clear hw6 k0 k1 k2 k3 z0 z1 m0 m1
  obtain ⟨⟨k0, k1, k2, k3⟩, hz⟩ := HX.out _ H6.out
  have z0 := cellRow hz 0 _ rfl
  have z1 := cellRow hz 1 _ rfl
  have m0 := frozenRow hz 0
  have m1 := frozenRow hz 1
  clear hz
  go_wp2_with fail
  exact bodyPost_ret (v := .tuple #[.agg #[.int .i64 N, .int .i64 D], .int .i64 E]) (by simp [results, Tryd.results44, go_sem, z0, z1]) rfl ⟨rfl, ((HE0.out.ext H6.out).setNew (by omega) _).setNew (by omega) _⟩


end Go.Proofs.YtlipjgpfhmkdhaaDoor
