/- The law Field. -/
import Derived.Test.YtlipjgpfhmkdhaaDoorR27
namespace Go.Proofs.YtlipjgpfhmkdhaaDoor
open Go.RowKit Go.Hw
set_option linter.unusedVariables false
set_option linter.unusedSimpArgs false

theorem mk_bd (n d : Int) : (-9223372036854775808 ≤ mkN n d ∧ mkN n d ≤ 9223372036854775807) ∧ (-9223372036854775808 ≤ mkD n d ∧ mkD n d ≤ 9223372036854775807) := by
  by_cases h : mkE n d = 0
  · obtain ⟨⟨a1, a2⟩, ⟨a3, a4⟩, _⟩ := vf_bd (mk_valid h)
    omega
  · have h2 : mkN n d = 0 ∧ mkD n d = 0 := by
      unfold mkN mkD
      unfold mkE at h
      by_cases hd : d = 0
      · simp [hd]
      · by_cases hb : bigB n d = true
        · simp [hd, hb]
        · simp [hd, hb] at h
    rw [h2.1, h2.2]
    decide

theorem add_tot (a b c d : Int) (ha0 : -9223372036854775808 ≤ a) (ha1 : a ≤ 9223372036854775807) (hb0 : -9223372036854775808 ≤ b) (hb1 : b ≤ 9223372036854775807) (hc0 : -9223372036854775808 ≤ c) (hc1 : c ≤ 9223372036854775807) (hd0 : -9223372036854775808 ≤ d) (hd1 : d ≤ 9223372036854775807) : ∃ N D E : Int, (∀ W, Calls Tryd.prog 20 #[.agg #[.int .i64 a, .int .i64 b], .agg #[.int .i64 c, .int .i64 d]] W fun e w' => e = .returned (.tuple #[.agg #[.int .i64 N, .int .i64 D], .int .i64 E]) ∧ Ext W w') ∧
    (vfB a b = true → vfB c d = true → N = mkN (a * d + c * b) (b * d) ∧ D = mkD (a * d + c * b) (b * d) ∧ E = mkE (a * d + c * b) (b * d)) ∧ (-9223372036854775808 ≤ N ∧ N ≤ 9223372036854775807) ∧ (-9223372036854775808 ≤ D ∧ D ≤ 9223372036854775807) ∧ (E = 0 → vfB N D = true) := by
  by_cases hv : (vfB a b && vfB c d) = true
  · have hv2 : vfB a b = true ∧ vfB c d = true := by simpa using hv
    exact ⟨_, _, _, fun W => add_ok a b c d W ha0 ha1 hb0 hb1 hc0 hc1 hd0 hd1 hv2, fun _ _ => ⟨rfl, rfl, rfl⟩, (mk_bd _ _).1, (mk_bd _ _).2, mk_valid⟩
  · have hv2 : (vfB a b && vfB c d) = false := by simpa using hv
    exact ⟨0, 0, 1, fun W => add_bad a b c d W ha0 ha1 hb0 hb1 hc0 hc1 hd0 hd1 hv2, fun h1 h2 => absurd (by rw [h1, h2]; rfl) hv, by decide, by decide, fun h => absurd h (by decide)⟩

theorem sub_tot (a b c d : Int) (ha0 : -9223372036854775808 ≤ a) (ha1 : a ≤ 9223372036854775807) (hb0 : -9223372036854775808 ≤ b) (hb1 : b ≤ 9223372036854775807) (hc0 : -9223372036854775808 ≤ c) (hc1 : c ≤ 9223372036854775807) (hd0 : -9223372036854775808 ≤ d) (hd1 : d ≤ 9223372036854775807) : ∃ N D E : Int, (∀ W, Calls Tryd.prog 21 #[.agg #[.int .i64 a, .int .i64 b], .agg #[.int .i64 c, .int .i64 d]] W fun e w' => e = .returned (.tuple #[.agg #[.int .i64 N, .int .i64 D], .int .i64 E]) ∧ Ext W w') ∧
    (vfB a b = true → vfB c d = true → N = mkN (a * d - c * b) (b * d) ∧ D = mkD (a * d - c * b) (b * d) ∧ E = mkE (a * d - c * b) (b * d)) ∧ (-9223372036854775808 ≤ N ∧ N ≤ 9223372036854775807) ∧ (-9223372036854775808 ≤ D ∧ D ≤ 9223372036854775807) ∧ (E = 0 → vfB N D = true) := by
  by_cases hv : (vfB a b && vfB c d) = true
  · have hv2 : vfB a b = true ∧ vfB c d = true := by simpa using hv
    exact ⟨_, _, _, fun W => sub_ok a b c d W ha0 ha1 hb0 hb1 hc0 hc1 hd0 hd1 hv2, fun _ _ => ⟨rfl, rfl, rfl⟩, (mk_bd _ _).1, (mk_bd _ _).2, mk_valid⟩
  · have hv2 : (vfB a b && vfB c d) = false := by simpa using hv
    exact ⟨0, 0, 1, fun W => sub_bad a b c d W ha0 ha1 hb0 hb1 hc0 hc1 hd0 hd1 hv2, fun h1 h2 => absurd (by rw [h1, h2]; rfl) hv, by decide, by decide, fun h => absurd h (by decide)⟩

theorem mul_tot (a b c d : Int) (ha0 : -9223372036854775808 ≤ a) (ha1 : a ≤ 9223372036854775807) (hb0 : -9223372036854775808 ≤ b) (hb1 : b ≤ 9223372036854775807) (hc0 : -9223372036854775808 ≤ c) (hc1 : c ≤ 9223372036854775807) (hd0 : -9223372036854775808 ≤ d) (hd1 : d ≤ 9223372036854775807) : ∃ N D E : Int, (∀ W, Calls Tryd.prog 22 #[.agg #[.int .i64 a, .int .i64 b], .agg #[.int .i64 c, .int .i64 d]] W fun e w' => e = .returned (.tuple #[.agg #[.int .i64 N, .int .i64 D], .int .i64 E]) ∧ Ext W w') ∧
    (vfB a b = true → vfB c d = true → N = mkN (a * c) (b * d) ∧ D = mkD (a * c) (b * d) ∧ E = mkE (a * c) (b * d)) ∧ (-9223372036854775808 ≤ N ∧ N ≤ 9223372036854775807) ∧ (-9223372036854775808 ≤ D ∧ D ≤ 9223372036854775807) ∧ (E = 0 → vfB N D = true) := by
  by_cases hv : (vfB a b && vfB c d) = true
  · have hv2 : vfB a b = true ∧ vfB c d = true := by simpa using hv
    exact ⟨_, _, _, fun W => mul_ok a b c d W ha0 ha1 hb0 hb1 hc0 hc1 hd0 hd1 hv2, fun _ _ => ⟨rfl, rfl, rfl⟩, (mk_bd _ _).1, (mk_bd _ _).2, mk_valid⟩
  · have hv2 : (vfB a b && vfB c d) = false := by simpa using hv
    exact ⟨0, 0, 1, fun W => mul_bad a b c d W ha0 ha1 hb0 hb1 hc0 hc1 hd0 hd1 hv2, fun h1 h2 => absurd (by rw [h1, h2]; rfl) hv, by decide, by decide, fun h => absurd h (by decide)⟩

theorem div_tot (a b c d : Int) (ha0 : -9223372036854775808 ≤ a) (ha1 : a ≤ 9223372036854775807) (hb0 : -9223372036854775808 ≤ b) (hb1 : b ≤ 9223372036854775807) (hc0 : -9223372036854775808 ≤ c) (hc1 : c ≤ 9223372036854775807) (hd0 : -9223372036854775808 ≤ d) (hd1 : d ≤ 9223372036854775807) : ∃ N D E : Int, (∀ W, Calls Tryd.prog 23 #[.agg #[.int .i64 a, .int .i64 b], .agg #[.int .i64 c, .int .i64 d]] W fun e w' => e = .returned (.tuple #[.agg #[.int .i64 N, .int .i64 D], .int .i64 E]) ∧ Ext W w') ∧
    (vfB a b = true → vfB c d = true → N = mkN (a * d) (b * c) ∧ D = mkD (a * d) (b * c) ∧ E = mkE (a * d) (b * c)) ∧ (-9223372036854775808 ≤ N ∧ N ≤ 9223372036854775807) ∧ (-9223372036854775808 ≤ D ∧ D ≤ 9223372036854775807) ∧ (E = 0 → vfB N D = true) := by
  by_cases hv : (vfB a b && vfB c d) = true
  · have hv2 : vfB a b = true ∧ vfB c d = true := by simpa using hv
    exact ⟨_, _, _, fun W => div_ok a b c d W ha0 ha1 hb0 hb1 hc0 hc1 hd0 hd1 hv2, fun _ _ => ⟨rfl, rfl, rfl⟩, (mk_bd _ _).1, (mk_bd _ _).2, mk_valid⟩
  · have hv2 : (vfB a b && vfB c d) = false := by simpa using hv
    exact ⟨0, 0, 1, fun W => div_bad a b c d W ha0 ha1 hb0 hb1 hc0 hc1 hd0 hd1 hv2, fun h1 h2 => absurd (by rw [h1, h2]; rfl) hv, by decide, by decide, fun h => absurd h (by decide)⟩

set_option maxRecDepth 100000 in
set_option maxHeartbeats 1000000 in
theorem fld_bad0 (a b c d e f : Int) (w : World) (htab : Lib.TabIs Tryd.prog w "internal/strconv.uint64pow10" .u64 Lib.pow10Tab)  (cA : ∀ W, Calls Tryd.prog 16 #[.agg #[.int .i64 a, .int .i64 b]] W fun e w' => e = .returned (.bool false) ∧ Ext W w') : Calls Tryd.prog 6 #[.agg #[.int .i64 a, .int .i64 b], .agg #[.int .i64 c, .int .i64 d], .agg #[.int .i64 e, .int .i64 f]] w fun e w' => e = .returned (.bool true) ∧ Ext w w' := by
  have CA := Lib.hid (awake_x (((w.alloc (.cells #[.int .i64 a, .int .i64 b] 24)).alloc (.cells #[.int .i64 c, .int .i64 d] 24)).alloc (.cells #[.int .i64 e, .int .i64 f] 24)) (tab_ext htab ((((Upd.refl _ w).alloc _).alloc _).alloc _)))
  clear htab
  have CVA := Lib.hid cA
  clear cA
  have HE0 : Hid (Ext w (((w.alloc (.cells #[.int .i64 a, .int .i64 b] 24)).alloc (.cells #[.int .i64 c, .int .i64 d] 24)).alloc (.cells #[.int .i64 e, .int .i64 f] 24))) := (((Upd.refl _ w).alloc _).alloc _).alloc _
  have hbA := allocOld (allocOld (alloc0 w (.cells #[.int .i64 a, .int .i64 b] 24)) (.cells #[.int .i64 c, .int .i64 d] 24)) (.cells #[.int .i64 e, .int .i64 f] 24)
  have hbB := allocOld (alloc_at (w.alloc (.cells #[.int .i64 a, .int .i64 b] 24)) (.cells #[.int .i64 c, .int .i64 d] 24) (n := w.heap.size + 1) (by simp)) (.cells #[.int .i64 e, .int .i64 f] 24)
  have hbC := alloc_at ((w.alloc (.cells #[.int .i64 a, .int .i64 b] 24)).alloc (.cells #[.int .i64 c, .int .i64 d] 24)) (.cells #[.int .i64 e, .int .i64 f] 24) (n := w.heap.size + 1 + 1) (by simp)
  have HX : Hid (∀ W, Ext (((w.alloc (.cells #[.int .i64 a, .int .i64 b] 24)).alloc (.cells #[.int .i64 c, .int .i64 d] 24)).alloc (.cells #[.int .i64 e, .int .i64 f] 24)) W → (W.cell? ⟨w.heap.size, 0, none⟩ = some (.int .i64 a) ∧ W.cell? ⟨w.heap.size, 1, none⟩ = some (.int .i64 b) ∧ W.cell? ⟨w.heap.size + 1, 0, none⟩ = some (.int .i64 c) ∧ W.cell? ⟨w.heap.size + 1, 1, none⟩ = some (.int .i64 d) ∧ W.cell? ⟨w.heap.size + 1 + 1, 0, none⟩ = some (.int .i64 e) ∧ W.cell? ⟨w.heap.size + 1 + 1, 1, none⟩ = some (.int .i64 f))) := fun W hW =>
    ⟨cellRow (hW.heap hbA (fun h => h)) 0 _ rfl, cellRow (hW.heap hbA (fun h => h)) 1 _ rfl, cellRow (hW.heap hbB (fun h => h)) 0 _ rfl, cellRow (hW.heap hbB (fun h => h)) 1 _ rfl, cellRow (hW.heap hbC (fun h => h)) 0 _ rfl, cellRow (hW.heap hbC (fun h => h)) 1 _ rfl⟩
  clear hbA hbB hbC
  have E0 : Hid (Ext (((w.alloc (.cells #[.int .i64 a, .int .i64 b] 24)).alloc (.cells #[.int .i64 c, .int .i64 d] 24)).alloc (.cells #[.int .i64 e, .int .i64 f] 24)) (((w.alloc (.cells #[.int .i64 a, .int .i64 b] 24)).alloc (.cells #[.int .i64 c, .int .i64 d] 24)).alloc (.cells #[.int .i64 e, .int .i64 f] 24))) := Upd.refl _ _
  obtain ⟨k0, k1, k2, k3, k4, k5⟩ := HX.out _ E0.out
  go_enter Tryd.func6, Tryd.ntmps6
  go_wp2_with fail
  refine (CA.out).mono ?_
  rintro ee w1 ⟨rfl, h1⟩
  have E1 := Lib.hid (E0.out.ext h1)
  clear h1 k0 k1 k2 k3 k4 k5
  obtain ⟨k0, k1, k2, k3, k4, k5⟩ := HX.out _ E1.out
  go_wp2_with fail
  refine (CVA.out _).mono ?_
  rintro ee w2 ⟨rfl, h2⟩
  have E2 := Lib.hid (E1.out.ext h2)
  clear h2 k0 k1 k2 k3 k4 k5
  obtain ⟨k0, k1, k2, k3, k4, k5⟩ := HX.out _ E2.out
  go_wp2_with fail
  go_ret
  exact ⟨rfl, HE0.out.ext E2.out⟩

set_option maxRecDepth 100000 in
set_option maxHeartbeats 1000000 in
theorem fld_bad1 (a b c d e f : Int) (w : World) (htab : Lib.TabIs Tryd.prog w "internal/strconv.uint64pow10" .u64 Lib.pow10Tab)  (cA : ∀ W, Calls Tryd.prog 16 #[.agg #[.int .i64 a, .int .i64 b]] W fun e w' => e = .returned (.bool true) ∧ Ext W w') (cB : ∀ W, Calls Tryd.prog 16 #[.agg #[.int .i64 c, .int .i64 d]] W fun e w' => e = .returned (.bool false) ∧ Ext W w') : Calls Tryd.prog 6 #[.agg #[.int .i64 a, .int .i64 b], .agg #[.int .i64 c, .int .i64 d], .agg #[.int .i64 e, .int .i64 f]] w fun e w' => e = .returned (.bool true) ∧ Ext w w' := by
  have CA := Lib.hid (awake_x (((w.alloc (.cells #[.int .i64 a, .int .i64 b] 24)).alloc (.cells #[.int .i64 c, .int .i64 d] 24)).alloc (.cells #[.int .i64 e, .int .i64 f] 24)) (tab_ext htab ((((Upd.refl _ w).alloc _).alloc _).alloc _)))
  clear htab
  have CVA := Lib.hid cA
  have CB := Lib.hid cB
  clear cA cB
  have HE0 : Hid (Ext w (((w.alloc (.cells #[.int .i64 a, .int .i64 b] 24)).alloc (.cells #[.int .i64 c, .int .i64 d] 24)).alloc (.cells #[.int .i64 e, .int .i64 f] 24))) := (((Upd.refl _ w).alloc _).alloc _).alloc _
  have hbA := allocOld (allocOld (alloc0 w (.cells #[.int .i64 a, .int .i64 b] 24)) (.cells #[.int .i64 c, .int .i64 d] 24)) (.cells #[.int .i64 e, .int .i64 f] 24)
  have hbB := allocOld (alloc_at (w.alloc (.cells #[.int .i64 a, .int .i64 b] 24)) (.cells #[.int .i64 c, .int .i64 d] 24) (n := w.heap.size + 1) (by simp)) (.cells #[.int .i64 e, .int .i64 f] 24)
  have hbC := alloc_at ((w.alloc (.cells #[.int .i64 a, .int .i64 b] 24)).alloc (.cells #[.int .i64 c, .int .i64 d] 24)) (.cells #[.int .i64 e, .int .i64 f] 24) (n := w.heap.size + 1 + 1) (by simp)
  have HX : Hid (∀ W, Ext (((w.alloc (.cells #[.int .i64 a, .int .i64 b] 24)).alloc (.cells #[.int .i64 c, .int .i64 d] 24)).alloc (.cells #[.int .i64 e, .int .i64 f] 24)) W → (W.cell? ⟨w.heap.size, 0, none⟩ = some (.int .i64 a) ∧ W.cell? ⟨w.heap.size, 1, none⟩ = some (.int .i64 b) ∧ W.cell? ⟨w.heap.size + 1, 0, none⟩ = some (.int .i64 c) ∧ W.cell? ⟨w.heap.size + 1, 1, none⟩ = some (.int .i64 d) ∧ W.cell? ⟨w.heap.size + 1 + 1, 0, none⟩ = some (.int .i64 e) ∧ W.cell? ⟨w.heap.size + 1 + 1, 1, none⟩ = some (.int .i64 f))) := fun W hW =>
    ⟨cellRow (hW.heap hbA (fun h => h)) 0 _ rfl, cellRow (hW.heap hbA (fun h => h)) 1 _ rfl, cellRow (hW.heap hbB (fun h => h)) 0 _ rfl, cellRow (hW.heap hbB (fun h => h)) 1 _ rfl, cellRow (hW.heap hbC (fun h => h)) 0 _ rfl, cellRow (hW.heap hbC (fun h => h)) 1 _ rfl⟩
  clear hbA hbB hbC
  have E0 : Hid (Ext (((w.alloc (.cells #[.int .i64 a, .int .i64 b] 24)).alloc (.cells #[.int .i64 c, .int .i64 d] 24)).alloc (.cells #[.int .i64 e, .int .i64 f] 24)) (((w.alloc (.cells #[.int .i64 a, .int .i64 b] 24)).alloc (.cells #[.int .i64 c, .int .i64 d] 24)).alloc (.cells #[.int .i64 e, .int .i64 f] 24))) := Upd.refl _ _
  obtain ⟨k0, k1, k2, k3, k4, k5⟩ := HX.out _ E0.out
  go_enter Tryd.func6, Tryd.ntmps6
  go_wp2_with fail
  refine (CA.out).mono ?_
  rintro ee w1 ⟨rfl, h1⟩
  have E1 := Lib.hid (E0.out.ext h1)
  clear h1 k0 k1 k2 k3 k4 k5
  obtain ⟨k0, k1, k2, k3, k4, k5⟩ := HX.out _ E1.out
  go_wp2_with fail
  refine (CVA.out _).mono ?_
  rintro ee w2 ⟨rfl, h2⟩
  have E2 := Lib.hid (E1.out.ext h2)
  clear h2 k0 k1 k2 k3 k4 k5
  obtain ⟨k0, k1, k2, k3, k4, k5⟩ := HX.out _ E2.out
  go_wp2_with fail
  refine (CB.out _).mono ?_
  rintro ee w3 ⟨rfl, h3⟩
  have E3 := Lib.hid (E2.out.ext h3)
  clear h3 k0 k1 k2 k3 k4 k5
  obtain ⟨k0, k1, k2, k3, k4, k5⟩ := HX.out _ E3.out
  go_wp2_with fail
  go_ret
  exact ⟨rfl, HE0.out.ext E3.out⟩

set_option maxRecDepth 100000 in
set_option maxHeartbeats 1000000 in
theorem fld_bad2 (a b c d e f : Int) (w : World) (htab : Lib.TabIs Tryd.prog w "internal/strconv.uint64pow10" .u64 Lib.pow10Tab)  (cA : ∀ W, Calls Tryd.prog 16 #[.agg #[.int .i64 a, .int .i64 b]] W fun e w' => e = .returned (.bool true) ∧ Ext W w') (cB : ∀ W, Calls Tryd.prog 16 #[.agg #[.int .i64 c, .int .i64 d]] W fun e w' => e = .returned (.bool true) ∧ Ext W w') (cC : ∀ W, Calls Tryd.prog 16 #[.agg #[.int .i64 e, .int .i64 f]] W fun e w' => e = .returned (.bool false) ∧ Ext W w') : Calls Tryd.prog 6 #[.agg #[.int .i64 a, .int .i64 b], .agg #[.int .i64 c, .int .i64 d], .agg #[.int .i64 e, .int .i64 f]] w fun e w' => e = .returned (.bool true) ∧ Ext w w' := by
  have CA := Lib.hid (awake_x (((w.alloc (.cells #[.int .i64 a, .int .i64 b] 24)).alloc (.cells #[.int .i64 c, .int .i64 d] 24)).alloc (.cells #[.int .i64 e, .int .i64 f] 24)) (tab_ext htab ((((Upd.refl _ w).alloc _).alloc _).alloc _)))
  clear htab
  have CVA := Lib.hid cA
  have CB := Lib.hid cB
  have CC := Lib.hid cC
  clear cA cB cC
  have HE0 : Hid (Ext w (((w.alloc (.cells #[.int .i64 a, .int .i64 b] 24)).alloc (.cells #[.int .i64 c, .int .i64 d] 24)).alloc (.cells #[.int .i64 e, .int .i64 f] 24))) := (((Upd.refl _ w).alloc _).alloc _).alloc _
  have hbA := allocOld (allocOld (alloc0 w (.cells #[.int .i64 a, .int .i64 b] 24)) (.cells #[.int .i64 c, .int .i64 d] 24)) (.cells #[.int .i64 e, .int .i64 f] 24)
  have hbB := allocOld (alloc_at (w.alloc (.cells #[.int .i64 a, .int .i64 b] 24)) (.cells #[.int .i64 c, .int .i64 d] 24) (n := w.heap.size + 1) (by simp)) (.cells #[.int .i64 e, .int .i64 f] 24)
  have hbC := alloc_at ((w.alloc (.cells #[.int .i64 a, .int .i64 b] 24)).alloc (.cells #[.int .i64 c, .int .i64 d] 24)) (.cells #[.int .i64 e, .int .i64 f] 24) (n := w.heap.size + 1 + 1) (by simp)
  have HX : Hid (∀ W, Ext (((w.alloc (.cells #[.int .i64 a, .int .i64 b] 24)).alloc (.cells #[.int .i64 c, .int .i64 d] 24)).alloc (.cells #[.int .i64 e, .int .i64 f] 24)) W → (W.cell? ⟨w.heap.size, 0, none⟩ = some (.int .i64 a) ∧ W.cell? ⟨w.heap.size, 1, none⟩ = some (.int .i64 b) ∧ W.cell? ⟨w.heap.size + 1, 0, none⟩ = some (.int .i64 c) ∧ W.cell? ⟨w.heap.size + 1, 1, none⟩ = some (.int .i64 d) ∧ W.cell? ⟨w.heap.size + 1 + 1, 0, none⟩ = some (.int .i64 e) ∧ W.cell? ⟨w.heap.size + 1 + 1, 1, none⟩ = some (.int .i64 f))) := fun W hW =>
    ⟨cellRow (hW.heap hbA (fun h => h)) 0 _ rfl, cellRow (hW.heap hbA (fun h => h)) 1 _ rfl, cellRow (hW.heap hbB (fun h => h)) 0 _ rfl, cellRow (hW.heap hbB (fun h => h)) 1 _ rfl, cellRow (hW.heap hbC (fun h => h)) 0 _ rfl, cellRow (hW.heap hbC (fun h => h)) 1 _ rfl⟩
  clear hbA hbB hbC
  have E0 : Hid (Ext (((w.alloc (.cells #[.int .i64 a, .int .i64 b] 24)).alloc (.cells #[.int .i64 c, .int .i64 d] 24)).alloc (.cells #[.int .i64 e, .int .i64 f] 24)) (((w.alloc (.cells #[.int .i64 a, .int .i64 b] 24)).alloc (.cells #[.int .i64 c, .int .i64 d] 24)).alloc (.cells #[.int .i64 e, .int .i64 f] 24))) := Upd.refl _ _
  obtain ⟨k0, k1, k2, k3, k4, k5⟩ := HX.out _ E0.out
  go_enter Tryd.func6, Tryd.ntmps6
  go_wp2_with fail
  refine (CA.out).mono ?_
  rintro ee w1 ⟨rfl, h1⟩
  have E1 := Lib.hid (E0.out.ext h1)
  clear h1 k0 k1 k2 k3 k4 k5
  obtain ⟨k0, k1, k2, k3, k4, k5⟩ := HX.out _ E1.out
  go_wp2_with fail
  refine (CVA.out _).mono ?_
  rintro ee w2 ⟨rfl, h2⟩
  have E2 := Lib.hid (E1.out.ext h2)
  clear h2 k0 k1 k2 k3 k4 k5
  obtain ⟨k0, k1, k2, k3, k4, k5⟩ := HX.out _ E2.out
  go_wp2_with fail
  refine (CB.out _).mono ?_
  rintro ee w3 ⟨rfl, h3⟩
  have E3 := Lib.hid (E2.out.ext h3)
  clear h3 k0 k1 k2 k3 k4 k5
  obtain ⟨k0, k1, k2, k3, k4, k5⟩ := HX.out _ E3.out
  go_wp2_with fail
  refine (CC.out _).mono ?_
  rintro ee w4 ⟨rfl, h4⟩
  have E4 := Lib.hid (E3.out.ext h4)
  clear h4 k0 k1 k2 k3 k4 k5
  obtain ⟨k0, k1, k2, k3, k4, k5⟩ := HX.out _ E4.out
  go_wp2_with fail
  go_ret
  exact ⟨rfl, HE0.out.ext E4.out⟩

theorem field_law (a b c d e f : Int) (w : World) (ha0 : -9223372036854775808 ≤ a) (ha1 : a ≤ 9223372036854775807) (hb0 : -9223372036854775808 ≤ b) (hb1 : b ≤ 9223372036854775807) (hc0 : -9223372036854775808 ≤ c) (hc1 : c ≤ 9223372036854775807) (hd0 : -9223372036854775808 ≤ d) (hd1 : d ≤ 9223372036854775807) (he0 : -9223372036854775808 ≤ e) (he1 : e ≤ 9223372036854775807) (hf0 : -9223372036854775808 ≤ f) (hf1 : f ≤ 9223372036854775807) (htab : Lib.TabIs Tryd.prog w "internal/strconv.uint64pow10" .u64 Lib.pow10Tab) : Calls Tryd.prog 6 #[.agg #[.int .i64 a, .int .i64 b], .agg #[.int .i64 c, .int .i64 d], .agg #[.int .i64 e, .int .i64 f]] w fun e w' => e = .returned (.bool true) ∧ Ext w w' := by
  have val_at : ∀ {a b : Int} {r : Bool} (h : vfB a b = r) (W : World), Calls Tryd.prog 16 #[.agg #[.int .i64 a, .int .i64 b]] W fun e w' => e = .returned (.bool r) ∧ Ext W w' := fun {a b r} h W => by
    have := rvalid_x a b W; rw [h] at this; exact this
  cases h1 : vfB a b
  · exact fld_bad0 a b c d e f w htab (val_at h1)
  cases h2 : vfB c d
  · exact fld_bad1 a b c d e f w htab (val_at h1) (val_at h2)
  cases h3 : vfB e f
  · exact fld_bad2 a b c d e f w htab (val_at h1) (val_at h2) (val_at h3)
  obtain ⟨_, ⟨b1, _⟩, _⟩ := vf_bd h1
  obtain ⟨_, ⟨d1, _⟩, _⟩ := vf_bd h2
  obtain ⟨_, ⟨f1, _⟩, _⟩ := vf_bd h3
  have hb : b ≠ 0 := by omega
  have hd : d ≠ 0 := by omega
  have hf : f ≠ 0 := by omega
  obtain ⟨xN, xD, xE, cx, xq, xb, xB, xv⟩ := add_tot a b c d ha0 ha1 hb0 hb1 hc0 hc1 hd0 hd1
  obtain ⟨lN, lD, lE, cl, lq, lb, lB, lv⟩ := add_tot xN xD e f xb.1 xb.2 xB.1 xB.2 he0 he1 hf0 hf1
  obtain ⟨mN, mD, mE, cm, mq, mb, mB, mv⟩ := add_tot c d e f hc0 hc1 hd0 hd1 he0 he1 hf0 hf1
  obtain ⟨rN, rD, rE, cr, rq, rb, rB, rv⟩ := add_tot a b mN mD ha0 ha1 hb0 hb1 mb.1 mb.2 mB.1 mB.2
  obtain ⟨XN, XD, XE, cX, Xq, Xb, XB, Xv⟩ := mul_tot a b c d ha0 ha1 hb0 hb1 hc0 hc1 hd0 hd1
  obtain ⟨LN, LD, LE, cL, Lq, Lb, LB, Lv⟩ := mul_tot XN XD e f Xb.1 Xb.2 XB.1 XB.2 he0 he1 hf0 hf1
  obtain ⟨MN, MD, ME, cM, Mq, Mb, MB, Mv⟩ := mul_tot c d e f hc0 hc1 hd0 hd1 he0 he1 hf0 hf1
  obtain ⟨RN, RD, RE, cR, Rq, Rb, RB, Rv⟩ := mul_tot a b MN MD ha0 ha1 hb0 hb1 Mb.1 Mb.2 MB.1 MB.2
  obtain ⟨pN, pD, pE, cp, pq, pb, pB, pv⟩ := mul_tot a b mN mD ha0 ha1 hb0 hb1 mb.1 mb.2 mB.1 mB.2
  obtain ⟨yN, yD, yE, cy, yq, yb, yB, yv⟩ := mul_tot a b e f ha0 ha1 hb0 hb1 he0 he1 hf0 hf1
  obtain ⟨sN, sD, sE, cs, sq, sb, sB, sv⟩ := add_tot XN XD yN yD Xb.1 Xb.2 XB.1 XB.2 yb.1 yb.2 yB.1 yB.2
  obtain ⟨dN, dD, dE, cd, dq, db, dB, dv⟩ := sub_tot a b c d ha0 ha1 hb0 hb1 hc0 hc1 hd0 hd1
  obtain ⟨kN, kD, kE, ck, kq, kb, kB, kv⟩ := add_tot dN dD c d db.1 db.2 dB.1 dB.2 hc0 hc1 hd0 hd1
  obtain ⟨qN, qD, qE, cq, qq, qb, qB, qv⟩ := div_tot a b c d ha0 ha1 hb0 hb1 hc0 hc1 hd0 hd1
  obtain ⟨tN, tD, tE, ct, tq, tb, tB, tv⟩ := mul_tot qN qD c d qb.1 qb.2 qB.1 qB.2 hc0 hc1 hd0 hd1
  obtain ⟨x1, x2, x3⟩ := xq h1 h2
  obtain ⟨m1, m2, m3⟩ := mq h2 h3
  obtain ⟨X1, X2, X3⟩ := Xq h1 h2
  obtain ⟨M1, M2, M3⟩ := Mq h2 h3
  obtain ⟨y1, y2, y3⟩ := yq h1 h3
  obtain ⟨d1', d2', d3'⟩ := dq h1 h2
  obtain ⟨q1, q2, q3⟩ := qq h1 h2
  refine fld_ok a b c d e f w htab xN xD xE lN lD lE mN mD mE rN rD rE XN XD XE LN LD LE MN MD ME RN RD RE pN pD pE yN yD yE sN sD sE dN dD dE kN kD kE qN qD qE tN tD tE (val_at h1) (val_at h2) (val_at h3) cx (fun W => ?_) cl cm cr cX (fun W => ?_) cL cM cR cp cy cs cd ck cq ct (fun g1 g2 g3 g4 => ?_) (fun g1 g2 g3 g4 => ?_) (fun g1 g2 g3 g4 g5 => ?_) (fun g1 => ?_) (fun g1 => ?_) (fun g1 g2 => ?_)
  · have := add_ok c d a b W hc0 hc1 hd0 hd1 ha0 ha1 hb0 hb1 ⟨h2, h1⟩
    rw [Int.add_comm (c * b) (a * d), Int.mul_comm d b] at this
    rw [x1, x2, x3]
    exact this
  · have := mul_ok c d a b W hc0 hc1 hd0 hd1 ha0 ha1 hb0 hb1 ⟨h2, h1⟩
    rw [Int.mul_comm c a, Int.mul_comm d b] at this
    rw [X1, X2, X3]
    exact this
  · obtain ⟨l1, l2, l3⟩ := lq (xv g1) h3
    obtain ⟨r1, r2, r3⟩ := rq h1 (mv g2)
    subst x1 x2 x3 m1 m2 m3
    rw [l1, l2, r1, r2]
    exact add_assoc' hb hd hf g1 g2 (l3 ▸ g3) (r3 ▸ g4)
  · obtain ⟨l1, l2, l3⟩ := Lq (Xv g1) h3
    obtain ⟨r1, r2, r3⟩ := Rq h1 (Mv g2)
    subst X1 X2 X3 M1 M2 M3
    rw [l1, l2, r1, r2]
    exact mul_assoc' hb hd hf g1 g2 (l3 ▸ g3) (r3 ▸ g4)
  · obtain ⟨l1, l2, l3⟩ := pq h1 (mv g1)
    obtain ⟨r1, r2, r3⟩ := sq (Xv g2) (yv g3)
    subst X1 X2 X3 m1 m2 m3 y1 y2 y3
    rw [l1, l2, r1, r2]
    exact distrib' hb hd hf g1 g2 g3 (l3 ▸ g4) (r3 ▸ g5)
  · obtain ⟨l1, l2, l3⟩ := kq (dv g1) h2
    subst d1' d2' d3'
    rw [l1, l2, l3]
    exact sub_add' h1 hd g1
  · subst g1
    rw [q3]
    simp [mkE]
  · obtain ⟨l1, l2, l3⟩ := tq (qv g2) h2
    subst q1 q2 q3
    rw [l1, l2, l3]
    exact div_mul' h1 hd g1 g2

end Go.Proofs.YtlipjgpfhmkdhaaDoor
