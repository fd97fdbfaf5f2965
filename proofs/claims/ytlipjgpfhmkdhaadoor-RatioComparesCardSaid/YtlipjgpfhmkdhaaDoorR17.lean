/- The law Compares. -/
import Derived.Test.YtlipjgpfhmkdhaaDoorR13
namespace Go.Proofs.YtlipjgpfhmkdhaaDoor
open Go.RowKit Go.Hw
set_option linter.unusedVariables false
set_option linter.unusedSimpArgs false

set_option maxRecDepth 100000 in
set_option maxHeartbeats 1000000 in
theorem cmps1 (a b c d : Int) (w : World) (ha0 : -9223372036854775808 ≤ a) (ha1 : a ≤ 9223372036854775807) (hb0 : -9223372036854775808 ≤ b) (hb1 : b ≤ 9223372036854775807) (hc0 : -9223372036854775808 ≤ c) (hc1 : c ≤ 9223372036854775807) (hd0 : -9223372036854775808 ≤ d) (hd1 : d ≤ 9223372036854775807) (htab : Lib.TabIs Tryd.prog w "internal/strconv.uint64pow10" .u64 Lib.pow10Tab) (h1 : vfB a b = false) : Calls Tryd.prog 9 #[.agg #[.int .i64 a, .int .i64 b], .agg #[.int .i64 c, .int .i64 d]] w fun e w' => e = .returned (.bool true) ∧ Ext w w' := by
  have CA := Lib.hid (awake_x ((w.alloc (.cells #[.int .i64 a, .int .i64 b] 24)).alloc (.cells #[.int .i64 c, .int .i64 d] 24)) (tab_ext htab (((Upd.refl _ w).alloc _).alloc _)))
  have C34 : Hid (∀ W, Calls Tryd.prog 34 #[.agg #[.int .i64 a, .int .i64 b], .agg #[.int .i64 c, .int .i64 d]] W fun e w' => e = .returned (.tuple #[.int .i64 0, .int .i64 1]) ∧ Ext W w') := fun W => cmp_bad1 a b c d W ha0 ha1 hb0 hb1 hc0 hc1 hd0 hd1 h1
  have C17 : Hid (∀ W, Calls Tryd.prog 17 #[.agg #[.int .i64 a, .int .i64 b]] W fun e w' => e = .returned (.tuple #[.int .i64 0, .int .i64 1]) ∧ Ext W w') := fun W => floor_bad a b W ha0 ha1 hb0 hb1 h1
  have C18 : Hid (∀ W, Calls Tryd.prog 18 #[.agg #[.int .i64 a, .int .i64 b]] W fun e w' => e = .returned (.tuple #[.int .i64 0, .int .i64 1]) ∧ Ext W w') := fun W => ceil_bad a b W ha0 ha1 hb0 hb1 h1
  have C16 : Hid (∀ W, Calls Tryd.prog 16 #[.agg #[.int .i64 a, .int .i64 b]] W fun e w' => e = .returned (.bool false) ∧ Ext W w') := fun W => by have := rvalid_x a b W; rw [h1] at this; exact this
  clear htab
  have HE0 : Hid (Ext w ((w.alloc (.cells #[.int .i64 a, .int .i64 b] 24)).alloc (.cells #[.int .i64 c, .int .i64 d] 24))) := ((Upd.refl _ w).alloc _).alloc _
  have hbA := allocOld (alloc0 w (.cells #[.int .i64 a, .int .i64 b] 24)) (.cells #[.int .i64 c, .int .i64 d] 24)
  have hbB := alloc_at (w.alloc (.cells #[.int .i64 a, .int .i64 b] 24)) (.cells #[.int .i64 c, .int .i64 d] 24) (n := w.heap.size + 1) (by simp)
  have HX : Hid (∀ W, Ext ((w.alloc (.cells #[.int .i64 a, .int .i64 b] 24)).alloc (.cells #[.int .i64 c, .int .i64 d] 24)) W → (W.cell? ⟨w.heap.size, 0, none⟩ = some (.int .i64 a) ∧ W.cell? ⟨w.heap.size, 1, none⟩ = some (.int .i64 b) ∧ W.cell? ⟨w.heap.size + 1, 0, none⟩ = some (.int .i64 c) ∧ W.cell? ⟨w.heap.size + 1, 1, none⟩ = some (.int .i64 d))) := fun W hW =>
    ⟨cellRow (hW.heap hbA (fun h => h)) 0 _ rfl, cellRow (hW.heap hbA (fun h => h)) 1 _ rfl, cellRow (hW.heap hbB (fun h => h)) 0 _ rfl, cellRow (hW.heap hbB (fun h => h)) 1 _ rfl⟩
  clear hbA hbB
  have E0 : Hid (Ext ((w.alloc (.cells #[.int .i64 a, .int .i64 b] 24)).alloc (.cells #[.int .i64 c, .int .i64 d] 24)) ((w.alloc (.cells #[.int .i64 a, .int .i64 b] 24)).alloc (.cells #[.int .i64 c, .int .i64 d] 24))) := Upd.refl _ _
  obtain ⟨k0, k1, k2, k3⟩ := HX.out _ E0.out
  go_enter Tryd.func9, Tryd.ntmps9
  go_wp2_with fail
  refine (CA.out).mono ?_
  rintro e w1 ⟨rfl, h1⟩
  have E1 := Lib.hid (E0.out.ext h1)
  clear h1 k0 k1 k2 k3
  obtain ⟨k0, k1, k2, k3⟩ := HX.out _ E1.out
  go_wp2_with fail
  refine (C34.out _).mono ?_
  rintro e w2 ⟨rfl, h2⟩
  have E2 := Lib.hid (E1.out.ext h2)
  clear h2 k0 k1 k2 k3
  obtain ⟨k0, k1, k2, k3⟩ := HX.out _ E2.out
  go_wp2_with fail
  refine (C17.out _).mono ?_
  rintro e w3 ⟨rfl, h3⟩
  have E3 := Lib.hid (E2.out.ext h3)
  clear h3 k0 k1 k2 k3
  obtain ⟨k0, k1, k2, k3⟩ := HX.out _ E3.out
  go_wp2_with fail
  refine (C18.out _).mono ?_
  rintro e w4 ⟨rfl, h4⟩
  have E4 := Lib.hid (E3.out.ext h4)
  clear h4 k0 k1 k2 k3
  obtain ⟨k0, k1, k2, k3⟩ := HX.out _ E4.out
  go_wp2_with fail
  refine (C16.out _).mono ?_
  rintro e w5 ⟨rfl, h5⟩
  have E5 := Lib.hid (E4.out.ext h5)
  clear h5 k0 k1 k2 k3
  obtain ⟨k0, k1, k2, k3⟩ := HX.out _ E5.out
  go_wp2_with fail
  go_ret
  exact ⟨rfl, HE0.out.ext E5.out⟩

set_option maxRecDepth 100000 in
set_option maxHeartbeats 1000000 in
theorem cmps2 (a b c d : Int) (w : World) (ha0 : -9223372036854775808 ≤ a) (ha1 : a ≤ 9223372036854775807) (hb0 : -9223372036854775808 ≤ b) (hb1 : b ≤ 9223372036854775807) (hc0 : -9223372036854775808 ≤ c) (hc1 : c ≤ 9223372036854775807) (hd0 : -9223372036854775808 ≤ d) (hd1 : d ≤ 9223372036854775807) (htab : Lib.TabIs Tryd.prog w "internal/strconv.uint64pow10" .u64 Lib.pow10Tab) (h1 : vfB a b = true) (h2 : vfB c d = false) : Calls Tryd.prog 9 #[.agg #[.int .i64 a, .int .i64 b], .agg #[.int .i64 c, .int .i64 d]] w fun e w' => e = .returned (.bool true) ∧ Ext w w' := by
  have CA := Lib.hid (awake_x ((w.alloc (.cells #[.int .i64 a, .int .i64 b] 24)).alloc (.cells #[.int .i64 c, .int .i64 d] 24)) (tab_ext htab (((Upd.refl _ w).alloc _).alloc _)))
  have C34 : Hid (∀ W, Calls Tryd.prog 34 #[.agg #[.int .i64 a, .int .i64 b], .agg #[.int .i64 c, .int .i64 d]] W fun e w' => e = .returned (.tuple #[.int .i64 0, .int .i64 1]) ∧ Ext W w') := fun W => cmp_bad2 a b c d W ha0 ha1 hb0 hb1 hc0 hc1 hd0 hd1 h1 h2
  have C17 : Hid (∀ W, Calls Tryd.prog 17 #[.agg #[.int .i64 a, .int .i64 b]] W fun e w' => e = .returned (.tuple #[.int .i64 (a / b), .int .i64 0]) ∧ Ext W w') := fun W => floor_ok a b W ha0 ha1 hb0 hb1 h1
  have C18 : Hid (∀ W, Calls Tryd.prog 18 #[.agg #[.int .i64 a, .int .i64 b]] W fun e w' => e = .returned (.tuple #[.int .i64 (-((-a) / b)), .int .i64 0]) ∧ Ext W w') := fun W => ceil_ok a b W ha0 ha1 hb0 hb1 h1
  have C16 : Hid (∀ W, Calls Tryd.prog 16 #[.agg #[.int .i64 a, .int .i64 b]] W fun e w' => e = .returned (.bool true) ∧ Ext W w') := fun W => by have := rvalid_x a b W; rw [h1] at this; exact this
  have C35 : Hid (∀ W, Calls Tryd.prog 35 #[.agg #[.int .i64 a, .int .i64 b]] W fun e w' => e = .returned (.int .i64 (a / b)) ∧ Ext W w') := fun W => rfloor_ok a b W h1
  have C36 : Hid (∀ W, Calls Tryd.prog 36 #[.agg #[.int .i64 a, .int .i64 b]] W fun e w' => e = .returned (.int .i64 (-((-a) / b))) ∧ Ext W w') := fun W => rceil_ok a b W h1
  have D16 : Hid (∀ W, Calls Tryd.prog 16 #[.agg #[.int .i64 c, .int .i64 d]] W fun e w' => e = .returned (.bool false) ∧ Ext W w') := fun W => by have := rvalid_x c d W; rw [h2] at this; exact this
  generalize (-((-a) / b)) = CE at *
  generalize a / b = FL at *
  clear htab
  have HE0 : Hid (Ext w ((w.alloc (.cells #[.int .i64 a, .int .i64 b] 24)).alloc (.cells #[.int .i64 c, .int .i64 d] 24))) := ((Upd.refl _ w).alloc _).alloc _
  have hbA := allocOld (alloc0 w (.cells #[.int .i64 a, .int .i64 b] 24)) (.cells #[.int .i64 c, .int .i64 d] 24)
  have hbB := alloc_at (w.alloc (.cells #[.int .i64 a, .int .i64 b] 24)) (.cells #[.int .i64 c, .int .i64 d] 24) (n := w.heap.size + 1) (by simp)
  have HX : Hid (∀ W, Ext ((w.alloc (.cells #[.int .i64 a, .int .i64 b] 24)).alloc (.cells #[.int .i64 c, .int .i64 d] 24)) W → (W.cell? ⟨w.heap.size, 0, none⟩ = some (.int .i64 a) ∧ W.cell? ⟨w.heap.size, 1, none⟩ = some (.int .i64 b) ∧ W.cell? ⟨w.heap.size + 1, 0, none⟩ = some (.int .i64 c) ∧ W.cell? ⟨w.heap.size + 1, 1, none⟩ = some (.int .i64 d))) := fun W hW =>
    ⟨cellRow (hW.heap hbA (fun h => h)) 0 _ rfl, cellRow (hW.heap hbA (fun h => h)) 1 _ rfl, cellRow (hW.heap hbB (fun h => h)) 0 _ rfl, cellRow (hW.heap hbB (fun h => h)) 1 _ rfl⟩
  clear hbA hbB
  have E0 : Hid (Ext ((w.alloc (.cells #[.int .i64 a, .int .i64 b] 24)).alloc (.cells #[.int .i64 c, .int .i64 d] 24)) ((w.alloc (.cells #[.int .i64 a, .int .i64 b] 24)).alloc (.cells #[.int .i64 c, .int .i64 d] 24))) := Upd.refl _ _
  obtain ⟨k0, k1, k2, k3⟩ := HX.out _ E0.out
  go_enter Tryd.func9, Tryd.ntmps9
  go_wp2_with fail
  refine (CA.out).mono ?_
  rintro e w1 ⟨rfl, h1⟩
  have E1 := Lib.hid (E0.out.ext h1)
  clear h1 k0 k1 k2 k3
  obtain ⟨k0, k1, k2, k3⟩ := HX.out _ E1.out
  go_wp2_with fail
  refine (C34.out _).mono ?_
  rintro e w2 ⟨rfl, h2⟩
  have E2 := Lib.hid (E1.out.ext h2)
  clear h2 k0 k1 k2 k3
  obtain ⟨k0, k1, k2, k3⟩ := HX.out _ E2.out
  go_wp2_with fail
  refine (C17.out _).mono ?_
  rintro e w3 ⟨rfl, h3⟩
  have E3 := Lib.hid (E2.out.ext h3)
  clear h3 k0 k1 k2 k3
  obtain ⟨k0, k1, k2, k3⟩ := HX.out _ E3.out
  go_wp2_with fail
  refine (C18.out _).mono ?_
  rintro e w4 ⟨rfl, h4⟩
  have E4 := Lib.hid (E3.out.ext h4)
  clear h4 k0 k1 k2 k3
  obtain ⟨k0, k1, k2, k3⟩ := HX.out _ E4.out
  go_wp2_with fail
  refine (C16.out _).mono ?_
  rintro e w5 ⟨rfl, h5⟩
  have E5 := Lib.hid (E4.out.ext h5)
  clear h5 k0 k1 k2 k3
  obtain ⟨k0, k1, k2, k3⟩ := HX.out _ E5.out
  go_wp2_with fail
  refine (C35.out _).mono ?_
  rintro e w6 ⟨rfl, h6⟩
  have E6 := Lib.hid (E5.out.ext h6)
  clear h6 k0 k1 k2 k3
  obtain ⟨k0, k1, k2, k3⟩ := HX.out _ E6.out
  go_wp2_with fail
  refine (C36.out _).mono ?_
  rintro e w7 ⟨rfl, h7⟩
  have E7 := Lib.hid (E6.out.ext h7)
  clear h7 k0 k1 k2 k3
  obtain ⟨k0, k1, k2, k3⟩ := HX.out _ E7.out
  go_wp2_with fail
  refine (D16.out _).mono ?_
  rintro e w8 ⟨rfl, h8⟩
  have E8 := Lib.hid (E7.out.ext h8)
  clear h8 k0 k1 k2 k3
  obtain ⟨k0, k1, k2, k3⟩ := HX.out _ E8.out
  go_wp2_with fail
  go_ret
  exact ⟨rfl, HE0.out.ext E8.out⟩

set_option maxRecDepth 100000 in
set_option maxHeartbeats 1000000 in
theorem cmps3 (a b c d : Int) (w : World) (ha0 : -9223372036854775808 ≤ a) (ha1 : a ≤ 9223372036854775807) (hb0 : -9223372036854775808 ≤ b) (hb1 : b ≤ 9223372036854775807) (hc0 : -9223372036854775808 ≤ c) (hc1 : c ≤ 9223372036854775807) (hd0 : -9223372036854775808 ≤ d) (hd1 : d ≤ 9223372036854775807) (htab : Lib.TabIs Tryd.prog w "internal/strconv.uint64pow10" .u64 Lib.pow10Tab) (h1 : vfB a b = true) (h2 : vfB c d = true) : Calls Tryd.prog 9 #[.agg #[.int .i64 a, .int .i64 b], .agg #[.int .i64 c, .int .i64 d]] w fun e w' => e = .returned (.bool true) ∧ Ext w w' := by
  have CA := Lib.hid (awake_x ((w.alloc (.cells #[.int .i64 a, .int .i64 b] 24)).alloc (.cells #[.int .i64 c, .int .i64 d] 24)) (tab_ext htab (((Upd.refl _ w).alloc _).alloc _)))
  have C34 : Hid (∀ W, Calls Tryd.prog 34 #[.agg #[.int .i64 a, .int .i64 b], .agg #[.int .i64 c, .int .i64 d]] W fun e w' => e = .returned (.tuple #[.int .i64 (Lib.compareInt (a * d) (c * b)), .int .i64 0]) ∧ Ext W w') := fun W => cmp_ok a b c d W ha0 ha1 hb0 hb1 hc0 hc1 hd0 hd1 ⟨h1, h2⟩
  have C37 : Hid (∀ W, Calls Tryd.prog 37 #[.agg #[.int .i64 a, .int .i64 b], .agg #[.int .i64 c, .int .i64 d]] W fun e w' => e = .returned (.int .i64 (Lib.compareInt (a * d) (c * b))) ∧ Ext W w') := fun W => rcmp_ok a b c d W ⟨h1, h2⟩
  have C17 : Hid (∀ W, Calls Tryd.prog 17 #[.agg #[.int .i64 a, .int .i64 b]] W fun e w' => e = .returned (.tuple #[.int .i64 (a / b), .int .i64 0]) ∧ Ext W w') := fun W => floor_ok a b W ha0 ha1 hb0 hb1 h1
  have C18 : Hid (∀ W, Calls Tryd.prog 18 #[.agg #[.int .i64 a, .int .i64 b]] W fun e w' => e = .returned (.tuple #[.int .i64 (-((-a) / b)), .int .i64 0]) ∧ Ext W w') := fun W => ceil_ok a b W ha0 ha1 hb0 hb1 h1
  have C16 : Hid (∀ W, Calls Tryd.prog 16 #[.agg #[.int .i64 a, .int .i64 b]] W fun e w' => e = .returned (.bool true) ∧ Ext W w') := fun W => by have := rvalid_x a b W; rw [h1] at this; exact this
  have C35 : Hid (∀ W, Calls Tryd.prog 35 #[.agg #[.int .i64 a, .int .i64 b]] W fun e w' => e = .returned (.int .i64 (a / b)) ∧ Ext W w') := fun W => rfloor_ok a b W h1
  have C36 : Hid (∀ W, Calls Tryd.prog 36 #[.agg #[.int .i64 a, .int .i64 b]] W fun e w' => e = .returned (.int .i64 (-((-a) / b))) ∧ Ext W w') := fun W => rceil_ok a b W h1
  have D16 : Hid (∀ W, Calls Tryd.prog 16 #[.agg #[.int .i64 c, .int .i64 d]] W fun e w' => e = .returned (.bool true) ∧ Ext W w') := fun W => by have := rvalid_x c d W; rw [h2] at this; exact this
  generalize (-((-a) / b)) = CE at *
  generalize a / b = FL at *
  generalize Lib.compareInt (a * d) (c * b) = CM at *
  clear htab
  have HE0 : Hid (Ext w ((w.alloc (.cells #[.int .i64 a, .int .i64 b] 24)).alloc (.cells #[.int .i64 c, .int .i64 d] 24))) := ((Upd.refl _ w).alloc _).alloc _
  have hbA := allocOld (alloc0 w (.cells #[.int .i64 a, .int .i64 b] 24)) (.cells #[.int .i64 c, .int .i64 d] 24)
  have hbB := alloc_at (w.alloc (.cells #[.int .i64 a, .int .i64 b] 24)) (.cells #[.int .i64 c, .int .i64 d] 24) (n := w.heap.size + 1) (by simp)
  have HX : Hid (∀ W, Ext ((w.alloc (.cells #[.int .i64 a, .int .i64 b] 24)).alloc (.cells #[.int .i64 c, .int .i64 d] 24)) W → (W.cell? ⟨w.heap.size, 0, none⟩ = some (.int .i64 a) ∧ W.cell? ⟨w.heap.size, 1, none⟩ = some (.int .i64 b) ∧ W.cell? ⟨w.heap.size + 1, 0, none⟩ = some (.int .i64 c) ∧ W.cell? ⟨w.heap.size + 1, 1, none⟩ = some (.int .i64 d))) := fun W hW =>
    ⟨cellRow (hW.heap hbA (fun h => h)) 0 _ rfl, cellRow (hW.heap hbA (fun h => h)) 1 _ rfl, cellRow (hW.heap hbB (fun h => h)) 0 _ rfl, cellRow (hW.heap hbB (fun h => h)) 1 _ rfl⟩
  clear hbA hbB
  have E0 : Hid (Ext ((w.alloc (.cells #[.int .i64 a, .int .i64 b] 24)).alloc (.cells #[.int .i64 c, .int .i64 d] 24)) ((w.alloc (.cells #[.int .i64 a, .int .i64 b] 24)).alloc (.cells #[.int .i64 c, .int .i64 d] 24))) := Upd.refl _ _
  obtain ⟨k0, k1, k2, k3⟩ := HX.out _ E0.out
  go_enter Tryd.func9, Tryd.ntmps9
  go_wp2_with fail
  refine (CA.out).mono ?_
  rintro e w1 ⟨rfl, h1⟩
  have E1 := Lib.hid (E0.out.ext h1)
  clear h1 k0 k1 k2 k3
  obtain ⟨k0, k1, k2, k3⟩ := HX.out _ E1.out
  go_wp2_with fail
  refine (C34.out _).mono ?_
  rintro e w2 ⟨rfl, h2⟩
  have E2 := Lib.hid (E1.out.ext h2)
  clear h2 k0 k1 k2 k3
  obtain ⟨k0, k1, k2, k3⟩ := HX.out _ E2.out
  go_wp2_with fail
  refine (C17.out _).mono ?_
  rintro e w3 ⟨rfl, h3⟩
  have E3 := Lib.hid (E2.out.ext h3)
  clear h3 k0 k1 k2 k3
  obtain ⟨k0, k1, k2, k3⟩ := HX.out _ E3.out
  go_wp2_with fail
  refine (C18.out _).mono ?_
  rintro e w4 ⟨rfl, h4⟩
  have E4 := Lib.hid (E3.out.ext h4)
  clear h4 k0 k1 k2 k3
  obtain ⟨k0, k1, k2, k3⟩ := HX.out _ E4.out
  go_wp2_with fail
  refine (C16.out _).mono ?_
  rintro e w5 ⟨rfl, h5⟩
  have E5 := Lib.hid (E4.out.ext h5)
  clear h5 k0 k1 k2 k3
  obtain ⟨k0, k1, k2, k3⟩ := HX.out _ E5.out
  go_wp2_with fail
  refine (C35.out _).mono ?_
  rintro e w6 ⟨rfl, h6⟩
  have E6 := Lib.hid (E5.out.ext h6)
  clear h6 k0 k1 k2 k3
  obtain ⟨k0, k1, k2, k3⟩ := HX.out _ E6.out
  go_wp2_with fail
  refine (C36.out _).mono ?_
  rintro e w7 ⟨rfl, h7⟩
  have E7 := Lib.hid (E6.out.ext h7)
  clear h7 k0 k1 k2 k3
  obtain ⟨k0, k1, k2, k3⟩ := HX.out _ E7.out
  go_wp2_with fail
  refine (D16.out _).mono ?_
  rintro e w8 ⟨rfl, h8⟩
  have E8 := Lib.hid (E7.out.ext h8)
  clear h8 k0 k1 k2 k3
  obtain ⟨k0, k1, k2, k3⟩ := HX.out _ E8.out
  go_wp2_with fail
  refine (C37.out _).mono ?_
  rintro e w9 ⟨rfl, h9⟩
  have E9 := Lib.hid (E8.out.ext h9)
  clear h9 k0 k1 k2 k3
  obtain ⟨k0, k1, k2, k3⟩ := HX.out _ E9.out
  go_wp2_with fail
  go_ret
  exact ⟨rfl, HE0.out.ext E9.out⟩

theorem compares_law (a b c d : Int) (w : World) (ha0 : -9223372036854775808 ≤ a) (ha1 : a ≤ 9223372036854775807) (hb0 : -9223372036854775808 ≤ b) (hb1 : b ≤ 9223372036854775807) (hc0 : -9223372036854775808 ≤ c) (hc1 : c ≤ 9223372036854775807) (hd0 : -9223372036854775808 ≤ d) (hd1 : d ≤ 9223372036854775807) (htab : Lib.TabIs Tryd.prog w "internal/strconv.uint64pow10" .u64 Lib.pow10Tab) : Calls Tryd.prog 9 #[.agg #[.int .i64 a, .int .i64 b], .agg #[.int .i64 c, .int .i64 d]] w fun e w' => e = .returned (.bool true) ∧ Ext w w' := by
  cases h1 : vfB a b
  · exact cmps1 a b c d w ha0 ha1 hb0 hb1 hc0 hc1 hd0 hd1 htab h1
  · cases h2 : vfB c d
    · exact cmps2 a b c d w ha0 ha1 hb0 hb1 hc0 hc1 hd0 hd1 htab h1 h2
    · exact cmps3 a b c d w ha0 ha1 hb0 hb1 hc0 hc1 hd0 hd1 htab h1 h2

end Go.Proofs.YtlipjgpfhmkdhaaDoor
