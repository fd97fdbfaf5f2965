/- The law Order, the walks 2. -/
import Derived.Test.YtlipjgpfhmkdhaaDoorP2
namespace Go.Proofs.YtlipjgpfhmkdhaaDoor
open Go.RowKit Go.Hw
set_option linter.unusedVariables false
set_option linter.unusedSimpArgs false

set_option maxRecDepth 100000 in
set_option maxHeartbeats 1000000 in
theorem ord_L1A1 (a b c d e f : Int) (w : World) (htab : Lib.TabIs Tryd.prog w "internal/strconv.uint64pow10" .u64 Lib.pow10Tab) (ab bc ac N1 D1 E1 N2 D2 E2 : Int) (cA : ∀ W, Calls Tryd.prog 16 #[.agg #[.int .i64 a, .int .i64 b]] W fun e w' => e = .returned (.bool true) ∧ Ext W w') (cB : ∀ W, Calls Tryd.prog 16 #[.agg #[.int .i64 c, .int .i64 d]] W fun e w' => e = .returned (.bool true) ∧ Ext W w') (cC : ∀ W, Calls Tryd.prog 16 #[.agg #[.int .i64 e, .int .i64 f]] W fun e w' => e = .returned (.bool true) ∧ Ext W w') (cab : ∀ W, Calls Tryd.prog 34 #[.agg #[.int .i64 a, .int .i64 b], .agg #[.int .i64 c, .int .i64 d]] W fun e w' => e = .returned (.tuple #[.int .i64 ab, .int .i64 0]) ∧ Ext W w') (cba : ∀ W, Calls Tryd.prog 34 #[.agg #[.int .i64 c, .int .i64 d], .agg #[.int .i64 a, .int .i64 b]] W fun e w' => e = .returned (.tuple #[.int .i64 (-ab), .int .i64 0]) ∧ Ext W w') (cbc : ∀ W, Calls Tryd.prog 34 #[.agg #[.int .i64 c, .int .i64 d], .agg #[.int .i64 e, .int .i64 f]] W fun e w' => e = .returned (.tuple #[.int .i64 bc, .int .i64 0]) ∧ Ext W w') (cac : ∀ W, Calls Tryd.prog 34 #[.agg #[.int .i64 a, .int .i64 b], .agg #[.int .i64 e, .int .i64 f]] W fun e w' => e = .returned (.tuple #[.int .i64 ac, .int .i64 0]) ∧ Ext W w') (cx : ∀ W, Calls Tryd.prog 20 #[.agg #[.int .i64 a, .int .i64 b], .agg #[.int .i64 e, .int .i64 f]] W fun e w' => e = .returned (.tuple #[.agg #[.int .i64 N1, .int .i64 D1], .int .i64 E1]) ∧ Ext W w') (cy : ∀ W, Calls Tryd.prog 20 #[.agg #[.int .i64 c, .int .i64 d], .agg #[.int .i64 e, .int .i64 f]] W fun e w' => e = .returned (.tuple #[.agg #[.int .i64 N2, .int .i64 D2], .int .i64 E2]) ∧ Ext W w') (ne1 : (E1 != 0) = true) (ne1b : (E1 == 0) = false) (hab : -1 ≤ ab ∧ ab ≤ 1) (bb : Bool) (z : (ab == 0) = bb) (zz : (a == c && b == d) = bb) (l1 : decide (ab ≤ 0) = false) : Calls Tryd.prog 10 #[.agg #[.int .i64 a, .int .i64 b], .agg #[.int .i64 c, .int .i64 d], .agg #[.int .i64 e, .int .i64 f]] w fun e w' => e = .returned (.bool true) ∧ Ext w w' := by
  have CA := Lib.hid (awake_x (((w.alloc (.cells #[.int .i64 a, .int .i64 b] 24)).alloc (.cells #[.int .i64 c, .int .i64 d] 24)).alloc (.cells #[.int .i64 e, .int .i64 f] 24)) (tab_ext htab ((((Upd.refl _ w).alloc _).alloc _).alloc _)))
  clear htab
  have C_A := Lib.hid cA
  have C_B := Lib.hid cB
  have C_C := Lib.hid cC
  have C_ab := Lib.hid cab
  have C_ba := Lib.hid cba
  have C_bc := Lib.hid cbc
  have C_ac := Lib.hid cac
  have C_x := Lib.hid cx
  have C_y := Lib.hid cy
  clear cA cB cC cab cba cbc cac cx cy
  obtain ⟨hab1, hab2⟩ := hab
  have s1 : decide (ab < -1) = false := decide_eq_false (by omega)
  have s2 : decide (1 < ab) = false := decide_eq_false (by omega)
  have heq := fun (a b c d : Int) (W : World) => eq24 a b c d W
  have HE0 : Hid (Ext w (((w.alloc (.cells #[.int .i64 a, .int .i64 b] 24)).alloc (.cells #[.int .i64 c, .int .i64 d] 24)).alloc (.cells #[.int .i64 e, .int .i64 f] 24))) := (((Upd.refl _ w).alloc _).alloc _).alloc _
  have hbA := allocOld (allocOld (alloc0 w (.cells #[.int .i64 a, .int .i64 b] 24)) (.cells #[.int .i64 c, .int .i64 d] 24)) (.cells #[.int .i64 e, .int .i64 f] 24)
  have hbB := allocOld (alloc_at (w.alloc (.cells #[.int .i64 a, .int .i64 b] 24)) (.cells #[.int .i64 c, .int .i64 d] 24) (n := w.heap.size + 1) (by simp)) (.cells #[.int .i64 e, .int .i64 f] 24)
  have hbC := alloc_at ((w.alloc (.cells #[.int .i64 a, .int .i64 b] 24)).alloc (.cells #[.int .i64 c, .int .i64 d] 24)) (.cells #[.int .i64 e, .int .i64 f] 24) (n := w.heap.size + 1 + 1) (by simp)
  have HX : Hid (∀ W, Ext (((w.alloc (.cells #[.int .i64 a, .int .i64 b] 24)).alloc (.cells #[.int .i64 c, .int .i64 d] 24)).alloc (.cells #[.int .i64 e, .int .i64 f] 24)) W → (W.cell? ⟨w.heap.size, 0, none⟩ = some (.int .i64 a) ∧ W.cell? ⟨w.heap.size, 1, none⟩ = some (.int .i64 b) ∧ W.cell? ⟨w.heap.size + 1, 0, none⟩ = some (.int .i64 c) ∧ W.cell? ⟨w.heap.size + 1, 1, none⟩ = some (.int .i64 d) ∧ W.cell? ⟨w.heap.size + 1 + 1, 0, none⟩ = some (.int .i64 e) ∧ W.cell? ⟨w.heap.size + 1 + 1, 1, none⟩ = some (.int .i64 f))) := fun W hW =>
    ⟨cellRow (hW.heap hbA (fun h => h)) 0 _ rfl, cellRow (hW.heap hbA (fun h => h)) 1 _ rfl, cellRow (hW.heap hbB (fun h => h)) 0 _ rfl, cellRow (hW.heap hbB (fun h => h)) 1 _ rfl, cellRow (hW.heap hbC (fun h => h)) 0 _ rfl, cellRow (hW.heap hbC (fun h => h)) 1 _ rfl⟩
  clear hbA hbB hbC
  have E0 : Hid (Ext (((w.alloc (.cells #[.int .i64 a, .int .i64 b] 24)).alloc (.cells #[.int .i64 c, .int .i64 d] 24)).alloc (.cells #[.int .i64 e, .int .i64 f] 24)) (((w.alloc (.cells #[.int .i64 a, .int .i64 b] 24)).alloc (.cells #[.int .i64 c, .int .i64 d] 24)).alloc (.cells #[.int .i64 e, .int .i64 f] 24))) := Upd.refl _ _
  obtain ⟨k0, k1, k2, k3, k4, k5⟩ := HX.out _ E0.out
  go_enter Tryd.func10, Tryd.ntmps10
  go_wp2_with fail
  refine (CA.out).mono ?_
  rintro ee w1 ⟨rfl, h1⟩
  have E1 := Lib.hid (E0.out.ext h1)
  clear h1 k0 k1 k2 k3 k4 k5
  obtain ⟨k0, k1, k2, k3, k4, k5⟩ := HX.out _ E1.out
  go_wp2_with fail
  refine (C_A.out _).mono ?_
  rintro ee w2 ⟨rfl, h2⟩
  have E2 := Lib.hid (E1.out.ext h2)
  clear h2 k0 k1 k2 k3 k4 k5
  obtain ⟨k0, k1, k2, k3, k4, k5⟩ := HX.out _ E2.out
  go_wp2_with fail
  refine (C_B.out _).mono ?_
  rintro ee w3 ⟨rfl, h3⟩
  have E3 := Lib.hid (E2.out.ext h3)
  clear h3 k0 k1 k2 k3 k4 k5
  obtain ⟨k0, k1, k2, k3, k4, k5⟩ := HX.out _ E3.out
  go_wp2_with fail
  refine (C_C.out _).mono ?_
  rintro ee w4 ⟨rfl, h4⟩
  have E4 := Lib.hid (E3.out.ext h4)
  clear h4 k0 k1 k2 k3 k4 k5
  obtain ⟨k0, k1, k2, k3, k4, k5⟩ := HX.out _ E4.out
  go_wp2_with fail
  refine (C_ab.out _).mono ?_
  rintro ee w5 ⟨rfl, h5⟩
  have E5 := Lib.hid (E4.out.ext h5)
  clear h5 k0 k1 k2 k3 k4 k5
  obtain ⟨k0, k1, k2, k3, k4, k5⟩ := HX.out _ E5.out
  go_wp2_with fail
  refine (C_ba.out _).mono ?_
  rintro ee w6 ⟨rfl, h6⟩
  have E6 := Lib.hid (E5.out.ext h6)
  clear h6 k0 k1 k2 k3 k4 k5
  obtain ⟨k0, k1, k2, k3, k4, k5⟩ := HX.out _ E6.out
  go_wp2_with fail
  refine (C_bc.out _).mono ?_
  rintro ee w7 ⟨rfl, h7⟩
  have E7 := Lib.hid (E6.out.ext h7)
  clear h7 k0 k1 k2 k3 k4 k5
  obtain ⟨k0, k1, k2, k3, k4, k5⟩ := HX.out _ E7.out
  go_wp2_with fail
  refine (C_ac.out _).mono ?_
  rintro ee w8 ⟨rfl, h8⟩
  have E8 := Lib.hid (E7.out.ext h8)
  clear h8 k0 k1 k2 k3 k4 k5
  obtain ⟨k0, k1, k2, k3, k4, k5⟩ := HX.out _ E8.out
  go_wp2_with fail
  refine (C_x.out _).mono ?_
  rintro ee u1 ⟨rfl, h⟩
  have F1 := Lib.hid ((E8.out.ext h).alloc (.cells #[.int .i64 N1, .int .i64 D1] 24))
  clear h k0 k1 k2 k3 k4 k5
  obtain ⟨k0, k1, k2, k3, k4, k5⟩ := HX.out _ F1.out
  go_wp2_with fail
  refine (C_y.out _).mono ?_
  rintro ee u2 ⟨rfl, h⟩
  have F2 := Lib.hid ((F1.out.ext h).alloc (.cells #[.int .i64 N2, .int .i64 D2] 24))
  have z1 := allocOld (h.heap (alloc0 u1 (.cells #[.int .i64 N1, .int .i64 D1] 24)) (fun h => h)) (.cells #[.int .i64 N2, .int .i64 D2] 24)
  have z2 := alloc0 u2 (.cells #[.int .i64 N2, .int .i64 D2] 24)
  clear h k0 k1 k2 k3 k4 k5
  have x0 := cellRow z1 0 _ rfl
  have x1 := cellRow z1 1 _ rfl
  have y0 := cellRow z2 0 _ rfl
  have y1 := cellRow z2 1 _ rfl
  clear z1 z2
  go_wp2_with fail
  go_ret
  exact ⟨rfl, HE0.out.ext F2.out⟩

set_option maxRecDepth 100000 in
set_option maxHeartbeats 1000000 in
theorem ord_L1A2 (a b c d e f : Int) (w : World) (htab : Lib.TabIs Tryd.prog w "internal/strconv.uint64pow10" .u64 Lib.pow10Tab) (ab bc ac N1 D1 E1 N2 D2 E2 : Int) (cA : ∀ W, Calls Tryd.prog 16 #[.agg #[.int .i64 a, .int .i64 b]] W fun e w' => e = .returned (.bool true) ∧ Ext W w') (cB : ∀ W, Calls Tryd.prog 16 #[.agg #[.int .i64 c, .int .i64 d]] W fun e w' => e = .returned (.bool true) ∧ Ext W w') (cC : ∀ W, Calls Tryd.prog 16 #[.agg #[.int .i64 e, .int .i64 f]] W fun e w' => e = .returned (.bool true) ∧ Ext W w') (cab : ∀ W, Calls Tryd.prog 34 #[.agg #[.int .i64 a, .int .i64 b], .agg #[.int .i64 c, .int .i64 d]] W fun e w' => e = .returned (.tuple #[.int .i64 ab, .int .i64 0]) ∧ Ext W w') (cba : ∀ W, Calls Tryd.prog 34 #[.agg #[.int .i64 c, .int .i64 d], .agg #[.int .i64 a, .int .i64 b]] W fun e w' => e = .returned (.tuple #[.int .i64 (-ab), .int .i64 0]) ∧ Ext W w') (cbc : ∀ W, Calls Tryd.prog 34 #[.agg #[.int .i64 c, .int .i64 d], .agg #[.int .i64 e, .int .i64 f]] W fun e w' => e = .returned (.tuple #[.int .i64 bc, .int .i64 0]) ∧ Ext W w') (cac : ∀ W, Calls Tryd.prog 34 #[.agg #[.int .i64 a, .int .i64 b], .agg #[.int .i64 e, .int .i64 f]] W fun e w' => e = .returned (.tuple #[.int .i64 ac, .int .i64 0]) ∧ Ext W w') (cx : ∀ W, Calls Tryd.prog 20 #[.agg #[.int .i64 a, .int .i64 b], .agg #[.int .i64 e, .int .i64 f]] W fun e w' => e = .returned (.tuple #[.agg #[.int .i64 N1, .int .i64 D1], .int .i64 0]) ∧ Ext W w') (cy : ∀ W, Calls Tryd.prog 20 #[.agg #[.int .i64 c, .int .i64 d], .agg #[.int .i64 e, .int .i64 f]] W fun e w' => e = .returned (.tuple #[.agg #[.int .i64 N2, .int .i64 D2], .int .i64 E2]) ∧ Ext W w') (ne2 : (E2 != 0) = true) (ne2b : (E2 == 0) = false) (hab : -1 ≤ ab ∧ ab ≤ 1) (bb : Bool) (z : (ab == 0) = bb) (zz : (a == c && b == d) = bb) (l1 : decide (ab ≤ 0) = false) : Calls Tryd.prog 10 #[.agg #[.int .i64 a, .int .i64 b], .agg #[.int .i64 c, .int .i64 d], .agg #[.int .i64 e, .int .i64 f]] w fun e w' => e = .returned (.bool true) ∧ Ext w w' := by
  have CA := Lib.hid (awake_x (((w.alloc (.cells #[.int .i64 a, .int .i64 b] 24)).alloc (.cells #[.int .i64 c, .int .i64 d] 24)).alloc (.cells #[.int .i64 e, .int .i64 f] 24)) (tab_ext htab ((((Upd.refl _ w).alloc _).alloc _).alloc _)))
  clear htab
  have C_A := Lib.hid cA
  have C_B := Lib.hid cB
  have C_C := Lib.hid cC
  have C_ab := Lib.hid cab
  have C_ba := Lib.hid cba
  have C_bc := Lib.hid cbc
  have C_ac := Lib.hid cac
  have C_x := Lib.hid cx
  have C_y := Lib.hid cy
  clear cA cB cC cab cba cbc cac cx cy
  obtain ⟨hab1, hab2⟩ := hab
  have s1 : decide (ab < -1) = false := decide_eq_false (by omega)
  have s2 : decide (1 < ab) = false := decide_eq_false (by omega)
  have heq := fun (a b c d : Int) (W : World) => eq24 a b c d W
  have HE0 : Hid (Ext w (((w.alloc (.cells #[.int .i64 a, .int .i64 b] 24)).alloc (.cells #[.int .i64 c, .int .i64 d] 24)).alloc (.cells #[.int .i64 e, .int .i64 f] 24))) := (((Upd.refl _ w).alloc _).alloc _).alloc _
  have hbA := allocOld (allocOld (alloc0 w (.cells #[.int .i64 a, .int .i64 b] 24)) (.cells #[.int .i64 c, .int .i64 d] 24)) (.cells #[.int .i64 e, .int .i64 f] 24)
  have hbB := allocOld (alloc_at (w.alloc (.cells #[.int .i64 a, .int .i64 b] 24)) (.cells #[.int .i64 c, .int .i64 d] 24) (n := w.heap.size + 1) (by simp)) (.cells #[.int .i64 e, .int .i64 f] 24)
  have hbC := alloc_at ((w.alloc (.cells #[.int .i64 a, .int .i64 b] 24)).alloc (.cells #[.int .i64 c, .int .i64 d] 24)) (.cells #[.int .i64 e, .int .i64 f] 24) (n := w.heap.size + 1 + 1) (by simp)
  have HX : Hid (∀ W, Ext (((w.alloc (.cells #[.int .i64 a, .int .i64 b] 24)).alloc (.cells #[.int .i64 c, .int .i64 d] 24)).alloc (.cells #[.int .i64 e, .int .i64 f] 24)) W → (W.cell? ⟨w.heap.size, 0, none⟩ = some (.int .i64 a) ∧ W.cell? ⟨w.heap.size, 1, none⟩ = some (.int .i64 b) ∧ W.cell? ⟨w.heap.size + 1, 0, none⟩ = some (.int .i64 c) ∧ W.cell? ⟨w.heap.size + 1, 1, none⟩ = some (.int .i64 d) ∧ W.cell? ⟨w.heap.size + 1 + 1, 0, none⟩ = some (.int .i64 e) ∧ W.cell? ⟨w.heap.size + 1 + 1, 1, none⟩ = some (.int .i64 f))) := fun W hW =>
    ⟨cellRow (hW.heap hbA (fun h => h)) 0 _ rfl, cellRow (hW.heap hbA (fun h => h)) 1 _ rfl, cellRow (hW.heap hbB (fun h => h)) 0 _ rfl, cellRow (hW.heap hbB (fun h => h)) 1 _ rfl, cellRow (hW.heap hbC (fun h => h)) 0 _ rfl, cellRow (hW.heap hbC (fun h => h)) 1 _ rfl⟩
  clear hbA hbB hbC
  have E0 : Hid (Ext (((w.alloc (.cells #[.int .i64 a, .int .i64 b] 24)).alloc (.cells #[.int .i64 c, .int .i64 d] 24)).alloc (.cells #[.int .i64 e, .int .i64 f] 24)) (((w.alloc (.cells #[.int .i64 a, .int .i64 b] 24)).alloc (.cells #[.int .i64 c, .int .i64 d] 24)).alloc (.cells #[.int .i64 e, .int .i64 f] 24))) := Upd.refl _ _
  obtain ⟨k0, k1, k2, k3, k4, k5⟩ := HX.out _ E0.out
  go_enter Tryd.func10, Tryd.ntmps10
  go_wp2_with fail
  refine (CA.out).mono ?_
  rintro ee w1 ⟨rfl, h1⟩
  have E1 := Lib.hid (E0.out.ext h1)
  clear h1 k0 k1 k2 k3 k4 k5
  obtain ⟨k0, k1, k2, k3, k4, k5⟩ := HX.out _ E1.out
  go_wp2_with fail
  refine (C_A.out _).mono ?_
  rintro ee w2 ⟨rfl, h2⟩
  have E2 := Lib.hid (E1.out.ext h2)
  clear h2 k0 k1 k2 k3 k4 k5
  obtain ⟨k0, k1, k2, k3, k4, k5⟩ := HX.out _ E2.out
  go_wp2_with fail
  refine (C_B.out _).mono ?_
  rintro ee w3 ⟨rfl, h3⟩
  have E3 := Lib.hid (E2.out.ext h3)
  clear h3 k0 k1 k2 k3 k4 k5
  obtain ⟨k0, k1, k2, k3, k4, k5⟩ := HX.out _ E3.out
  go_wp2_with fail
  refine (C_C.out _).mono ?_
  rintro ee w4 ⟨rfl, h4⟩
  have E4 := Lib.hid (E3.out.ext h4)
  clear h4 k0 k1 k2 k3 k4 k5
  obtain ⟨k0, k1, k2, k3, k4, k5⟩ := HX.out _ E4.out
  go_wp2_with fail
  refine (C_ab.out _).mono ?_
  rintro ee w5 ⟨rfl, h5⟩
  have E5 := Lib.hid (E4.out.ext h5)
  clear h5 k0 k1 k2 k3 k4 k5
  obtain ⟨k0, k1, k2, k3, k4, k5⟩ := HX.out _ E5.out
  go_wp2_with fail
  refine (C_ba.out _).mono ?_
  rintro ee w6 ⟨rfl, h6⟩
  have E6 := Lib.hid (E5.out.ext h6)
  clear h6 k0 k1 k2 k3 k4 k5
  obtain ⟨k0, k1, k2, k3, k4, k5⟩ := HX.out _ E6.out
  go_wp2_with fail
  refine (C_bc.out _).mono ?_
  rintro ee w7 ⟨rfl, h7⟩
  have E7 := Lib.hid (E6.out.ext h7)
  clear h7 k0 k1 k2 k3 k4 k5
  obtain ⟨k0, k1, k2, k3, k4, k5⟩ := HX.out _ E7.out
  go_wp2_with fail
  refine (C_ac.out _).mono ?_
  rintro ee w8 ⟨rfl, h8⟩
  have E8 := Lib.hid (E7.out.ext h8)
  clear h8 k0 k1 k2 k3 k4 k5
  obtain ⟨k0, k1, k2, k3, k4, k5⟩ := HX.out _ E8.out
  go_wp2_with fail
  refine (C_x.out _).mono ?_
  rintro ee u1 ⟨rfl, h⟩
  have F1 := Lib.hid ((E8.out.ext h).alloc (.cells #[.int .i64 N1, .int .i64 D1] 24))
  clear h k0 k1 k2 k3 k4 k5
  obtain ⟨k0, k1, k2, k3, k4, k5⟩ := HX.out _ F1.out
  go_wp2_with fail
  refine (C_y.out _).mono ?_
  rintro ee u2 ⟨rfl, h⟩
  have F2 := Lib.hid ((F1.out.ext h).alloc (.cells #[.int .i64 N2, .int .i64 D2] 24))
  have z1 := allocOld (h.heap (alloc0 u1 (.cells #[.int .i64 N1, .int .i64 D1] 24)) (fun h => h)) (.cells #[.int .i64 N2, .int .i64 D2] 24)
  have z2 := alloc0 u2 (.cells #[.int .i64 N2, .int .i64 D2] 24)
  clear h k0 k1 k2 k3 k4 k5
  have x0 := cellRow z1 0 _ rfl
  have x1 := cellRow z1 1 _ rfl
  have y0 := cellRow z2 0 _ rfl
  have y1 := cellRow z2 1 _ rfl
  clear z1 z2
  go_wp2_with fail
  go_ret
  exact ⟨rfl, HE0.out.ext F2.out⟩

set_option maxRecDepth 100000 in
set_option maxHeartbeats 1000000 in
theorem ord_L2A1 (a b c d e f : Int) (w : World) (htab : Lib.TabIs Tryd.prog w "internal/strconv.uint64pow10" .u64 Lib.pow10Tab) (ab bc ac N1 D1 E1 N2 D2 E2 : Int) (cA : ∀ W, Calls Tryd.prog 16 #[.agg #[.int .i64 a, .int .i64 b]] W fun e w' => e = .returned (.bool true) ∧ Ext W w') (cB : ∀ W, Calls Tryd.prog 16 #[.agg #[.int .i64 c, .int .i64 d]] W fun e w' => e = .returned (.bool true) ∧ Ext W w') (cC : ∀ W, Calls Tryd.prog 16 #[.agg #[.int .i64 e, .int .i64 f]] W fun e w' => e = .returned (.bool true) ∧ Ext W w') (cab : ∀ W, Calls Tryd.prog 34 #[.agg #[.int .i64 a, .int .i64 b], .agg #[.int .i64 c, .int .i64 d]] W fun e w' => e = .returned (.tuple #[.int .i64 ab, .int .i64 0]) ∧ Ext W w') (cba : ∀ W, Calls Tryd.prog 34 #[.agg #[.int .i64 c, .int .i64 d], .agg #[.int .i64 a, .int .i64 b]] W fun e w' => e = .returned (.tuple #[.int .i64 (-ab), .int .i64 0]) ∧ Ext W w') (cbc : ∀ W, Calls Tryd.prog 34 #[.agg #[.int .i64 c, .int .i64 d], .agg #[.int .i64 e, .int .i64 f]] W fun e w' => e = .returned (.tuple #[.int .i64 bc, .int .i64 0]) ∧ Ext W w') (cac : ∀ W, Calls Tryd.prog 34 #[.agg #[.int .i64 a, .int .i64 b], .agg #[.int .i64 e, .int .i64 f]] W fun e w' => e = .returned (.tuple #[.int .i64 ac, .int .i64 0]) ∧ Ext W w') (cx : ∀ W, Calls Tryd.prog 20 #[.agg #[.int .i64 a, .int .i64 b], .agg #[.int .i64 e, .int .i64 f]] W fun e w' => e = .returned (.tuple #[.agg #[.int .i64 N1, .int .i64 D1], .int .i64 E1]) ∧ Ext W w') (cy : ∀ W, Calls Tryd.prog 20 #[.agg #[.int .i64 c, .int .i64 d], .agg #[.int .i64 e, .int .i64 f]] W fun e w' => e = .returned (.tuple #[.agg #[.int .i64 N2, .int .i64 D2], .int .i64 E2]) ∧ Ext W w') (ne1 : (E1 != 0) = true) (ne1b : (E1 == 0) = false) (hab : -1 ≤ ab ∧ ab ≤ 1) (bb : Bool) (z : (ab == 0) = bb) (zz : (a == c && b == d) = bb) (l1 : decide (ab ≤ 0) = true) (l2 : decide (bc ≤ 0) = false) : Calls Tryd.prog 10 #[.agg #[.int .i64 a, .int .i64 b], .agg #[.int .i64 c, .int .i64 d], .agg #[.int .i64 e, .int .i64 f]] w fun e w' => e = .returned (.bool true) ∧ Ext w w' := by
  have CA := Lib.hid (awake_x (((w.alloc (.cells #[.int .i64 a, .int .i64 b] 24)).alloc (.cells #[.int .i64 c, .int .i64 d] 24)).alloc (.cells #[.int .i64 e, .int .i64 f] 24)) (tab_ext htab ((((Upd.refl _ w).alloc _).alloc _).alloc _)))
  clear htab
  have C_A := Lib.hid cA
  have C_B := Lib.hid cB
  have C_C := Lib.hid cC
  have C_ab := Lib.hid cab
  have C_ba := Lib.hid cba
  have C_bc := Lib.hid cbc
  have C_ac := Lib.hid cac
  have C_x := Lib.hid cx
  have C_y := Lib.hid cy
  clear cA cB cC cab cba cbc cac cx cy
  obtain ⟨hab1, hab2⟩ := hab
  have s1 : decide (ab < -1) = false := decide_eq_false (by omega)
  have s2 : decide (1 < ab) = false := decide_eq_false (by omega)
  have heq := fun (a b c d : Int) (W : World) => eq24 a b c d W
  have HE0 : Hid (Ext w (((w.alloc (.cells #[.int .i64 a, .int .i64 b] 24)).alloc (.cells #[.int .i64 c, .int .i64 d] 24)).alloc (.cells #[.int .i64 e, .int .i64 f] 24))) := (((Upd.refl _ w).alloc _).alloc _).alloc _
  have hbA := allocOld (allocOld (alloc0 w (.cells #[.int .i64 a, .int .i64 b] 24)) (.cells #[.int .i64 c, .int .i64 d] 24)) (.cells #[.int .i64 e, .int .i64 f] 24)
  have hbB := allocOld (alloc_at (w.alloc (.cells #[.int .i64 a, .int .i64 b] 24)) (.cells #[.int .i64 c, .int .i64 d] 24) (n := w.heap.size + 1) (by simp)) (.cells #[.int .i64 e, .int .i64 f] 24)
  have hbC := alloc_at ((w.alloc (.cells #[.int .i64 a, .int .i64 b] 24)).alloc (.cells #[.int .i64 c, .int .i64 d] 24)) (.cells #[.int .i64 e, .int .i64 f] 24) (n := w.heap.size + 1 + 1) (by simp)
  have HX : Hid (∀ W, Ext (((w.alloc (.cells #[.int .i64 a, .int .i64 b] 24)).alloc (.cells #[.int .i64 c, .int .i64 d] 24)).alloc (.cells #[.int .i64 e, .int .i64 f] 24)) W → (W.cell? ⟨w.heap.size, 0, none⟩ = some (.int .i64 a) ∧ W.cell? ⟨w.heap.size, 1, none⟩ = some (.int .i64 b) ∧ W.cell? ⟨w.heap.size + 1, 0, none⟩ = some (.int .i64 c) ∧ W.cell? ⟨w.heap.size + 1, 1, none⟩ = some (.int .i64 d) ∧ W.cell? ⟨w.heap.size + 1 + 1, 0, none⟩ = some (.int .i64 e) ∧ W.cell? ⟨w.heap.size + 1 + 1, 1, none⟩ = some (.int .i64 f))) := fun W hW =>
    ⟨cellRow (hW.heap hbA (fun h => h)) 0 _ rfl, cellRow (hW.heap hbA (fun h => h)) 1 _ rfl, cellRow (hW.heap hbB (fun h => h)) 0 _ rfl, cellRow (hW.heap hbB (fun h => h)) 1 _ rfl, cellRow (hW.heap hbC (fun h => h)) 0 _ rfl, cellRow (hW.heap hbC (fun h => h)) 1 _ rfl⟩
  clear hbA hbB hbC
  have E0 : Hid (Ext (((w.alloc (.cells #[.int .i64 a, .int .i64 b] 24)).alloc (.cells #[.int .i64 c, .int .i64 d] 24)).alloc (.cells #[.int .i64 e, .int .i64 f] 24)) (((w.alloc (.cells #[.int .i64 a, .int .i64 b] 24)).alloc (.cells #[.int .i64 c, .int .i64 d] 24)).alloc (.cells #[.int .i64 e, .int .i64 f] 24))) := Upd.refl _ _
  obtain ⟨k0, k1, k2, k3, k4, k5⟩ := HX.out _ E0.out
  go_enter Tryd.func10, Tryd.ntmps10
  go_wp2_with fail
  refine (CA.out).mono ?_
  rintro ee w1 ⟨rfl, h1⟩
  have E1 := Lib.hid (E0.out.ext h1)
  clear h1 k0 k1 k2 k3 k4 k5
  obtain ⟨k0, k1, k2, k3, k4, k5⟩ := HX.out _ E1.out
  go_wp2_with fail
  refine (C_A.out _).mono ?_
  rintro ee w2 ⟨rfl, h2⟩
  have E2 := Lib.hid (E1.out.ext h2)
  clear h2 k0 k1 k2 k3 k4 k5
  obtain ⟨k0, k1, k2, k3, k4, k5⟩ := HX.out _ E2.out
  go_wp2_with fail
  refine (C_B.out _).mono ?_
  rintro ee w3 ⟨rfl, h3⟩
  have E3 := Lib.hid (E2.out.ext h3)
  clear h3 k0 k1 k2 k3 k4 k5
  obtain ⟨k0, k1, k2, k3, k4, k5⟩ := HX.out _ E3.out
  go_wp2_with fail
  refine (C_C.out _).mono ?_
  rintro ee w4 ⟨rfl, h4⟩
  have E4 := Lib.hid (E3.out.ext h4)
  clear h4 k0 k1 k2 k3 k4 k5
  obtain ⟨k0, k1, k2, k3, k4, k5⟩ := HX.out _ E4.out
  go_wp2_with fail
  refine (C_ab.out _).mono ?_
  rintro ee w5 ⟨rfl, h5⟩
  have E5 := Lib.hid (E4.out.ext h5)
  clear h5 k0 k1 k2 k3 k4 k5
  obtain ⟨k0, k1, k2, k3, k4, k5⟩ := HX.out _ E5.out
  go_wp2_with fail
  refine (C_ba.out _).mono ?_
  rintro ee w6 ⟨rfl, h6⟩
  have E6 := Lib.hid (E5.out.ext h6)
  clear h6 k0 k1 k2 k3 k4 k5
  obtain ⟨k0, k1, k2, k3, k4, k5⟩ := HX.out _ E6.out
  go_wp2_with fail
  refine (C_bc.out _).mono ?_
  rintro ee w7 ⟨rfl, h7⟩
  have E7 := Lib.hid (E6.out.ext h7)
  clear h7 k0 k1 k2 k3 k4 k5
  obtain ⟨k0, k1, k2, k3, k4, k5⟩ := HX.out _ E7.out
  go_wp2_with fail
  refine (C_ac.out _).mono ?_
  rintro ee w8 ⟨rfl, h8⟩
  have E8 := Lib.hid (E7.out.ext h8)
  clear h8 k0 k1 k2 k3 k4 k5
  obtain ⟨k0, k1, k2, k3, k4, k5⟩ := HX.out _ E8.out
  go_wp2_with fail
  refine (C_x.out _).mono ?_
  rintro ee u1 ⟨rfl, h⟩
  have F1 := Lib.hid ((E8.out.ext h).alloc (.cells #[.int .i64 N1, .int .i64 D1] 24))
  clear h k0 k1 k2 k3 k4 k5
  obtain ⟨k0, k1, k2, k3, k4, k5⟩ := HX.out _ F1.out
  go_wp2_with fail
  refine (C_y.out _).mono ?_
  rintro ee u2 ⟨rfl, h⟩
  have F2 := Lib.hid ((F1.out.ext h).alloc (.cells #[.int .i64 N2, .int .i64 D2] 24))
  have z1 := allocOld (h.heap (alloc0 u1 (.cells #[.int .i64 N1, .int .i64 D1] 24)) (fun h => h)) (.cells #[.int .i64 N2, .int .i64 D2] 24)
  have z2 := alloc0 u2 (.cells #[.int .i64 N2, .int .i64 D2] 24)
  clear h k0 k1 k2 k3 k4 k5
  have x0 := cellRow z1 0 _ rfl
  have x1 := cellRow z1 1 _ rfl
  have y0 := cellRow z2 0 _ rfl
  have y1 := cellRow z2 1 _ rfl
  clear z1 z2
  go_wp2_with fail
  go_ret
  exact ⟨rfl, HE0.out.ext F2.out⟩

set_option maxRecDepth 100000 in
set_option maxHeartbeats 1000000 in
theorem ord_L2A2 (a b c d e f : Int) (w : World) (htab : Lib.TabIs Tryd.prog w "internal/strconv.uint64pow10" .u64 Lib.pow10Tab) (ab bc ac N1 D1 E1 N2 D2 E2 : Int) (cA : ∀ W, Calls Tryd.prog 16 #[.agg #[.int .i64 a, .int .i64 b]] W fun e w' => e = .returned (.bool true) ∧ Ext W w') (cB : ∀ W, Calls Tryd.prog 16 #[.agg #[.int .i64 c, .int .i64 d]] W fun e w' => e = .returned (.bool true) ∧ Ext W w') (cC : ∀ W, Calls Tryd.prog 16 #[.agg #[.int .i64 e, .int .i64 f]] W fun e w' => e = .returned (.bool true) ∧ Ext W w') (cab : ∀ W, Calls Tryd.prog 34 #[.agg #[.int .i64 a, .int .i64 b], .agg #[.int .i64 c, .int .i64 d]] W fun e w' => e = .returned (.tuple #[.int .i64 ab, .int .i64 0]) ∧ Ext W w') (cba : ∀ W, Calls Tryd.prog 34 #[.agg #[.int .i64 c, .int .i64 d], .agg #[.int .i64 a, .int .i64 b]] W fun e w' => e = .returned (.tuple #[.int .i64 (-ab), .int .i64 0]) ∧ Ext W w') (cbc : ∀ W, Calls Tryd.prog 34 #[.agg #[.int .i64 c, .int .i64 d], .agg #[.int .i64 e, .int .i64 f]] W fun e w' => e = .returned (.tuple #[.int .i64 bc, .int .i64 0]) ∧ Ext W w') (cac : ∀ W, Calls Tryd.prog 34 #[.agg #[.int .i64 a, .int .i64 b], .agg #[.int .i64 e, .int .i64 f]] W fun e w' => e = .returned (.tuple #[.int .i64 ac, .int .i64 0]) ∧ Ext W w') (cx : ∀ W, Calls Tryd.prog 20 #[.agg #[.int .i64 a, .int .i64 b], .agg #[.int .i64 e, .int .i64 f]] W fun e w' => e = .returned (.tuple #[.agg #[.int .i64 N1, .int .i64 D1], .int .i64 0]) ∧ Ext W w') (cy : ∀ W, Calls Tryd.prog 20 #[.agg #[.int .i64 c, .int .i64 d], .agg #[.int .i64 e, .int .i64 f]] W fun e w' => e = .returned (.tuple #[.agg #[.int .i64 N2, .int .i64 D2], .int .i64 E2]) ∧ Ext W w') (ne2 : (E2 != 0) = true) (ne2b : (E2 == 0) = false) (hab : -1 ≤ ab ∧ ab ≤ 1) (bb : Bool) (z : (ab == 0) = bb) (zz : (a == c && b == d) = bb) (l1 : decide (ab ≤ 0) = true) (l2 : decide (bc ≤ 0) = false) : Calls Tryd.prog 10 #[.agg #[.int .i64 a, .int .i64 b], .agg #[.int .i64 c, .int .i64 d], .agg #[.int .i64 e, .int .i64 f]] w fun e w' => e = .returned (.bool true) ∧ Ext w w' := by
  have CA := Lib.hid (awake_x (((w.alloc (.cells #[.int .i64 a, .int .i64 b] 24)).alloc (.cells #[.int .i64 c, .int .i64 d] 24)).alloc (.cells #[.int .i64 e, .int .i64 f] 24)) (tab_ext htab ((((Upd.refl _ w).alloc _).alloc _).alloc _)))
  clear htab
  have C_A := Lib.hid cA
  have C_B := Lib.hid cB
  have C_C := Lib.hid cC
  have C_ab := Lib.hid cab
  have C_ba := Lib.hid cba
  have C_bc := Lib.hid cbc
  have C_ac := Lib.hid cac
  have C_x := Lib.hid cx
  have C_y := Lib.hid cy
  clear cA cB cC cab cba cbc cac cx cy
  obtain ⟨hab1, hab2⟩ := hab
  have s1 : decide (ab < -1) = false := decide_eq_false (by omega)
  have s2 : decide (1 < ab) = false := decide_eq_false (by omega)
  have heq := fun (a b c d : Int) (W : World) => eq24 a b c d W
  have HE0 : Hid (Ext w (((w.alloc (.cells #[.int .i64 a, .int .i64 b] 24)).alloc (.cells #[.int .i64 c, .int .i64 d] 24)).alloc (.cells #[.int .i64 e, .int .i64 f] 24))) := (((Upd.refl _ w).alloc _).alloc _).alloc _
  have hbA := allocOld (allocOld (alloc0 w (.cells #[.int .i64 a, .int .i64 b] 24)) (.cells #[.int .i64 c, .int .i64 d] 24)) (.cells #[.int .i64 e, .int .i64 f] 24)
  have hbB := allocOld (alloc_at (w.alloc (.cells #[.int .i64 a, .int .i64 b] 24)) (.cells #[.int .i64 c, .int .i64 d] 24) (n := w.heap.size + 1) (by simp)) (.cells #[.int .i64 e, .int .i64 f] 24)
  have hbC := alloc_at ((w.alloc (.cells #[.int .i64 a, .int .i64 b] 24)).alloc (.cells #[.int .i64 c, .int .i64 d] 24)) (.cells #[.int .i64 e, .int .i64 f] 24) (n := w.heap.size + 1 + 1) (by simp)
  have HX : Hid (∀ W, Ext (((w.alloc (.cells #[.int .i64 a, .int .i64 b] 24)).alloc (.cells #[.int .i64 c, .int .i64 d] 24)).alloc (.cells #[.int .i64 e, .int .i64 f] 24)) W → (W.cell? ⟨w.heap.size, 0, none⟩ = some (.int .i64 a) ∧ W.cell? ⟨w.heap.size, 1, none⟩ = some (.int .i64 b) ∧ W.cell? ⟨w.heap.size + 1, 0, none⟩ = some (.int .i64 c) ∧ W.cell? ⟨w.heap.size + 1, 1, none⟩ = some (.int .i64 d) ∧ W.cell? ⟨w.heap.size + 1 + 1, 0, none⟩ = some (.int .i64 e) ∧ W.cell? ⟨w.heap.size + 1 + 1, 1, none⟩ = some (.int .i64 f))) := fun W hW =>
    ⟨cellRow (hW.heap hbA (fun h => h)) 0 _ rfl, cellRow (hW.heap hbA (fun h => h)) 1 _ rfl, cellRow (hW.heap hbB (fun h => h)) 0 _ rfl, cellRow (hW.heap hbB (fun h => h)) 1 _ rfl, cellRow (hW.heap hbC (fun h => h)) 0 _ rfl, cellRow (hW.heap hbC (fun h => h)) 1 _ rfl⟩
  clear hbA hbB hbC
  have E0 : Hid (Ext (((w.alloc (.cells #[.int .i64 a, .int .i64 b] 24)).alloc (.cells #[.int .i64 c, .int .i64 d] 24)).alloc (.cells #[.int .i64 e, .int .i64 f] 24)) (((w.alloc (.cells #[.int .i64 a, .int .i64 b] 24)).alloc (.cells #[.int .i64 c, .int .i64 d] 24)).alloc (.cells #[.int .i64 e, .int .i64 f] 24))) := Upd.refl _ _
  obtain ⟨k0, k1, k2, k3, k4, k5⟩ := HX.out _ E0.out
  go_enter Tryd.func10, Tryd.ntmps10
  go_wp2_with fail
  refine (CA.out).mono ?_
  rintro ee w1 ⟨rfl, h1⟩
  have E1 := Lib.hid (E0.out.ext h1)
  clear h1 k0 k1 k2 k3 k4 k5
  obtain ⟨k0, k1, k2, k3, k4, k5⟩ := HX.out _ E1.out
  go_wp2_with fail
  refine (C_A.out _).mono ?_
  rintro ee w2 ⟨rfl, h2⟩
  have E2 := Lib.hid (E1.out.ext h2)
  clear h2 k0 k1 k2 k3 k4 k5
  obtain ⟨k0, k1, k2, k3, k4, k5⟩ := HX.out _ E2.out
  go_wp2_with fail
  refine (C_B.out _).mono ?_
  rintro ee w3 ⟨rfl, h3⟩
  have E3 := Lib.hid (E2.out.ext h3)
  clear h3 k0 k1 k2 k3 k4 k5
  obtain ⟨k0, k1, k2, k3, k4, k5⟩ := HX.out _ E3.out
  go_wp2_with fail
  refine (C_C.out _).mono ?_
  rintro ee w4 ⟨rfl, h4⟩
  have E4 := Lib.hid (E3.out.ext h4)
  clear h4 k0 k1 k2 k3 k4 k5
  obtain ⟨k0, k1, k2, k3, k4, k5⟩ := HX.out _ E4.out
  go_wp2_with fail
  refine (C_ab.out _).mono ?_
  rintro ee w5 ⟨rfl, h5⟩
  have E5 := Lib.hid (E4.out.ext h5)
  clear h5 k0 k1 k2 k3 k4 k5
  obtain ⟨k0, k1, k2, k3, k4, k5⟩ := HX.out _ E5.out
  go_wp2_with fail
  refine (C_ba.out _).mono ?_
  rintro ee w6 ⟨rfl, h6⟩
  have E6 := Lib.hid (E5.out.ext h6)
  clear h6 k0 k1 k2 k3 k4 k5
  obtain ⟨k0, k1, k2, k3, k4, k5⟩ := HX.out _ E6.out
  go_wp2_with fail
  refine (C_bc.out _).mono ?_
  rintro ee w7 ⟨rfl, h7⟩
  have E7 := Lib.hid (E6.out.ext h7)
  clear h7 k0 k1 k2 k3 k4 k5
  obtain ⟨k0, k1, k2, k3, k4, k5⟩ := HX.out _ E7.out
  go_wp2_with fail
  refine (C_ac.out _).mono ?_
  rintro ee w8 ⟨rfl, h8⟩
  have E8 := Lib.hid (E7.out.ext h8)
  clear h8 k0 k1 k2 k3 k4 k5
  obtain ⟨k0, k1, k2, k3, k4, k5⟩ := HX.out _ E8.out
  go_wp2_with fail
  refine (C_x.out _).mono ?_
  rintro ee u1 ⟨rfl, h⟩
  have F1 := Lib.hid ((E8.out.ext h).alloc (.cells #[.int .i64 N1, .int .i64 D1] 24))
  clear h k0 k1 k2 k3 k4 k5
  obtain ⟨k0, k1, k2, k3, k4, k5⟩ := HX.out _ F1.out
  go_wp2_with fail
  refine (C_y.out _).mono ?_
  rintro ee u2 ⟨rfl, h⟩
  have F2 := Lib.hid ((F1.out.ext h).alloc (.cells #[.int .i64 N2, .int .i64 D2] 24))
  have z1 := allocOld (h.heap (alloc0 u1 (.cells #[.int .i64 N1, .int .i64 D1] 24)) (fun h => h)) (.cells #[.int .i64 N2, .int .i64 D2] 24)
  have z2 := alloc0 u2 (.cells #[.int .i64 N2, .int .i64 D2] 24)
  clear h k0 k1 k2 k3 k4 k5
  have x0 := cellRow z1 0 _ rfl
  have x1 := cellRow z1 1 _ rfl
  have y0 := cellRow z2 0 _ rfl
  have y1 := cellRow z2 1 _ rfl
  clear z1 z2
  go_wp2_with fail
  go_ret
  exact ⟨rfl, HE0.out.ext F2.out⟩

set_option maxRecDepth 100000 in
set_option maxHeartbeats 1000000 in
theorem ord_L2A3 (a b c d e f : Int) (w : World) (htab : Lib.TabIs Tryd.prog w "internal/strconv.uint64pow10" .u64 Lib.pow10Tab) (ab bc ac N1 D1 E1 N2 D2 E2 : Int) (cA : ∀ W, Calls Tryd.prog 16 #[.agg #[.int .i64 a, .int .i64 b]] W fun e w' => e = .returned (.bool true) ∧ Ext W w') (cB : ∀ W, Calls Tryd.prog 16 #[.agg #[.int .i64 c, .int .i64 d]] W fun e w' => e = .returned (.bool true) ∧ Ext W w') (cC : ∀ W, Calls Tryd.prog 16 #[.agg #[.int .i64 e, .int .i64 f]] W fun e w' => e = .returned (.bool true) ∧ Ext W w') (cab : ∀ W, Calls Tryd.prog 34 #[.agg #[.int .i64 a, .int .i64 b], .agg #[.int .i64 c, .int .i64 d]] W fun e w' => e = .returned (.tuple #[.int .i64 ab, .int .i64 0]) ∧ Ext W w') (cba : ∀ W, Calls Tryd.prog 34 #[.agg #[.int .i64 c, .int .i64 d], .agg #[.int .i64 a, .int .i64 b]] W fun e w' => e = .returned (.tuple #[.int .i64 (-ab), .int .i64 0]) ∧ Ext W w') (cbc : ∀ W, Calls Tryd.prog 34 #[.agg #[.int .i64 c, .int .i64 d], .agg #[.int .i64 e, .int .i64 f]] W fun e w' => e = .returned (.tuple #[.int .i64 bc, .int .i64 0]) ∧ Ext W w') (cac : ∀ W, Calls Tryd.prog 34 #[.agg #[.int .i64 a, .int .i64 b], .agg #[.int .i64 e, .int .i64 f]] W fun e w' => e = .returned (.tuple #[.int .i64 ac, .int .i64 0]) ∧ Ext W w') (cx : ∀ W, Calls Tryd.prog 20 #[.agg #[.int .i64 a, .int .i64 b], .agg #[.int .i64 e, .int .i64 f]] W fun e w' => e = .returned (.tuple #[.agg #[.int .i64 N1, .int .i64 D1], .int .i64 0]) ∧ Ext W w') (cy : ∀ W, Calls Tryd.prog 20 #[.agg #[.int .i64 c, .int .i64 d], .agg #[.int .i64 e, .int .i64 f]] W fun e w' => e = .returned (.tuple #[.agg #[.int .i64 N2, .int .i64 D2], .int .i64 0]) ∧ Ext W w') (cxy : ∀ W, Calls Tryd.prog 34 #[.agg #[.int .i64 N1, .int .i64 D1], .agg #[.int .i64 N2, .int .i64 D2]] W fun e w' => e = .returned (.tuple #[.int .i64 ab, .int .i64 0]) ∧ Ext W w') (hab : -1 ≤ ab ∧ ab ≤ 1) (bb : Bool) (z : (ab == 0) = bb) (zz : (a == c && b == d) = bb) (l1 : decide (ab ≤ 0) = true) (l2 : decide (bc ≤ 0) = false) : Calls Tryd.prog 10 #[.agg #[.int .i64 a, .int .i64 b], .agg #[.int .i64 c, .int .i64 d], .agg #[.int .i64 e, .int .i64 f]] w fun e w' => e = .returned (.bool true) ∧ Ext w w' := by
  have CA := Lib.hid (awake_x (((w.alloc (.cells #[.int .i64 a, .int .i64 b] 24)).alloc (.cells #[.int .i64 c, .int .i64 d] 24)).alloc (.cells #[.int .i64 e, .int .i64 f] 24)) (tab_ext htab ((((Upd.refl _ w).alloc _).alloc _).alloc _)))
  clear htab
  have C_A := Lib.hid cA
  have C_B := Lib.hid cB
  have C_C := Lib.hid cC
  have C_ab := Lib.hid cab
  have C_ba := Lib.hid cba
  have C_bc := Lib.hid cbc
  have C_ac := Lib.hid cac
  have C_x := Lib.hid cx
  have C_y := Lib.hid cy
  have C_xy := Lib.hid cxy
  clear cA cB cC cab cba cbc cac cx cy cxy
  obtain ⟨hab1, hab2⟩ := hab
  have s1 : decide (ab < -1) = false := decide_eq_false (by omega)
  have s2 : decide (1 < ab) = false := decide_eq_false (by omega)
  have heq := fun (a b c d : Int) (W : World) => eq24 a b c d W
  have HE0 : Hid (Ext w (((w.alloc (.cells #[.int .i64 a, .int .i64 b] 24)).alloc (.cells #[.int .i64 c, .int .i64 d] 24)).alloc (.cells #[.int .i64 e, .int .i64 f] 24))) := (((Upd.refl _ w).alloc _).alloc _).alloc _
  have hbA := allocOld (allocOld (alloc0 w (.cells #[.int .i64 a, .int .i64 b] 24)) (.cells #[.int .i64 c, .int .i64 d] 24)) (.cells #[.int .i64 e, .int .i64 f] 24)
  have hbB := allocOld (alloc_at (w.alloc (.cells #[.int .i64 a, .int .i64 b] 24)) (.cells #[.int .i64 c, .int .i64 d] 24) (n := w.heap.size + 1) (by simp)) (.cells #[.int .i64 e, .int .i64 f] 24)
  have hbC := alloc_at ((w.alloc (.cells #[.int .i64 a, .int .i64 b] 24)).alloc (.cells #[.int .i64 c, .int .i64 d] 24)) (.cells #[.int .i64 e, .int .i64 f] 24) (n := w.heap.size + 1 + 1) (by simp)
  have HX : Hid (∀ W, Ext (((w.alloc (.cells #[.int .i64 a, .int .i64 b] 24)).alloc (.cells #[.int .i64 c, .int .i64 d] 24)).alloc (.cells #[.int .i64 e, .int .i64 f] 24)) W → (W.cell? ⟨w.heap.size, 0, none⟩ = some (.int .i64 a) ∧ W.cell? ⟨w.heap.size, 1, none⟩ = some (.int .i64 b) ∧ W.cell? ⟨w.heap.size + 1, 0, none⟩ = some (.int .i64 c) ∧ W.cell? ⟨w.heap.size + 1, 1, none⟩ = some (.int .i64 d) ∧ W.cell? ⟨w.heap.size + 1 + 1, 0, none⟩ = some (.int .i64 e) ∧ W.cell? ⟨w.heap.size + 1 + 1, 1, none⟩ = some (.int .i64 f))) := fun W hW =>
    ⟨cellRow (hW.heap hbA (fun h => h)) 0 _ rfl, cellRow (hW.heap hbA (fun h => h)) 1 _ rfl, cellRow (hW.heap hbB (fun h => h)) 0 _ rfl, cellRow (hW.heap hbB (fun h => h)) 1 _ rfl, cellRow (hW.heap hbC (fun h => h)) 0 _ rfl, cellRow (hW.heap hbC (fun h => h)) 1 _ rfl⟩
  clear hbA hbB hbC
  have E0 : Hid (Ext (((w.alloc (.cells #[.int .i64 a, .int .i64 b] 24)).alloc (.cells #[.int .i64 c, .int .i64 d] 24)).alloc (.cells #[.int .i64 e, .int .i64 f] 24)) (((w.alloc (.cells #[.int .i64 a, .int .i64 b] 24)).alloc (.cells #[.int .i64 c, .int .i64 d] 24)).alloc (.cells #[.int .i64 e, .int .i64 f] 24))) := Upd.refl _ _
  obtain ⟨k0, k1, k2, k3, k4, k5⟩ := HX.out _ E0.out
  go_enter Tryd.func10, Tryd.ntmps10
  go_wp2_with fail
  refine (CA.out).mono ?_
  rintro ee w1 ⟨rfl, h1⟩
  have E1 := Lib.hid (E0.out.ext h1)
  clear h1 k0 k1 k2 k3 k4 k5
  obtain ⟨k0, k1, k2, k3, k4, k5⟩ := HX.out _ E1.out
  go_wp2_with fail
  refine (C_A.out _).mono ?_
  rintro ee w2 ⟨rfl, h2⟩
  have E2 := Lib.hid (E1.out.ext h2)
  clear h2 k0 k1 k2 k3 k4 k5
  obtain ⟨k0, k1, k2, k3, k4, k5⟩ := HX.out _ E2.out
  go_wp2_with fail
  refine (C_B.out _).mono ?_
  rintro ee w3 ⟨rfl, h3⟩
  have E3 := Lib.hid (E2.out.ext h3)
  clear h3 k0 k1 k2 k3 k4 k5
  obtain ⟨k0, k1, k2, k3, k4, k5⟩ := HX.out _ E3.out
  go_wp2_with fail
  refine (C_C.out _).mono ?_
  rintro ee w4 ⟨rfl, h4⟩
  have E4 := Lib.hid (E3.out.ext h4)
  clear h4 k0 k1 k2 k3 k4 k5
  obtain ⟨k0, k1, k2, k3, k4, k5⟩ := HX.out _ E4.out
  go_wp2_with fail
  refine (C_ab.out _).mono ?_
  rintro ee w5 ⟨rfl, h5⟩
  have E5 := Lib.hid (E4.out.ext h5)
  clear h5 k0 k1 k2 k3 k4 k5
  obtain ⟨k0, k1, k2, k3, k4, k5⟩ := HX.out _ E5.out
  go_wp2_with fail
  refine (C_ba.out _).mono ?_
  rintro ee w6 ⟨rfl, h6⟩
  have E6 := Lib.hid (E5.out.ext h6)
  clear h6 k0 k1 k2 k3 k4 k5
  obtain ⟨k0, k1, k2, k3, k4, k5⟩ := HX.out _ E6.out
  go_wp2_with fail
  refine (C_bc.out _).mono ?_
  rintro ee w7 ⟨rfl, h7⟩
  have E7 := Lib.hid (E6.out.ext h7)
  clear h7 k0 k1 k2 k3 k4 k5
  obtain ⟨k0, k1, k2, k3, k4, k5⟩ := HX.out _ E7.out
  go_wp2_with fail
  refine (C_ac.out _).mono ?_
  rintro ee w8 ⟨rfl, h8⟩
  have E8 := Lib.hid (E7.out.ext h8)
  clear h8 k0 k1 k2 k3 k4 k5
  obtain ⟨k0, k1, k2, k3, k4, k5⟩ := HX.out _ E8.out
  go_wp2_with fail
  refine (C_x.out _).mono ?_
  rintro ee u1 ⟨rfl, h⟩
  have F1 := Lib.hid ((E8.out.ext h).alloc (.cells #[.int .i64 N1, .int .i64 D1] 24))
  clear h k0 k1 k2 k3 k4 k5
  obtain ⟨k0, k1, k2, k3, k4, k5⟩ := HX.out _ F1.out
  go_wp2_with fail
  refine (C_y.out _).mono ?_
  rintro ee u2 ⟨rfl, h⟩
  have F2 := Lib.hid ((F1.out.ext h).alloc (.cells #[.int .i64 N2, .int .i64 D2] 24))
  have z1 := allocOld (h.heap (alloc0 u1 (.cells #[.int .i64 N1, .int .i64 D1] 24)) (fun h => h)) (.cells #[.int .i64 N2, .int .i64 D2] 24)
  have z2 := alloc0 u2 (.cells #[.int .i64 N2, .int .i64 D2] 24)
  clear h k0 k1 k2 k3 k4 k5
  have x0 := cellRow z1 0 _ rfl
  have x1 := cellRow z1 1 _ rfl
  have y0 := cellRow z2 0 _ rfl
  have y1 := cellRow z2 1 _ rfl
  clear z1 z2
  go_wp2_with fail
  refine (C_xy.out _).mono ?_
  rintro ee u3 ⟨rfl, h⟩
  have F3 := Lib.hid (F2.out.ext h)
  clear h x0 x1 y0 y1
  go_wp2_with fail
  go_ret
  exact ⟨rfl, HE0.out.ext F3.out⟩

end Go.Proofs.YtlipjgpfhmkdhaaDoor
