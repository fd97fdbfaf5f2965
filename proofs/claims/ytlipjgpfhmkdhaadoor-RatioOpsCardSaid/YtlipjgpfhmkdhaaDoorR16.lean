/- The law Ops. -/
import Derived.Test.YtlipjgpfhmkdhaaDoorR13
namespace Go.Proofs.YtlipjgpfhmkdhaaDoor
open Go.RowKit Go.Hw
set_option linter.unusedVariables false
set_option linter.unusedSimpArgs false

set_option maxRecDepth 100000 in
set_option maxHeartbeats 1000000 in
theorem ops_any (a b c d : Int) (w : World) (htab : Lib.TabIs Tryd.prog w "internal/strconv.uint64pow10" .u64 Lib.pow10Tab) (n0 d0 e0 n1 d1 e1 n2 d2 e2 n3 d3 e3 : Int) (c20 : ∀ W, Calls Tryd.prog 20 #[.agg #[.int .i64 a, .int .i64 b], .agg #[.int .i64 c, .int .i64 d]] W fun e w' => e = .returned (.tuple #[.agg #[.int .i64 n0, .int .i64 d0], .int .i64 e0]) ∧ Ext W w') (c21 : ∀ W, Calls Tryd.prog 21 #[.agg #[.int .i64 a, .int .i64 b], .agg #[.int .i64 c, .int .i64 d]] W fun e w' => e = .returned (.tuple #[.agg #[.int .i64 n1, .int .i64 d1], .int .i64 e1]) ∧ Ext W w') (c22 : ∀ W, Calls Tryd.prog 22 #[.agg #[.int .i64 a, .int .i64 b], .agg #[.int .i64 c, .int .i64 d]] W fun e w' => e = .returned (.tuple #[.agg #[.int .i64 n2, .int .i64 d2], .int .i64 e2]) ∧ Ext W w') (c23 : ∀ W, Calls Tryd.prog 23 #[.agg #[.int .i64 a, .int .i64 b], .agg #[.int .i64 c, .int .i64 d]] W fun e w' => e = .returned (.tuple #[.agg #[.int .i64 n3, .int .i64 d3], .int .i64 e3]) ∧ Ext W w') (c24 : ∀ W, Calls Tryd.prog 24 #[.agg #[.int .i64 a, .int .i64 b], .agg #[.int .i64 c, .int .i64 d]] W fun e w' => e = .returned (.tuple #[.agg #[.int .i64 n0, .int .i64 d0], .int .i64 e0]) ∧ Ext W w') (c25 : ∀ W, Calls Tryd.prog 25 #[.agg #[.int .i64 a, .int .i64 b], .agg #[.int .i64 c, .int .i64 d]] W fun e w' => e = .returned (.tuple #[.agg #[.int .i64 n1, .int .i64 d1], .int .i64 e1]) ∧ Ext W w') (c26 : ∀ W, Calls Tryd.prog 26 #[.agg #[.int .i64 a, .int .i64 b], .agg #[.int .i64 c, .int .i64 d]] W fun e w' => e = .returned (.tuple #[.agg #[.int .i64 n2, .int .i64 d2], .int .i64 e2]) ∧ Ext W w') (c27 : ∀ W, Calls Tryd.prog 27 #[.agg #[.int .i64 a, .int .i64 b], .agg #[.int .i64 c, .int .i64 d]] W fun e w' => e = .returned (.tuple #[.agg #[.int .i64 n3, .int .i64 d3], .int .i64 e3]) ∧ Ext W w') : Calls Tryd.prog 5 #[.agg #[.int .i64 a, .int .i64 b], .agg #[.int .i64 c, .int .i64 d]] w fun e w' => e = .returned (.bool true) ∧ Ext w w' := by
  have CA := Lib.hid (awake_x ((w.alloc (.cells #[.int .i64 a, .int .i64 b] 24)).alloc (.cells #[.int .i64 c, .int .i64 d] 24)) (tab_ext htab (((Upd.refl _ w).alloc _).alloc _)))
  have C20 := Lib.hid c20
  have C21 := Lib.hid c21
  have C22 := Lib.hid c22
  have C23 := Lib.hid c23
  have C24 := Lib.hid c24
  have C25 := Lib.hid c25
  have C26 := Lib.hid c26
  have C27 := Lib.hid c27
  clear htab c20 c21 c22 c23 c24 c25 c26 c27
  have HE0 : Hid (Ext w ((w.alloc (.cells #[.int .i64 a, .int .i64 b] 24)).alloc (.cells #[.int .i64 c, .int .i64 d] 24))) := ((Upd.refl _ w).alloc _).alloc _
  have hbA := allocOld (alloc0 w (.cells #[.int .i64 a, .int .i64 b] 24)) (.cells #[.int .i64 c, .int .i64 d] 24)
  have hbB := alloc_at (w.alloc (.cells #[.int .i64 a, .int .i64 b] 24)) (.cells #[.int .i64 c, .int .i64 d] 24) (n := w.heap.size + 1) (by simp)
  have HX : Hid (∀ W, Ext ((w.alloc (.cells #[.int .i64 a, .int .i64 b] 24)).alloc (.cells #[.int .i64 c, .int .i64 d] 24)) W → (W.cell? ⟨w.heap.size, 0, none⟩ = some (.int .i64 a) ∧ W.cell? ⟨w.heap.size, 1, none⟩ = some (.int .i64 b) ∧ W.cell? ⟨w.heap.size + 1, 0, none⟩ = some (.int .i64 c) ∧ W.cell? ⟨w.heap.size + 1, 1, none⟩ = some (.int .i64 d))) := fun W hW =>
    ⟨cellRow (hW.heap hbA (fun h => h)) 0 _ rfl, cellRow (hW.heap hbA (fun h => h)) 1 _ rfl, cellRow (hW.heap hbB (fun h => h)) 0 _ rfl, cellRow (hW.heap hbB (fun h => h)) 1 _ rfl⟩
  clear hbA hbB
  have E0 : Hid (Ext ((w.alloc (.cells #[.int .i64 a, .int .i64 b] 24)).alloc (.cells #[.int .i64 c, .int .i64 d] 24)) ((w.alloc (.cells #[.int .i64 a, .int .i64 b] 24)).alloc (.cells #[.int .i64 c, .int .i64 d] 24))) := Upd.refl _ _
  obtain ⟨k0, k1, k2, k3⟩ := HX.out _ E0.out
  go_enter Tryd.func5, Tryd.ntmps5
  go_wp2_with fail
  refine (CA.out).mono ?_
  rintro e w1 ⟨rfl, h1⟩
  have E1 := Lib.hid (E0.out.ext h1)
  clear h1 k0 k1 k2 k3
  obtain ⟨k0, k1, k2, k3⟩ := HX.out _ E1.out
  go_wp2_with fail
  refine (C20.out _).mono ?_
  rintro e u0 ⟨rfl, h⟩
  have F0 := Lib.hid ((E1.out.ext h).alloc (.cells #[.int .i64 n0, .int .i64 d0] 24))
  have B0 : Hid (∀ W, Ext (u0.alloc (.cells #[.int .i64 n0, .int .i64 d0] 24)) W → W.heap[u0.heap.size]? = some (.cells #[.int .i64 n0, .int .i64 d0] 24)) := fun W hW => hW.heap (alloc0 u0 (.cells #[.int .i64 n0, .int .i64 d0] 24)) (fun h => h)
  have T0 := Lib.hid (h.alloc (.cells #[.int .i64 n0, .int .i64 d0] 24))
  clear h k0 k1 k2 k3
  obtain ⟨k0, k1, k2, k3⟩ := HX.out _ F0.out
  go_wp2_with fail
  refine (C21.out _).mono ?_
  rintro e u1 ⟨rfl, h⟩
  have F1 := Lib.hid ((F0.out.ext h).alloc (.cells #[.int .i64 n1, .int .i64 d1] 24))
  have B1 : Hid (∀ W, Ext (u1.alloc (.cells #[.int .i64 n1, .int .i64 d1] 24)) W → W.heap[u1.heap.size]? = some (.cells #[.int .i64 n1, .int .i64 d1] 24)) := fun W hW => hW.heap (alloc0 u1 (.cells #[.int .i64 n1, .int .i64 d1] 24)) (fun h => h)
  have T1 := Lib.hid (h.alloc (.cells #[.int .i64 n1, .int .i64 d1] 24))
  clear h k0 k1 k2 k3
  obtain ⟨k0, k1, k2, k3⟩ := HX.out _ F1.out
  go_wp2_with fail
  refine (C22.out _).mono ?_
  rintro e u2 ⟨rfl, h⟩
  have F2 := Lib.hid ((F1.out.ext h).alloc (.cells #[.int .i64 n2, .int .i64 d2] 24))
  have B2 : Hid (∀ W, Ext (u2.alloc (.cells #[.int .i64 n2, .int .i64 d2] 24)) W → W.heap[u2.heap.size]? = some (.cells #[.int .i64 n2, .int .i64 d2] 24)) := fun W hW => hW.heap (alloc0 u2 (.cells #[.int .i64 n2, .int .i64 d2] 24)) (fun h => h)
  have T2 := Lib.hid (h.alloc (.cells #[.int .i64 n2, .int .i64 d2] 24))
  clear h k0 k1 k2 k3
  obtain ⟨k0, k1, k2, k3⟩ := HX.out _ F2.out
  go_wp2_with fail
  refine (C23.out _).mono ?_
  rintro e u3 ⟨rfl, h⟩
  have F3 := Lib.hid ((F2.out.ext h).alloc (.cells #[.int .i64 n3, .int .i64 d3] 24))
  have B3 : Hid (∀ W, Ext (u3.alloc (.cells #[.int .i64 n3, .int .i64 d3] 24)) W → W.heap[u3.heap.size]? = some (.cells #[.int .i64 n3, .int .i64 d3] 24)) := fun W hW => hW.heap (alloc0 u3 (.cells #[.int .i64 n3, .int .i64 d3] 24)) (fun h => h)
  have T3 := Lib.hid (h.alloc (.cells #[.int .i64 n3, .int .i64 d3] 24))
  clear h k0 k1 k2 k3
  obtain ⟨k0, k1, k2, k3⟩ := HX.out _ F3.out
  go_wp2_with fail
  refine (C24.out _).mono ?_
  rintro e u4 ⟨rfl, h⟩
  have F4 := Lib.hid ((F3.out.ext h).alloc (.cells #[.int .i64 n0, .int .i64 d0] 24))
  have B4 : Hid (∀ W, Ext (u4.alloc (.cells #[.int .i64 n0, .int .i64 d0] 24)) W → W.heap[u4.heap.size]? = some (.cells #[.int .i64 n0, .int .i64 d0] 24)) := fun W hW => hW.heap (alloc0 u4 (.cells #[.int .i64 n0, .int .i64 d0] 24)) (fun h => h)
  have T4 := Lib.hid (h.alloc (.cells #[.int .i64 n0, .int .i64 d0] 24))
  clear h k0 k1 k2 k3
  obtain ⟨k0, k1, k2, k3⟩ := HX.out _ F4.out
  go_wp2_with fail
  refine (C25.out _).mono ?_
  rintro e u5 ⟨rfl, h⟩
  have F5 := Lib.hid ((F4.out.ext h).alloc (.cells #[.int .i64 n1, .int .i64 d1] 24))
  have B5 : Hid (∀ W, Ext (u5.alloc (.cells #[.int .i64 n1, .int .i64 d1] 24)) W → W.heap[u5.heap.size]? = some (.cells #[.int .i64 n1, .int .i64 d1] 24)) := fun W hW => hW.heap (alloc0 u5 (.cells #[.int .i64 n1, .int .i64 d1] 24)) (fun h => h)
  have T5 := Lib.hid (h.alloc (.cells #[.int .i64 n1, .int .i64 d1] 24))
  clear h k0 k1 k2 k3
  obtain ⟨k0, k1, k2, k3⟩ := HX.out _ F5.out
  go_wp2_with fail
  refine (C26.out _).mono ?_
  rintro e u6 ⟨rfl, h⟩
  have F6 := Lib.hid ((F5.out.ext h).alloc (.cells #[.int .i64 n2, .int .i64 d2] 24))
  have B6 : Hid (∀ W, Ext (u6.alloc (.cells #[.int .i64 n2, .int .i64 d2] 24)) W → W.heap[u6.heap.size]? = some (.cells #[.int .i64 n2, .int .i64 d2] 24)) := fun W hW => hW.heap (alloc0 u6 (.cells #[.int .i64 n2, .int .i64 d2] 24)) (fun h => h)
  have T6 := Lib.hid (h.alloc (.cells #[.int .i64 n2, .int .i64 d2] 24))
  clear h k0 k1 k2 k3
  obtain ⟨k0, k1, k2, k3⟩ := HX.out _ F6.out
  go_wp2_with fail
  refine (C27.out _).mono ?_
  rintro e u7 ⟨rfl, h⟩
  have F7 := Lib.hid ((F6.out.ext h).alloc (.cells #[.int .i64 n3, .int .i64 d3] 24))
  have B7 : Hid (∀ W, Ext (u7.alloc (.cells #[.int .i64 n3, .int .i64 d3] 24)) W → W.heap[u7.heap.size]? = some (.cells #[.int .i64 n3, .int .i64 d3] 24)) := fun W hW => hW.heap (alloc0 u7 (.cells #[.int .i64 n3, .int .i64 d3] 24)) (fun h => h)
  have T7 := Lib.hid (h.alloc (.cells #[.int .i64 n3, .int .i64 d3] 24))
  clear h k0 k1 k2 k3
  obtain ⟨k0, k1, k2, k3⟩ := HX.out _ F7.out
  clear k0 k1 k2 k3
  have G7 : Hid (Ext (u7.alloc (.cells #[.int .i64 n3, .int .i64 d3] 24)) (u7.alloc (.cells #[.int .i64 n3, .int .i64 d3] 24))) := Upd.refl _ _
  have G6 := Lib.hid (T7.out.ext G7.out)
  have G5 := Lib.hid (T6.out.ext G6.out)
  have G4 := Lib.hid (T5.out.ext G5.out)
  have G3 := Lib.hid (T4.out.ext G4.out)
  have G2 := Lib.hid (T3.out.ext G3.out)
  have G1 := Lib.hid (T2.out.ext G2.out)
  have G0 := Lib.hid (T1.out.ext G1.out)
  have z := B0.out _ G0.out
  have x0 := cellRow z 0 _ rfl
  have y0 := cellRow z 1 _ rfl
  clear z
  have z := B1.out _ G1.out
  have x1 := cellRow z 0 _ rfl
  have y1 := cellRow z 1 _ rfl
  clear z
  have z := B2.out _ G2.out
  have x2 := cellRow z 0 _ rfl
  have y2 := cellRow z 1 _ rfl
  clear z
  have z := B3.out _ G3.out
  have x3 := cellRow z 0 _ rfl
  have y3 := cellRow z 1 _ rfl
  clear z
  have z := B4.out _ G4.out
  have x4 := cellRow z 0 _ rfl
  have y4 := cellRow z 1 _ rfl
  clear z
  have z := B5.out _ G5.out
  have x5 := cellRow z 0 _ rfl
  have y5 := cellRow z 1 _ rfl
  clear z
  have z := B6.out _ G6.out
  have x6 := cellRow z 0 _ rfl
  have y6 := cellRow z 1 _ rfl
  clear z
  have z := B7.out _ G7.out
  have x7 := cellRow z 0 _ rfl
  have y7 := cellRow z 1 _ rfl
  clear z
  have heq := fun (a b c d : Int) (W : World) => eq24 a b c d W
  go_wp2_with fail
  go_ret
  exact ⟨rfl, HE0.out.ext F7.out⟩
theorem ops_law (a b c d : Int) (w : World) (ha0 : -9223372036854775808 ≤ a) (ha1 : a ≤ 9223372036854775807) (hb0 : -9223372036854775808 ≤ b) (hb1 : b ≤ 9223372036854775807) (hc0 : -9223372036854775808 ≤ c) (hc1 : c ≤ 9223372036854775807) (hd0 : -9223372036854775808 ≤ d) (hd1 : d ≤ 9223372036854775807) (htab : Lib.TabIs Tryd.prog w "internal/strconv.uint64pow10" .u64 Lib.pow10Tab) : Calls Tryd.prog 5 #[.agg #[.int .i64 a, .int .i64 b], .agg #[.int .i64 c, .int .i64 d]] w fun e w' => e = .returned (.bool true) ∧ Ext w w' := by
  by_cases hv : (vfB a b && vfB c d) = true
  · have hv2 : vfB a b = true ∧ vfB c d = true := by simpa using hv
    exact ops_any a b c d w htab _ _ _ _ _ _ _ _ _ _ _ _ (fun W => add_ok a b c d W ha0 ha1 hb0 hb1 hc0 hc1 hd0 hd1 hv2) (fun W => sub_ok a b c d W ha0 ha1 hb0 hb1 hc0 hc1 hd0 hd1 hv2) (fun W => mul_ok a b c d W ha0 ha1 hb0 hb1 hc0 hc1 hd0 hd1 hv2) (fun W => div_ok a b c d W ha0 ha1 hb0 hb1 hc0 hc1 hd0 hd1 hv2) (fun W => radd_ok a b c d W hv2) (fun W => rsub_ok a b c d W hv2) (fun W => rmul_ok a b c d W hv2) (fun W => rdiv_ok a b c d W hv2)
  · have hv2 : (vfB a b && vfB c d) = false := by simpa using hv
    exact ops_any a b c d w htab _ _ _ _ _ _ _ _ _ _ _ _ (fun W => add_bad a b c d W ha0 ha1 hb0 hb1 hc0 hc1 hd0 hd1 hv2) (fun W => sub_bad a b c d W ha0 ha1 hb0 hb1 hc0 hc1 hd0 hd1 hv2) (fun W => mul_bad a b c d W ha0 ha1 hb0 hb1 hc0 hc1 hd0 hd1 hv2) (fun W => div_bad a b c d W ha0 ha1 hb0 hb1 hc0 hc1 hd0 hd1 hv2) (fun W => radd_bad a b c d W hv2) (fun W => rsub_bad a b c d W hv2) (fun W => rmul_bad a b c d W hv2) (fun W => rdiv_bad a b c d W hv2)

end Go.Proofs.YtlipjgpfhmkdhaaDoor
