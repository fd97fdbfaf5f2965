/- The law Texts, the walks. -/
import Derived.Test.YtlipjgpfhmkdhaaDoorR13
namespace Go.Proofs.YtlipjgpfhmkdhaaDoor
open Go.RowKit Go.Hw
set_option linter.unusedVariables false
set_option linter.unusedSimpArgs false

set_option maxRecDepth 100000 in
set_option maxHeartbeats 1000000 in
theorem texts_long (a b : Int) (s : ByteArray) (w : World) (htab : Lib.TabIs Tryd.prog w "internal/strconv.uint64pow10" .u64 Lib.pow10Tab) (hs : 200 < s.size) : Calls Tryd.prog 11 #[.agg #[.int .i64 a, .int .i64 b], .string s] w fun e w' => e = .returned (.bool true) ∧ Ext w w' := by
  have CA := Lib.hid (awake_x (w.alloc (.cells #[.int .i64 a, .int .i64 b] 24)) (tab_ext htab ((Upd.refl _ w).alloc _)))
  clear htab 
  have heq := fun (a b c d : Int) (W : World) => eq24 a b c d W
  have HE0 : Hid (Ext w (w.alloc (.cells #[.int .i64 a, .int .i64 b] 24))) := (Upd.refl _ w).alloc _
  have hbA := alloc0 w (.cells #[.int .i64 a, .int .i64 b] 24)
  have HX : Hid (∀ W, Ext (w.alloc (.cells #[.int .i64 a, .int .i64 b] 24)) W → (W.cell? ⟨w.heap.size, 0, none⟩ = some (.int .i64 a) ∧ W.cell? ⟨w.heap.size, 1, none⟩ = some (.int .i64 b))) := fun W hW =>
    ⟨cellRow (hW.heap hbA (fun h => h)) 0 _ rfl, cellRow (hW.heap hbA (fun h => h)) 1 _ rfl⟩
  clear hbA
  have E0 : Hid (Ext (w.alloc (.cells #[.int .i64 a, .int .i64 b] 24)) (w.alloc (.cells #[.int .i64 a, .int .i64 b] 24))) := Upd.refl _ _
  obtain ⟨k0, k1⟩ := HX.out _ E0.out
  have t1 : decide (200 < (s.size : Int)) = true := decide_eq_true (by omega)
  have t2 : decide (200 < s.size) = true := decide_eq_true hs
  go_enter Tryd.func11, Tryd.ntmps11
  go_wp2_with fail
  refine (CA.out).mono ?_
  rintro e w1 ⟨rfl, h1⟩
  have E1 := Lib.hid (E0.out.ext h1)
  clear h1 k0 k1
  obtain ⟨k0, k1⟩ := HX.out _ E1.out
  go_wp2_with fail
  go_ret
  exact ⟨rfl, HE0.out.ext E1.out⟩

set_option maxRecDepth 100000 in
set_option maxHeartbeats 1000000 in
theorem texts_gv (a b : Int) (s : ByteArray) (w : World) (htab : Lib.TabIs Tryd.prog w "internal/strconv.uint64pow10" .u64 Lib.pow10Tab) (hs : ¬ 200 < s.size) (N D : Int) (t : ByteArray) (cp : ∀ W, Ext w W → Calls Tryd.prog 38 #[.string s] W fun e w' => e = .returned (.tuple #[.agg #[.int .i64 N, .int .i64 D], .int .i64 0]) ∧ Ext W w') (cq : ∀ W, Ext w W → Calls Tryd.prog 39 #[.string s] W fun e w' => e = .returned (.tuple #[.agg #[.int .i64 N, .int .i64 D], .bool true]) ∧ Ext W w') (cv : ∀ W, Ext w W → Calls Tryd.prog 16 #[.agg #[.int .i64 a, .int .i64 b]] W fun e w' => e = .returned (.bool true) ∧ Ext W w') (ct : ∀ W, Ext w W → Calls Tryd.prog 40 #[.agg #[.int .i64 a, .int .i64 b]] W fun e w' => e = .returned (.tuple #[.string t, .int .i64 0]) ∧ Ext W w') (cr : ∀ W, Ext w W → Calls Tryd.prog 38 #[.string t] W fun e w' => e = .returned (.tuple #[.agg #[.int .i64 a, .int .i64 b], .int .i64 0]) ∧ Ext W w') (cu : ∀ W, Ext w W → Calls Tryd.prog 41 #[.agg #[.int .i64 a, .int .i64 b]] W fun e w' => e = .returned (.string t) ∧ Ext W w') : Calls Tryd.prog 11 #[.agg #[.int .i64 a, .int .i64 b], .string s] w fun e w' => e = .returned (.bool true) ∧ Ext w w' := by
  have CA := Lib.hid (awake_x (w.alloc (.cells #[.int .i64 a, .int .i64 b] 24)) (tab_ext htab ((Upd.refl _ w).alloc _)))
  have C_p := Lib.hid cp
  have C_q := Lib.hid cq
  have C_v := Lib.hid cv
  have C_t := Lib.hid ct
  have C_r := Lib.hid cr
  have C_u := Lib.hid cu
  clear htab cp cq cv ct cr cu
  have heq := fun (a b c d : Int) (W : World) => eq24 a b c d W
  have HE0 : Hid (Ext w (w.alloc (.cells #[.int .i64 a, .int .i64 b] 24))) := (Upd.refl _ w).alloc _
  have hbA := alloc0 w (.cells #[.int .i64 a, .int .i64 b] 24)
  have HX : Hid (∀ W, Ext (w.alloc (.cells #[.int .i64 a, .int .i64 b] 24)) W → (W.cell? ⟨w.heap.size, 0, none⟩ = some (.int .i64 a) ∧ W.cell? ⟨w.heap.size, 1, none⟩ = some (.int .i64 b))) := fun W hW =>
    ⟨cellRow (hW.heap hbA (fun h => h)) 0 _ rfl, cellRow (hW.heap hbA (fun h => h)) 1 _ rfl⟩
  clear hbA
  have E0 : Hid (Ext (w.alloc (.cells #[.int .i64 a, .int .i64 b] 24)) (w.alloc (.cells #[.int .i64 a, .int .i64 b] 24))) := Upd.refl _ _
  obtain ⟨k0, k1⟩ := HX.out _ E0.out
  have t1 : decide (200 < (s.size : Int)) = false := decide_eq_false (by omega)
  have t2 : decide (200 < s.size) = false := decide_eq_false hs
  go_enter Tryd.func11, Tryd.ntmps11
  go_wp2_with fail
  refine (CA.out).mono ?_
  rintro e w1 ⟨rfl, h1⟩
  have E1 := Lib.hid (E0.out.ext h1)
  clear h1 k0 k1
  obtain ⟨k0, k1⟩ := HX.out _ E1.out
  go_wp2_with fail
  refine (C_p.out _ (HE0.out.ext E1.out)).mono ?_
  rintro e u2 ⟨rfl, h⟩
  have F2 := Lib.hid ((E1.out.ext h).alloc (.cells #[.int .i64 N, .int .i64 D] 24))
  have T2 := Lib.hid (h.alloc (.cells #[.int .i64 N, .int .i64 D] 24))
  have BK2 : Hid (∀ W, Ext (u2.alloc (.cells #[.int .i64 N, .int .i64 D] 24)) W → W.heap[u2.heap.size]? = some (.cells #[.int .i64 N, .int .i64 D] 24)) := fun W hW => hW.heap (alloc0 u2 (.cells #[.int .i64 N, .int .i64 D] 24)) (fun h => h)
  clear h k0 k1
  obtain ⟨k0, k1⟩ := HX.out _ F2.out
  go_wp2_with fail
  refine (C_q.out _ (HE0.out.ext F2.out)).mono ?_
  rintro e u3 ⟨rfl, h⟩
  have F3 := Lib.hid ((F2.out.ext h).alloc (.cells #[.int .i64 N, .int .i64 D] 24))
  have T3 := Lib.hid (h.alloc (.cells #[.int .i64 N, .int .i64 D] 24))
  have BK3 : Hid (∀ W, Ext (u3.alloc (.cells #[.int .i64 N, .int .i64 D] 24)) W → W.heap[u3.heap.size]? = some (.cells #[.int .i64 N, .int .i64 D] 24)) := fun W hW => hW.heap (alloc0 u3 (.cells #[.int .i64 N, .int .i64 D] 24)) (fun h => h)
  clear h k0 k1
  obtain ⟨k0, k1⟩ := HX.out _ F3.out
  have z := BK2.out _ T3.out
  have p0 := cellRow z 0 _ rfl
  have p1 := cellRow z 1 _ rfl
  clear z
  have z := BK3.out _ (Upd.refl _ _)
  have q0 := cellRow z 0 _ rfl
  have q1 := cellRow z 1 _ rfl
  clear z
  go_wp2_with fail
  refine (C_t.out _ (HE0.out.ext F3.out)).mono ?_
  rintro e w4 ⟨rfl, h⟩
  have F4 := Lib.hid (F3.out.ext h)
  clear h k0 k1
  obtain ⟨k0, k1⟩ := HX.out _ F4.out
  go_wp2_with fail
  refine (C_v.out _ (HE0.out.ext F4.out)).mono ?_
  rintro e w5 ⟨rfl, h⟩
  have F5 := Lib.hid (F4.out.ext h)
  clear h k0 k1
  obtain ⟨k0, k1⟩ := HX.out _ F5.out
  go_wp2_with fail
  refine (C_r.out _ (HE0.out.ext F5.out)).mono ?_
  rintro e u6 ⟨rfl, h⟩
  have F6 := Lib.hid ((F5.out.ext h).alloc (.cells #[.int .i64 a, .int .i64 b] 24))
  have T6 := Lib.hid (h.alloc (.cells #[.int .i64 a, .int .i64 b] 24))
  have BK6 : Hid (∀ W, Ext (u6.alloc (.cells #[.int .i64 a, .int .i64 b] 24)) W → W.heap[u6.heap.size]? = some (.cells #[.int .i64 a, .int .i64 b] 24)) := fun W hW => hW.heap (alloc0 u6 (.cells #[.int .i64 a, .int .i64 b] 24)) (fun h => h)
  clear h k0 k1
  obtain ⟨k0, k1⟩ := HX.out _ F6.out
  have z := BK6.out _ (Upd.refl _ _)
  have r0 := cellRow z 0 _ rfl
  have r1 := cellRow z 1 _ rfl
  clear z
  go_wp2_with fail
  refine (C_u.out _ (HE0.out.ext F6.out)).mono ?_
  rintro e w7 ⟨rfl, h⟩
  have F7 := Lib.hid (F6.out.ext h)
  have z := BK6.out _ h
  clear h k0 k1 r0 r1
  obtain ⟨k0, k1⟩ := HX.out _ F7.out
  have r0 := cellRow z 0 _ rfl
  have r1 := cellRow z 1 _ rfl
  clear z
  go_wp2_with fail
  go_ret
  exact ⟨rfl, HE0.out.ext F7.out⟩

set_option maxRecDepth 100000 in
set_option maxHeartbeats 1000000 in
theorem texts_gi (a b : Int) (s : ByteArray) (w : World) (htab : Lib.TabIs Tryd.prog w "internal/strconv.uint64pow10" .u64 Lib.pow10Tab) (hs : ¬ 200 < s.size) (N D : Int) (cp : ∀ W, Ext w W → Calls Tryd.prog 38 #[.string s] W fun e w' => e = .returned (.tuple #[.agg #[.int .i64 N, .int .i64 D], .int .i64 0]) ∧ Ext W w') (cq : ∀ W, Ext w W → Calls Tryd.prog 39 #[.string s] W fun e w' => e = .returned (.tuple #[.agg #[.int .i64 N, .int .i64 D], .bool true]) ∧ Ext W w') (cv : ∀ W, Ext w W → Calls Tryd.prog 16 #[.agg #[.int .i64 a, .int .i64 b]] W fun e w' => e = .returned (.bool false) ∧ Ext W w') (ct : ∀ W, Ext w W → Calls Tryd.prog 40 #[.agg #[.int .i64 a, .int .i64 b]] W fun e w' => e = .returned (.tuple #[.string ⟨#[]⟩, .int .i64 1]) ∧ Ext W w') : Calls Tryd.prog 11 #[.agg #[.int .i64 a, .int .i64 b], .string s] w fun e w' => e = .returned (.bool true) ∧ Ext w w' := by
  have CA := Lib.hid (awake_x (w.alloc (.cells #[.int .i64 a, .int .i64 b] 24)) (tab_ext htab ((Upd.refl _ w).alloc _)))
  have C_p := Lib.hid cp
  have C_q := Lib.hid cq
  have C_v := Lib.hid cv
  have C_t := Lib.hid ct
  clear htab cp cq cv ct
  have heq := fun (a b c d : Int) (W : World) => eq24 a b c d W
  have HE0 : Hid (Ext w (w.alloc (.cells #[.int .i64 a, .int .i64 b] 24))) := (Upd.refl _ w).alloc _
  have hbA := alloc0 w (.cells #[.int .i64 a, .int .i64 b] 24)
  have HX : Hid (∀ W, Ext (w.alloc (.cells #[.int .i64 a, .int .i64 b] 24)) W → (W.cell? ⟨w.heap.size, 0, none⟩ = some (.int .i64 a) ∧ W.cell? ⟨w.heap.size, 1, none⟩ = some (.int .i64 b))) := fun W hW =>
    ⟨cellRow (hW.heap hbA (fun h => h)) 0 _ rfl, cellRow (hW.heap hbA (fun h => h)) 1 _ rfl⟩
  clear hbA
  have E0 : Hid (Ext (w.alloc (.cells #[.int .i64 a, .int .i64 b] 24)) (w.alloc (.cells #[.int .i64 a, .int .i64 b] 24))) := Upd.refl _ _
  obtain ⟨k0, k1⟩ := HX.out _ E0.out
  have t1 : decide (200 < (s.size : Int)) = false := decide_eq_false (by omega)
  have t2 : decide (200 < s.size) = false := decide_eq_false hs
  go_enter Tryd.func11, Tryd.ntmps11
  go_wp2_with fail
  refine (CA.out).mono ?_
  rintro e w1 ⟨rfl, h1⟩
  have E1 := Lib.hid (E0.out.ext h1)
  clear h1 k0 k1
  obtain ⟨k0, k1⟩ := HX.out _ E1.out
  go_wp2_with fail
  refine (C_p.out _ (HE0.out.ext E1.out)).mono ?_
  rintro e u2 ⟨rfl, h⟩
  have F2 := Lib.hid ((E1.out.ext h).alloc (.cells #[.int .i64 N, .int .i64 D] 24))
  have T2 := Lib.hid (h.alloc (.cells #[.int .i64 N, .int .i64 D] 24))
  have BK2 : Hid (∀ W, Ext (u2.alloc (.cells #[.int .i64 N, .int .i64 D] 24)) W → W.heap[u2.heap.size]? = some (.cells #[.int .i64 N, .int .i64 D] 24)) := fun W hW => hW.heap (alloc0 u2 (.cells #[.int .i64 N, .int .i64 D] 24)) (fun h => h)
  clear h k0 k1
  obtain ⟨k0, k1⟩ := HX.out _ F2.out
  go_wp2_with fail
  refine (C_q.out _ (HE0.out.ext F2.out)).mono ?_
  rintro e u3 ⟨rfl, h⟩
  have F3 := Lib.hid ((F2.out.ext h).alloc (.cells #[.int .i64 N, .int .i64 D] 24))
  have T3 := Lib.hid (h.alloc (.cells #[.int .i64 N, .int .i64 D] 24))
  have BK3 : Hid (∀ W, Ext (u3.alloc (.cells #[.int .i64 N, .int .i64 D] 24)) W → W.heap[u3.heap.size]? = some (.cells #[.int .i64 N, .int .i64 D] 24)) := fun W hW => hW.heap (alloc0 u3 (.cells #[.int .i64 N, .int .i64 D] 24)) (fun h => h)
  clear h k0 k1
  obtain ⟨k0, k1⟩ := HX.out _ F3.out
  have z := BK2.out _ T3.out
  have p0 := cellRow z 0 _ rfl
  have p1 := cellRow z 1 _ rfl
  clear z
  have z := BK3.out _ (Upd.refl _ _)
  have q0 := cellRow z 0 _ rfl
  have q1 := cellRow z 1 _ rfl
  clear z
  go_wp2_with fail
  refine (C_t.out _ (HE0.out.ext F3.out)).mono ?_
  rintro e w4 ⟨rfl, h⟩
  have F4 := Lib.hid (F3.out.ext h)
  clear h k0 k1
  obtain ⟨k0, k1⟩ := HX.out _ F4.out
  go_wp2_with fail
  refine (C_v.out _ (HE0.out.ext F4.out)).mono ?_
  rintro e w5 ⟨rfl, h⟩
  have F5 := Lib.hid (F4.out.ext h)
  clear h k0 k1
  obtain ⟨k0, k1⟩ := HX.out _ F5.out
  go_wp2_with fail
  go_ret
  exact ⟨rfl, HE0.out.ext F5.out⟩

set_option maxRecDepth 100000 in
set_option maxHeartbeats 1000000 in
theorem texts_bv (a b : Int) (s : ByteArray) (w : World) (htab : Lib.TabIs Tryd.prog w "internal/strconv.uint64pow10" .u64 Lib.pow10Tab) (hs : ¬ 200 < s.size) (N D : Int) (t : ByteArray) (cp : ∀ W, Ext w W → Calls Tryd.prog 38 #[.string s] W fun e w' => e = .returned (.tuple #[.agg #[.int .i64 0, .int .i64 0], .int .i64 7]) ∧ Ext W w') (cq : ∀ W, Ext w W → Calls Tryd.prog 39 #[.string s] W fun e w' => e = .returned (.tuple #[.agg #[.int .i64 0, .int .i64 0], .bool false]) ∧ Ext W w') (cv : ∀ W, Ext w W → Calls Tryd.prog 16 #[.agg #[.int .i64 a, .int .i64 b]] W fun e w' => e = .returned (.bool true) ∧ Ext W w') (ct : ∀ W, Ext w W → Calls Tryd.prog 40 #[.agg #[.int .i64 a, .int .i64 b]] W fun e w' => e = .returned (.tuple #[.string t, .int .i64 0]) ∧ Ext W w') (cr : ∀ W, Ext w W → Calls Tryd.prog 38 #[.string t] W fun e w' => e = .returned (.tuple #[.agg #[.int .i64 a, .int .i64 b], .int .i64 0]) ∧ Ext W w') (cu : ∀ W, Ext w W → Calls Tryd.prog 41 #[.agg #[.int .i64 a, .int .i64 b]] W fun e w' => e = .returned (.string t) ∧ Ext W w') : Calls Tryd.prog 11 #[.agg #[.int .i64 a, .int .i64 b], .string s] w fun e w' => e = .returned (.bool true) ∧ Ext w w' := by
  have CA := Lib.hid (awake_x (w.alloc (.cells #[.int .i64 a, .int .i64 b] 24)) (tab_ext htab ((Upd.refl _ w).alloc _)))
  have C_p := Lib.hid cp
  have C_q := Lib.hid cq
  have C_v := Lib.hid cv
  have C_t := Lib.hid ct
  have C_r := Lib.hid cr
  have C_u := Lib.hid cu
  clear htab cp cq cv ct cr cu
  have heq := fun (a b c d : Int) (W : World) => eq24 a b c d W
  have HE0 : Hid (Ext w (w.alloc (.cells #[.int .i64 a, .int .i64 b] 24))) := (Upd.refl _ w).alloc _
  have hbA := alloc0 w (.cells #[.int .i64 a, .int .i64 b] 24)
  have HX : Hid (∀ W, Ext (w.alloc (.cells #[.int .i64 a, .int .i64 b] 24)) W → (W.cell? ⟨w.heap.size, 0, none⟩ = some (.int .i64 a) ∧ W.cell? ⟨w.heap.size, 1, none⟩ = some (.int .i64 b))) := fun W hW =>
    ⟨cellRow (hW.heap hbA (fun h => h)) 0 _ rfl, cellRow (hW.heap hbA (fun h => h)) 1 _ rfl⟩
  clear hbA
  have E0 : Hid (Ext (w.alloc (.cells #[.int .i64 a, .int .i64 b] 24)) (w.alloc (.cells #[.int .i64 a, .int .i64 b] 24))) := Upd.refl _ _
  obtain ⟨k0, k1⟩ := HX.out _ E0.out
  have t1 : decide (200 < (s.size : Int)) = false := decide_eq_false (by omega)
  have t2 : decide (200 < s.size) = false := decide_eq_false hs
  go_enter Tryd.func11, Tryd.ntmps11
  go_wp2_with fail
  refine (CA.out).mono ?_
  rintro e w1 ⟨rfl, h1⟩
  have E1 := Lib.hid (E0.out.ext h1)
  clear h1 k0 k1
  obtain ⟨k0, k1⟩ := HX.out _ E1.out
  go_wp2_with fail
  refine (C_p.out _ (HE0.out.ext E1.out)).mono ?_
  rintro e u2 ⟨rfl, h⟩
  have F2 := Lib.hid ((E1.out.ext h).alloc (.cells #[.int .i64 0, .int .i64 0] 24))
  have T2 := Lib.hid (h.alloc (.cells #[.int .i64 0, .int .i64 0] 24))
  have BK2 : Hid (∀ W, Ext (u2.alloc (.cells #[.int .i64 0, .int .i64 0] 24)) W → W.heap[u2.heap.size]? = some (.cells #[.int .i64 0, .int .i64 0] 24)) := fun W hW => hW.heap (alloc0 u2 (.cells #[.int .i64 0, .int .i64 0] 24)) (fun h => h)
  clear h k0 k1
  obtain ⟨k0, k1⟩ := HX.out _ F2.out
  go_wp2_with fail
  refine (C_q.out _ (HE0.out.ext F2.out)).mono ?_
  rintro e u3 ⟨rfl, h⟩
  have F3 := Lib.hid ((F2.out.ext h).alloc (.cells #[.int .i64 0, .int .i64 0] 24))
  have T3 := Lib.hid (h.alloc (.cells #[.int .i64 0, .int .i64 0] 24))
  have BK3 : Hid (∀ W, Ext (u3.alloc (.cells #[.int .i64 0, .int .i64 0] 24)) W → W.heap[u3.heap.size]? = some (.cells #[.int .i64 0, .int .i64 0] 24)) := fun W hW => hW.heap (alloc0 u3 (.cells #[.int .i64 0, .int .i64 0] 24)) (fun h => h)
  clear h k0 k1
  obtain ⟨k0, k1⟩ := HX.out _ F3.out
  have z := BK2.out _ T3.out
  have p0 := cellRow z 0 _ rfl
  have p1 := cellRow z 1 _ rfl
  clear z
  have z := BK3.out _ (Upd.refl _ _)
  have q0 := cellRow z 0 _ rfl
  have q1 := cellRow z 1 _ rfl
  clear z
  go_wp2_with fail
  refine (C_t.out _ (HE0.out.ext F3.out)).mono ?_
  rintro e w4 ⟨rfl, h⟩
  have F4 := Lib.hid (F3.out.ext h)
  clear h k0 k1
  obtain ⟨k0, k1⟩ := HX.out _ F4.out
  go_wp2_with fail
  refine (C_v.out _ (HE0.out.ext F4.out)).mono ?_
  rintro e w5 ⟨rfl, h⟩
  have F5 := Lib.hid (F4.out.ext h)
  clear h k0 k1
  obtain ⟨k0, k1⟩ := HX.out _ F5.out
  go_wp2_with fail
  refine (C_r.out _ (HE0.out.ext F5.out)).mono ?_
  rintro e u6 ⟨rfl, h⟩
  have F6 := Lib.hid ((F5.out.ext h).alloc (.cells #[.int .i64 a, .int .i64 b] 24))
  have T6 := Lib.hid (h.alloc (.cells #[.int .i64 a, .int .i64 b] 24))
  have BK6 : Hid (∀ W, Ext (u6.alloc (.cells #[.int .i64 a, .int .i64 b] 24)) W → W.heap[u6.heap.size]? = some (.cells #[.int .i64 a, .int .i64 b] 24)) := fun W hW => hW.heap (alloc0 u6 (.cells #[.int .i64 a, .int .i64 b] 24)) (fun h => h)
  clear h k0 k1
  obtain ⟨k0, k1⟩ := HX.out _ F6.out
  have z := BK6.out _ (Upd.refl _ _)
  have r0 := cellRow z 0 _ rfl
  have r1 := cellRow z 1 _ rfl
  clear z
  go_wp2_with fail
  refine (C_u.out _ (HE0.out.ext F6.out)).mono ?_
  rintro e w7 ⟨rfl, h⟩
  have F7 := Lib.hid (F6.out.ext h)
  have z := BK6.out _ h
  clear h k0 k1 r0 r1
  obtain ⟨k0, k1⟩ := HX.out _ F7.out
  have r0 := cellRow z 0 _ rfl
  have r1 := cellRow z 1 _ rfl
  clear z
  go_wp2_with fail
  go_ret
  exact ⟨rfl, HE0.out.ext F7.out⟩

set_option maxRecDepth 100000 in
set_option maxHeartbeats 1000000 in
theorem texts_bi (a b : Int) (s : ByteArray) (w : World) (htab : Lib.TabIs Tryd.prog w "internal/strconv.uint64pow10" .u64 Lib.pow10Tab) (hs : ¬ 200 < s.size) (N D : Int) (cp : ∀ W, Ext w W → Calls Tryd.prog 38 #[.string s] W fun e w' => e = .returned (.tuple #[.agg #[.int .i64 0, .int .i64 0], .int .i64 7]) ∧ Ext W w') (cq : ∀ W, Ext w W → Calls Tryd.prog 39 #[.string s] W fun e w' => e = .returned (.tuple #[.agg #[.int .i64 0, .int .i64 0], .bool false]) ∧ Ext W w') (cv : ∀ W, Ext w W → Calls Tryd.prog 16 #[.agg #[.int .i64 a, .int .i64 b]] W fun e w' => e = .returned (.bool false) ∧ Ext W w') (ct : ∀ W, Ext w W → Calls Tryd.prog 40 #[.agg #[.int .i64 a, .int .i64 b]] W fun e w' => e = .returned (.tuple #[.string ⟨#[]⟩, .int .i64 1]) ∧ Ext W w') : Calls Tryd.prog 11 #[.agg #[.int .i64 a, .int .i64 b], .string s] w fun e w' => e = .returned (.bool true) ∧ Ext w w' := by
  have CA := Lib.hid (awake_x (w.alloc (.cells #[.int .i64 a, .int .i64 b] 24)) (tab_ext htab ((Upd.refl _ w).alloc _)))
  have C_p := Lib.hid cp
  have C_q := Lib.hid cq
  have C_v := Lib.hid cv
  have C_t := Lib.hid ct
  clear htab cp cq cv ct
  have heq := fun (a b c d : Int) (W : World) => eq24 a b c d W
  have HE0 : Hid (Ext w (w.alloc (.cells #[.int .i64 a, .int .i64 b] 24))) := (Upd.refl _ w).alloc _
  have hbA := alloc0 w (.cells #[.int .i64 a, .int .i64 b] 24)
  have HX : Hid (∀ W, Ext (w.alloc (.cells #[.int .i64 a, .int .i64 b] 24)) W → (W.cell? ⟨w.heap.size, 0, none⟩ = some (.int .i64 a) ∧ W.cell? ⟨w.heap.size, 1, none⟩ = some (.int .i64 b))) := fun W hW =>
    ⟨cellRow (hW.heap hbA (fun h => h)) 0 _ rfl, cellRow (hW.heap hbA (fun h => h)) 1 _ rfl⟩
  clear hbA
  have E0 : Hid (Ext (w.alloc (.cells #[.int .i64 a, .int .i64 b] 24)) (w.alloc (.cells #[.int .i64 a, .int .i64 b] 24))) := Upd.refl _ _
  obtain ⟨k0, k1⟩ := HX.out _ E0.out
  have t1 : decide (200 < (s.size : Int)) = false := decide_eq_false (by omega)
  have t2 : decide (200 < s.size) = false := decide_eq_false hs
  go_enter Tryd.func11, Tryd.ntmps11
  go_wp2_with fail
  refine (CA.out).mono ?_
  rintro e w1 ⟨rfl, h1⟩
  have E1 := Lib.hid (E0.out.ext h1)
  clear h1 k0 k1
  obtain ⟨k0, k1⟩ := HX.out _ E1.out
  go_wp2_with fail
  refine (C_p.out _ (HE0.out.ext E1.out)).mono ?_
  rintro e u2 ⟨rfl, h⟩
  have F2 := Lib.hid ((E1.out.ext h).alloc (.cells #[.int .i64 0, .int .i64 0] 24))
  have T2 := Lib.hid (h.alloc (.cells #[.int .i64 0, .int .i64 0] 24))
  have BK2 : Hid (∀ W, Ext (u2.alloc (.cells #[.int .i64 0, .int .i64 0] 24)) W → W.heap[u2.heap.size]? = some (.cells #[.int .i64 0, .int .i64 0] 24)) := fun W hW => hW.heap (alloc0 u2 (.cells #[.int .i64 0, .int .i64 0] 24)) (fun h => h)
  clear h k0 k1
  obtain ⟨k0, k1⟩ := HX.out _ F2.out
  go_wp2_with fail
  refine (C_q.out _ (HE0.out.ext F2.out)).mono ?_
  rintro e u3 ⟨rfl, h⟩
  have F3 := Lib.hid ((F2.out.ext h).alloc (.cells #[.int .i64 0, .int .i64 0] 24))
  have T3 := Lib.hid (h.alloc (.cells #[.int .i64 0, .int .i64 0] 24))
  have BK3 : Hid (∀ W, Ext (u3.alloc (.cells #[.int .i64 0, .int .i64 0] 24)) W → W.heap[u3.heap.size]? = some (.cells #[.int .i64 0, .int .i64 0] 24)) := fun W hW => hW.heap (alloc0 u3 (.cells #[.int .i64 0, .int .i64 0] 24)) (fun h => h)
  clear h k0 k1
  obtain ⟨k0, k1⟩ := HX.out _ F3.out
  have z := BK2.out _ T3.out
  have p0 := cellRow z 0 _ rfl
  have p1 := cellRow z 1 _ rfl
  clear z
  have z := BK3.out _ (Upd.refl _ _)
  have q0 := cellRow z 0 _ rfl
  have q1 := cellRow z 1 _ rfl
  clear z
  go_wp2_with fail
  refine (C_t.out _ (HE0.out.ext F3.out)).mono ?_
  rintro e w4 ⟨rfl, h⟩
  have F4 := Lib.hid (F3.out.ext h)
  clear h k0 k1
  obtain ⟨k0, k1⟩ := HX.out _ F4.out
  go_wp2_with fail
  refine (C_v.out _ (HE0.out.ext F4.out)).mono ?_
  rintro e w5 ⟨rfl, h⟩
  have F5 := Lib.hid (F4.out.ext h)
  clear h k0 k1
  obtain ⟨k0, k1⟩ := HX.out _ F5.out
  go_wp2_with fail
  go_ret
  exact ⟨rfl, HE0.out.ext F5.out⟩

end Go.Proofs.YtlipjgpfhmkdhaaDoor
