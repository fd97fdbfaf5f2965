/- The law Rounds. -/
import Derived.Test.YtlipjgpfhmkdhaaDoorR13
namespace Go.Proofs.YtlipjgpfhmkdhaaDoor
open Go.RowKit Go.Hw
set_option linter.unusedVariables false
set_option linter.unusedSimpArgs false

theorem fl_bd (a b : Int) (hb : 1 ≤ b) (h : -1073741824 ≤ a ∧ a ≤ 1073741824) : -1073741824 ≤ a / b ∧ a / b ≤ 1073741824 := by
  refine ⟨Int.le_ediv_of_mul_le (by omega) (by omega), ?_⟩
  have := Int.ediv_lt_of_lt_mul (a := a) (b := 1073741825) (c := b) (by omega) (by omega)
  omega
theorem rd_facts (a b : Int) (hv : vfB a b = true) : a / b * b ≤ a ∧ a < (a / b + 1) * b ∧ (b = 1 → -((-a) / b) = a / b) ∧ (b ≠ 1 → -((-a) / b) = a / b + 1) := by
  obtain ⟨⟨b1, b2, _, _⟩, hg⟩ := (vfB_iff a b).1 hv
  refine ⟨Int.ediv_mul_le a (by omega), Int.lt_ediv_add_one_mul_self a (by omega), fun h => by subst h; simp, fun h => ?_⟩
  have hnd : ¬ b ∣ a := fun hd => by
    have h2 : b.natAbs ∣ a.natAbs := Int.natAbs_dvd_natAbs.2 hd
    rw [Nat.gcd_eq_right h2] at hg
    omega
  rw [Int.neg_ediv, if_neg hnd, Int.sign_eq_one_of_pos (by omega)]
  omega
theorem mul_bd2 {x y : Int} (hx : -1073741825 ≤ x ∧ x ≤ 1073741825) (hy : 1 ≤ y ∧ y ≤ 1073741824) : -1152921505680588800 ≤ x * y ∧ x * y ≤ 1152921505680588800 := by
  have h : (x * y).natAbs ≤ 1073741825 * 1073741824 := by
    rw [Int.natAbs_mul]; exact Nat.mul_le_mul (by omega) (by omega)
  omega
set_option maxRecDepth 100000 in
set_option maxHeartbeats 1000000 in
theorem rounds1 (a b : Int) (w : World) (ha0 : -9223372036854775808 ≤ a) (ha1 : a ≤ 9223372036854775807) (hb0 : -9223372036854775808 ≤ b) (hb1 : b ≤ 9223372036854775807) (htab : Lib.TabIs Tryd.prog w "internal/strconv.uint64pow10" .u64 Lib.pow10Tab) (hv : vfB a b = false) : Calls Tryd.prog 4 #[.agg #[.int .i64 a, .int .i64 b]] w fun e w' => e = .returned (.bool true) ∧ Ext w w' := by
  have CA := Lib.hid (awake_x (w.alloc (.cells #[.int .i64 a, .int .i64 b] 24)) (tab_ext htab ((Upd.refl _ w).alloc _)))
  have C16 : Hid (∀ W, Calls Tryd.prog 16 #[.agg #[.int .i64 a, .int .i64 b]] W fun e w' => e = .returned (.bool false) ∧ Ext W w') := fun W => by have := rvalid_x a b W; rw [hv] at this; exact this
  clear htab hv
  have HE0 : Hid (Ext w (w.alloc (.cells #[.int .i64 a, .int .i64 b] 24))) := (Upd.refl _ w).alloc _
  have hbA := alloc0 w (.cells #[.int .i64 a, .int .i64 b] 24)
  have HX : Hid (∀ W, Ext (w.alloc (.cells #[.int .i64 a, .int .i64 b] 24)) W → (W.cell? ⟨w.heap.size, 0, none⟩ = some (.int .i64 a) ∧ W.cell? ⟨w.heap.size, 1, none⟩ = some (.int .i64 b))) := fun W hW =>
    ⟨cellRow (hW.heap hbA (fun h => h)) 0 _ rfl, cellRow (hW.heap hbA (fun h => h)) 1 _ rfl⟩
  clear hbA
  have E0 : Hid (Ext (w.alloc (.cells #[.int .i64 a, .int .i64 b] 24)) (w.alloc (.cells #[.int .i64 a, .int .i64 b] 24))) := Upd.refl _ _
  obtain ⟨k0, k1⟩ := HX.out _ E0.out
  go_enter Tryd.func4, Tryd.ntmps4
  go_wp2_with fail
  refine (CA.out).mono ?_
  rintro e w1 ⟨rfl, h1⟩
  have E1 := Lib.hid (E0.out.ext h1)
  clear h1 k0 k1
  obtain ⟨k0, k1⟩ := HX.out _ E1.out
  go_wp2_with fail
  refine (C16.out _).mono ?_
  rintro e w2 ⟨rfl, h2⟩
  have E2 := Lib.hid (E1.out.ext h2)
  clear h2 k0 k1
  obtain ⟨k0, k1⟩ := HX.out _ E2.out
  go_wp2_with fail
  go_ret
  exact ⟨rfl, HE0.out.ext E2.out⟩

set_option maxRecDepth 100000 in
set_option maxHeartbeats 1000000 in
theorem rounds2 (a b : Int) (w : World) (ha0 : -9223372036854775808 ≤ a) (ha1 : a ≤ 9223372036854775807) (hb0 : -9223372036854775808 ≤ b) (hb1 : b ≤ 9223372036854775807) (htab : Lib.TabIs Tryd.prog w "internal/strconv.uint64pow10" .u64 Lib.pow10Tab) (hv : vfB a b = true) (hb : b = 1) : Calls Tryd.prog 4 #[.agg #[.int .i64 a, .int .i64 b]] w fun e w' => e = .returned (.bool true) ∧ Ext w w' := by
  obtain ⟨va, vb, _⟩ := vf_bd hv
  have hvn := vf_neg hv
  have CA := Lib.hid (awake_x (w.alloc (.cells #[.int .i64 a, .int .i64 b] 24)) (tab_ext htab ((Upd.refl _ w).alloc _)))
  have C16 : Hid (∀ W, Calls Tryd.prog 16 #[.agg #[.int .i64 a, .int .i64 b]] W fun e w' => e = .returned (.bool true) ∧ Ext W w') := fun W => by have := rvalid_x a b W; rw [hv] at this; exact this
  have C17 : Hid (∀ W, Calls Tryd.prog 17 #[.agg #[.int .i64 a, .int .i64 b]] W fun e w' => e = .returned (.tuple #[.int .i64 (a / b), .int .i64 0]) ∧ Ext W w') := fun W => floor_ok a b W ha0 ha1 hb0 hb1 hv
  have C18 : Hid (∀ W, Calls Tryd.prog 18 #[.agg #[.int .i64 a, .int .i64 b]] W fun e w' => e = .returned (.tuple #[.int .i64 (-((-a) / b)), .int .i64 0]) ∧ Ext W w') := fun W => ceil_ok a b W ha0 ha1 hb0 hb1 hv
  have C19 : Hid (∀ W, Calls Tryd.prog 19 #[.agg #[.int .i64 a, .int .i64 b]] W fun e w' => e = .returned (.agg #[.int .i64 (-a), .int .i64 b]) ∧ Ext W w') := fun W => neg_x a b W va
  have D17 : Hid (∀ W, Calls Tryd.prog 17 #[.agg #[.int .i64 (-a), .int .i64 b]] W fun e w' => e = .returned (.tuple #[.int .i64 ((-a) / b), .int .i64 0]) ∧ Ext W w') := fun W => floor_ok (-a) b W (by omega) (by omega) hb0 hb1 hvn
  obtain ⟨f1, f2, f3, f4⟩ := rd_facts a b hv
  obtain ⟨g1, g2⟩ := fl_bd a b vb.1 va
  have g3 := fl_bd (-a) b vb.1 (by omega)
  have p1 := mul_bd2 (x := a / b) (y := b) (by omega) vb
  have p2 := mul_bd2 (x := a / b + 1) (y := b) (by omega) vb
  clear htab hv hvn va
  have f := f3 hb
  clear f3 f4
  generalize (-a) / b = KK at *
  generalize a / b = FL at *
  have f := f.symm
  generalize -a = AN at *
  obtain ⟨P, hP⟩ : ∃ P, FL * b = P := ⟨_, rfl⟩
  obtain ⟨Q, hQ⟩ : ∃ Q, (FL + 1) * b = Q := ⟨_, rfl⟩
  rw [hP] at f1 p1
  rw [hQ] at f2 p2
  have t1 : decide (FL < -1073741824) = false := decide_eq_false (by omega)
  have t2 : decide (1073741824 < FL) = false := decide_eq_false (by omega)
  have t3 : decide (P ≤ a) = true := decide_eq_true f1
  have t4 : decide (a < Q) = true := decide_eq_true f2
  clear f1 f2
  have m1 : (b == 1) = true := beq_iff_eq.2 hb
  subst f
  clear hb
  have HE0 : Hid (Ext w (w.alloc (.cells #[.int .i64 a, .int .i64 b] 24))) := (Upd.refl _ w).alloc _
  have hbA := alloc0 w (.cells #[.int .i64 a, .int .i64 b] 24)
  have HX : Hid (∀ W, Ext (w.alloc (.cells #[.int .i64 a, .int .i64 b] 24)) W → (W.cell? ⟨w.heap.size, 0, none⟩ = some (.int .i64 a) ∧ W.cell? ⟨w.heap.size, 1, none⟩ = some (.int .i64 b))) := fun W hW =>
    ⟨cellRow (hW.heap hbA (fun h => h)) 0 _ rfl, cellRow (hW.heap hbA (fun h => h)) 1 _ rfl⟩
  clear hbA
  have E0 : Hid (Ext (w.alloc (.cells #[.int .i64 a, .int .i64 b] 24)) (w.alloc (.cells #[.int .i64 a, .int .i64 b] 24))) := Upd.refl _ _
  obtain ⟨k0, k1⟩ := HX.out _ E0.out
  go_enter Tryd.func4, Tryd.ntmps4
  go_wp2_with fail
  refine (CA.out).mono ?_
  rintro e w1 ⟨rfl, h1⟩
  have E1 := Lib.hid (E0.out.ext h1)
  clear h1 k0 k1
  obtain ⟨k0, k1⟩ := HX.out _ E1.out
  go_wp2_with fail
  refine (C16.out _).mono ?_
  rintro e w2 ⟨rfl, h2⟩
  have E2 := Lib.hid (E1.out.ext h2)
  clear h2 k0 k1
  obtain ⟨k0, k1⟩ := HX.out _ E2.out
  go_wp2_with fail
  refine (C17.out _).mono ?_
  rintro e w3 ⟨rfl, h3⟩
  have E3 := Lib.hid (E2.out.ext h3)
  clear h3 k0 k1
  obtain ⟨k0, k1⟩ := HX.out _ E3.out
  go_wp2_with fail
  refine (C18.out _).mono ?_
  rintro e w4 ⟨rfl, h4⟩
  have E4 := Lib.hid (E3.out.ext h4)
  clear h4 k0 k1
  obtain ⟨k0, k1⟩ := HX.out _ E4.out
  go_wp2_with fail
  refine (C19.out _).mono ?_
  rintro e w5 ⟨rfl, h5⟩
  have E5 := Lib.hid (E4.out.ext h5)
  clear h5 k0 k1
  obtain ⟨k0, k1⟩ := HX.out _ E5.out
  go_wp2_with fail
  refine (D17.out _).mono ?_
  rintro e w6 ⟨rfl, h6⟩
  have E6 := Lib.hid (E5.out.ext h6)
  clear h6 k0 k1
  obtain ⟨k0, k1⟩ := HX.out _ E6.out
  go_wp2_with fail
  go_ret
  exact ⟨rfl, HE0.out.ext E6.out⟩

set_option maxRecDepth 100000 in
set_option maxHeartbeats 1000000 in
theorem rounds3 (a b : Int) (w : World) (ha0 : -9223372036854775808 ≤ a) (ha1 : a ≤ 9223372036854775807) (hb0 : -9223372036854775808 ≤ b) (hb1 : b ≤ 9223372036854775807) (htab : Lib.TabIs Tryd.prog w "internal/strconv.uint64pow10" .u64 Lib.pow10Tab) (hv : vfB a b = true) (hb : b ≠ 1) : Calls Tryd.prog 4 #[.agg #[.int .i64 a, .int .i64 b]] w fun e w' => e = .returned (.bool true) ∧ Ext w w' := by
  obtain ⟨va, vb, _⟩ := vf_bd hv
  have hvn := vf_neg hv
  have CA := Lib.hid (awake_x (w.alloc (.cells #[.int .i64 a, .int .i64 b] 24)) (tab_ext htab ((Upd.refl _ w).alloc _)))
  have C16 : Hid (∀ W, Calls Tryd.prog 16 #[.agg #[.int .i64 a, .int .i64 b]] W fun e w' => e = .returned (.bool true) ∧ Ext W w') := fun W => by have := rvalid_x a b W; rw [hv] at this; exact this
  have C17 : Hid (∀ W, Calls Tryd.prog 17 #[.agg #[.int .i64 a, .int .i64 b]] W fun e w' => e = .returned (.tuple #[.int .i64 (a / b), .int .i64 0]) ∧ Ext W w') := fun W => floor_ok a b W ha0 ha1 hb0 hb1 hv
  have C18 : Hid (∀ W, Calls Tryd.prog 18 #[.agg #[.int .i64 a, .int .i64 b]] W fun e w' => e = .returned (.tuple #[.int .i64 (-((-a) / b)), .int .i64 0]) ∧ Ext W w') := fun W => ceil_ok a b W ha0 ha1 hb0 hb1 hv
  have C19 : Hid (∀ W, Calls Tryd.prog 19 #[.agg #[.int .i64 a, .int .i64 b]] W fun e w' => e = .returned (.agg #[.int .i64 (-a), .int .i64 b]) ∧ Ext W w') := fun W => neg_x a b W va
  have D17 : Hid (∀ W, Calls Tryd.prog 17 #[.agg #[.int .i64 (-a), .int .i64 b]] W fun e w' => e = .returned (.tuple #[.int .i64 ((-a) / b), .int .i64 0]) ∧ Ext W w') := fun W => floor_ok (-a) b W (by omega) (by omega) hb0 hb1 hvn
  obtain ⟨f1, f2, f3, f4⟩ := rd_facts a b hv
  obtain ⟨g1, g2⟩ := fl_bd a b vb.1 va
  have g3 := fl_bd (-a) b vb.1 (by omega)
  have p1 := mul_bd2 (x := a / b) (y := b) (by omega) vb
  have p2 := mul_bd2 (x := a / b + 1) (y := b) (by omega) vb
  clear htab hv hvn va
  have f := f4 hb
  clear f3 f4
  generalize (-a) / b = KK at *
  generalize a / b = FL at *
  generalize -a = AN at *
  obtain ⟨P, hP⟩ : ∃ P, FL * b = P := ⟨_, rfl⟩
  obtain ⟨Q, hQ⟩ : ∃ Q, (FL + 1) * b = Q := ⟨_, rfl⟩
  rw [hP] at f1 p1
  rw [hQ] at f2 p2
  have t1 : decide (FL < -1073741824) = false := decide_eq_false (by omega)
  have t2 : decide (1073741824 < FL) = false := decide_eq_false (by omega)
  have t3 : decide (P ≤ a) = true := decide_eq_true f1
  have t4 : decide (a < Q) = true := decide_eq_true f2
  clear f1 f2
  have m1 : (b == 1) = false := beq_eq_false_iff_ne.2 hb
  have m2 : (-KK == FL) = false := beq_eq_false_iff_ne.2 (by omega)
  have m3 : (FL + 1 == FL) = false := beq_eq_false_iff_ne.2 (by omega)
  clear hb
  have HE0 : Hid (Ext w (w.alloc (.cells #[.int .i64 a, .int .i64 b] 24))) := (Upd.refl _ w).alloc _
  have hbA := alloc0 w (.cells #[.int .i64 a, .int .i64 b] 24)
  have HX : Hid (∀ W, Ext (w.alloc (.cells #[.int .i64 a, .int .i64 b] 24)) W → (W.cell? ⟨w.heap.size, 0, none⟩ = some (.int .i64 a) ∧ W.cell? ⟨w.heap.size, 1, none⟩ = some (.int .i64 b))) := fun W hW =>
    ⟨cellRow (hW.heap hbA (fun h => h)) 0 _ rfl, cellRow (hW.heap hbA (fun h => h)) 1 _ rfl⟩
  clear hbA
  have E0 : Hid (Ext (w.alloc (.cells #[.int .i64 a, .int .i64 b] 24)) (w.alloc (.cells #[.int .i64 a, .int .i64 b] 24))) := Upd.refl _ _
  obtain ⟨k0, k1⟩ := HX.out _ E0.out
  go_enter Tryd.func4, Tryd.ntmps4
  go_wp2_with fail
  refine (CA.out).mono ?_
  rintro e w1 ⟨rfl, h1⟩
  have E1 := Lib.hid (E0.out.ext h1)
  clear h1 k0 k1
  obtain ⟨k0, k1⟩ := HX.out _ E1.out
  go_wp2_with fail
  refine (C16.out _).mono ?_
  rintro e w2 ⟨rfl, h2⟩
  have E2 := Lib.hid (E1.out.ext h2)
  clear h2 k0 k1
  obtain ⟨k0, k1⟩ := HX.out _ E2.out
  go_wp2_with fail
  refine (C17.out _).mono ?_
  rintro e w3 ⟨rfl, h3⟩
  have E3 := Lib.hid (E2.out.ext h3)
  clear h3 k0 k1
  obtain ⟨k0, k1⟩ := HX.out _ E3.out
  go_wp2_with fail
  refine (C18.out _).mono ?_
  rintro e w4 ⟨rfl, h4⟩
  have E4 := Lib.hid (E3.out.ext h4)
  clear h4 k0 k1
  obtain ⟨k0, k1⟩ := HX.out _ E4.out
  go_wp2_with fail
  refine (C19.out _).mono ?_
  rintro e w5 ⟨rfl, h5⟩
  have E5 := Lib.hid (E4.out.ext h5)
  clear h5 k0 k1
  obtain ⟨k0, k1⟩ := HX.out _ E5.out
  go_wp2_with fail
  refine (D17.out _).mono ?_
  rintro e w6 ⟨rfl, h6⟩
  have E6 := Lib.hid (E5.out.ext h6)
  clear h6 k0 k1
  obtain ⟨k0, k1⟩ := HX.out _ E6.out
  go_wp2_with fail
  go_ret
  exact ⟨rfl, HE0.out.ext E6.out⟩

theorem rounds_law (a b : Int) (w : World) (ha0 : -9223372036854775808 ≤ a) (ha1 : a ≤ 9223372036854775807) (hb0 : -9223372036854775808 ≤ b) (hb1 : b ≤ 9223372036854775807) (htab : Lib.TabIs Tryd.prog w "internal/strconv.uint64pow10" .u64 Lib.pow10Tab) : Calls Tryd.prog 4 #[.agg #[.int .i64 a, .int .i64 b]] w fun e w' => e = .returned (.bool true) ∧ Ext w w' := by
  cases h1 : vfB a b
  · exact rounds1 a b w ha0 ha1 hb0 hb1 htab h1
  · by_cases hb : b = 1
    · exact rounds2 a b w ha0 ha1 hb0 hb1 htab h1 hb
    · exact rounds3 a b w ha0 ha1 hb0 hb1 htab h1 hb

end Go.Proofs.YtlipjgpfhmkdhaaDoor
