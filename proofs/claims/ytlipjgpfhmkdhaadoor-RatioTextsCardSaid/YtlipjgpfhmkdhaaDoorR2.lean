/- ratio.Valid. -/
import Derived.Test.YtlipjgpfhmkdhaaDoorR1
import Derived.Test.YtlipjgpfhmkdhaaDoorP1
namespace Go.Proofs.YtlipjgpfhmkdhaaDoor
open Go.RowKit Go.Hw
set_option linter.unusedVariables false
set_option linter.unusedSimpArgs false

theorem size_x (n : Int) (w : World) (h0 : -9223372036854775808 ≤ n) (h1 : n ≤ 9223372036854775807) : Calls Tryd.prog 42 #[.int .i64 n] w fun e w' => e = .returned (.int .u64 n.natAbs) ∧ Ext w w' :=
  (size_any n w h0 h1).mono fun e w' ⟨h, h2⟩ => ⟨h, h2 ▸ Upd.refl _ _⟩
theorem gcd_x (a b : Nat) (w : World) (h0 : a ≤ 9223372036854775808) (h1 : b ≤ 9223372036854775808) : Calls Tryd.prog 43 #[.int .u64 a, .int .u64 b] w fun e w' => e = .returned (.int .u64 (Nat.gcd a b : Nat)) ∧ Ext w w' :=
  (gcd_any a b w h0 h1).mono fun e w' ⟨h, k, h2⟩ => ⟨h, h2 ▸ (Upd.refl _ _).drewN' k⟩

set_option maxRecDepth 100000 in
set_option maxHeartbeats 1000000 in
theorem val_1 (n d : Int) (w : World) (n0 : -9223372036854775808 ≤ n) (n1 : n ≤ 9223372036854775807) (d0 : -9223372036854775808 ≤ d) (d1 : d ≤ 9223372036854775807) (h : d < 1) : Calls Tryd.prog 15 #[.agg #[.int .i64 n, .int .i64 d]] w fun e w' => e = .returned (.bool false) ∧ Ext w w' := by
  have t1 : decide ((1 : Int) ≤ d) = false := decide_eq_false (by omega)
  have hE : Ext w (w.alloc (.cells #[.int .i64 n, .int .i64 d] 24)) := (Upd.refl _ w).alloc _
  have hX0 : ∀ x : XW (w.alloc (.cells #[.int .i64 n, .int .i64 d] 24)), x.val.cell? ⟨w.heap.size, 0, none⟩ = some (.int .i64 n) := fun x => cellRow (x.ext.heap (alloc0 w _) (fun h => h)) 0 _ rfl
  have hX1 : ∀ x : XW (w.alloc (.cells #[.int .i64 n, .int .i64 d] 24)), x.val.cell? ⟨w.heap.size, 1, none⟩ = some (.int .i64 d) := fun x => cellRow (x.ext.heap (alloc0 w _) (fun h => h)) 1 _ rfl
  have hrf : Ext (w.alloc (.cells #[.int .i64 n, .int .i64 d] 24)) (w.alloc (.cells #[.int .i64 n, .int .i64 d] 24)) := Upd.refl _ _
  have C42 := Lib.hid (fun (m : Int) (W : World) (h0 : -9223372036854775808 ≤ m) (h1 : m ≤ 9223372036854775807) => size_x m W h0 h1)
  have C43 := Lib.hid (fun (a b : Nat) (W : World) (h0 : a ≤ 9223372036854775808) (h1 : b ≤ 9223372036854775808) => gcd_x a b W h0 h1)
  have b1 : n.natAbs ≤ 9223372036854775808 := by omega
  have b2 : d.natAbs ≤ 9223372036854775808 := by omega
  go_enter Tryd.func15, Tryd.ntmps15
  go_wp2_with fail
  generalize (w.alloc (.cells #[.int .i64 n, .int .i64 d] 24)) = wb at *
  refine wp_region_ext wb (by assumption) (by kernel_rfl) (by kernel_rfl) ?_
  repeat (first | go_big_quiet_skip | (go_big_quiet_want; go_big_quiet_op; first | go_big_quiet_on | (apply Exists.intro; refine ⟨fun x => ?_, ?_⟩; (first | (go_at_call 42; exact XW.call (C42.out _ _ (by assumption) (by assumption))) | (go_at_call 43; exact XW.call (C43.out _ _ _ (by assumption) (by assumption)))); go_big_quiet_on)))
  refine wpQuiet_nil ?_
  rintro w4 ⟨⟨_, hyw4⟩, rfl⟩
  try dsimp only
  go_wp2_with fail
  go_ret
  exact ⟨rfl, hE.ext hyw4⟩

set_option maxRecDepth 100000 in
set_option maxHeartbeats 1000000 in
theorem val_2 (n d : Int) (w : World) (n0 : -9223372036854775808 ≤ n) (n1 : n ≤ 9223372036854775807) (d0 : -9223372036854775808 ≤ d) (d1 : d ≤ 9223372036854775807) (h1 : 1 ≤ d) (h : 1073741824 < d) : Calls Tryd.prog 15 #[.agg #[.int .i64 n, .int .i64 d]] w fun e w' => e = .returned (.bool false) ∧ Ext w w' := by
  have t1 : decide ((1 : Int) ≤ d) = true := decide_eq_true (by omega)
  have t2 : decide (d ≤ 1073741824) = false := decide_eq_false (by omega)
  have hE : Ext w (w.alloc (.cells #[.int .i64 n, .int .i64 d] 24)) := (Upd.refl _ w).alloc _
  have hX0 : ∀ x : XW (w.alloc (.cells #[.int .i64 n, .int .i64 d] 24)), x.val.cell? ⟨w.heap.size, 0, none⟩ = some (.int .i64 n) := fun x => cellRow (x.ext.heap (alloc0 w _) (fun h => h)) 0 _ rfl
  have hX1 : ∀ x : XW (w.alloc (.cells #[.int .i64 n, .int .i64 d] 24)), x.val.cell? ⟨w.heap.size, 1, none⟩ = some (.int .i64 d) := fun x => cellRow (x.ext.heap (alloc0 w _) (fun h => h)) 1 _ rfl
  have hrf : Ext (w.alloc (.cells #[.int .i64 n, .int .i64 d] 24)) (w.alloc (.cells #[.int .i64 n, .int .i64 d] 24)) := Upd.refl _ _
  have C42 := Lib.hid (fun (m : Int) (W : World) (h0 : -9223372036854775808 ≤ m) (h1 : m ≤ 9223372036854775807) => size_x m W h0 h1)
  have C43 := Lib.hid (fun (a b : Nat) (W : World) (h0 : a ≤ 9223372036854775808) (h1 : b ≤ 9223372036854775808) => gcd_x a b W h0 h1)
  have b1 : n.natAbs ≤ 9223372036854775808 := by omega
  have b2 : d.natAbs ≤ 9223372036854775808 := by omega
  go_enter Tryd.func15, Tryd.ntmps15
  go_wp2_with fail
  generalize (w.alloc (.cells #[.int .i64 n, .int .i64 d] 24)) = wb at *
  refine wp_region_ext wb (by assumption) (by kernel_rfl) (by kernel_rfl) ?_
  repeat (first | go_big_quiet_skip | (go_big_quiet_want; go_big_quiet_op; first | go_big_quiet_on | (apply Exists.intro; refine ⟨fun x => ?_, ?_⟩; (first | (go_at_call 42; exact XW.call (C42.out _ _ (by assumption) (by assumption))) | (go_at_call 43; exact XW.call (C43.out _ _ _ (by assumption) (by assumption)))); go_big_quiet_on)))
  refine wpQuiet_nil ?_
  rintro w4 ⟨⟨_, hyw4⟩, rfl⟩
  try dsimp only
  go_wp2_with fail
  go_ret
  exact ⟨rfl, hE.ext hyw4⟩

set_option maxRecDepth 100000 in
set_option maxHeartbeats 1000000 in
theorem val_3 (n d : Int) (w : World) (n0 : -9223372036854775808 ≤ n) (n1 : n ≤ 9223372036854775807) (d0 : -9223372036854775808 ≤ d) (d1 : d ≤ 9223372036854775807) (h1 : 1 ≤ d) (h2 : d ≤ 1073741824) (h : n < -1073741824) : Calls Tryd.prog 15 #[.agg #[.int .i64 n, .int .i64 d]] w fun e w' => e = .returned (.bool false) ∧ Ext w w' := by
  have t1 : decide ((1 : Int) ≤ d) = true := decide_eq_true (by omega)
  have t2 : decide (d ≤ 1073741824) = true := decide_eq_true (by omega)
  have t3 : decide (-1073741824 ≤ n) = false := decide_eq_false (by omega)
  have hE : Ext w (w.alloc (.cells #[.int .i64 n, .int .i64 d] 24)) := (Upd.refl _ w).alloc _
  have hX0 : ∀ x : XW (w.alloc (.cells #[.int .i64 n, .int .i64 d] 24)), x.val.cell? ⟨w.heap.size, 0, none⟩ = some (.int .i64 n) := fun x => cellRow (x.ext.heap (alloc0 w _) (fun h => h)) 0 _ rfl
  have hX1 : ∀ x : XW (w.alloc (.cells #[.int .i64 n, .int .i64 d] 24)), x.val.cell? ⟨w.heap.size, 1, none⟩ = some (.int .i64 d) := fun x => cellRow (x.ext.heap (alloc0 w _) (fun h => h)) 1 _ rfl
  have hrf : Ext (w.alloc (.cells #[.int .i64 n, .int .i64 d] 24)) (w.alloc (.cells #[.int .i64 n, .int .i64 d] 24)) := Upd.refl _ _
  have C42 := Lib.hid (fun (m : Int) (W : World) (h0 : -9223372036854775808 ≤ m) (h1 : m ≤ 9223372036854775807) => size_x m W h0 h1)
  have C43 := Lib.hid (fun (a b : Nat) (W : World) (h0 : a ≤ 9223372036854775808) (h1 : b ≤ 9223372036854775808) => gcd_x a b W h0 h1)
  have b1 : n.natAbs ≤ 9223372036854775808 := by omega
  have b2 : d.natAbs ≤ 9223372036854775808 := by omega
  go_enter Tryd.func15, Tryd.ntmps15
  go_wp2_with fail
  generalize (w.alloc (.cells #[.int .i64 n, .int .i64 d] 24)) = wb at *
  refine wp_region_ext wb (by assumption) (by kernel_rfl) (by kernel_rfl) ?_
  repeat (first | go_big_quiet_skip | (go_big_quiet_want; go_big_quiet_op; first | go_big_quiet_on | (apply Exists.intro; refine ⟨fun x => ?_, ?_⟩; (first | (go_at_call 42; exact XW.call (C42.out _ _ (by assumption) (by assumption))) | (go_at_call 43; exact XW.call (C43.out _ _ _ (by assumption) (by assumption)))); go_big_quiet_on)))
  refine wpQuiet_nil ?_
  rintro w4 ⟨⟨_, hyw4⟩, rfl⟩
  try dsimp only
  go_wp2_with fail
  go_ret
  exact ⟨rfl, hE.ext hyw4⟩

set_option maxRecDepth 100000 in
set_option maxHeartbeats 1000000 in
theorem val_4 (n d : Int) (w : World) (n0 : -9223372036854775808 ≤ n) (n1 : n ≤ 9223372036854775807) (d0 : -9223372036854775808 ≤ d) (d1 : d ≤ 9223372036854775807) (h1 : 1 ≤ d) (h2 : d ≤ 1073741824) (h3 : -1073741824 ≤ n) (h : 1073741824 < n) : Calls Tryd.prog 15 #[.agg #[.int .i64 n, .int .i64 d]] w fun e w' => e = .returned (.bool false) ∧ Ext w w' := by
  have t1 : decide ((1 : Int) ≤ d) = true := decide_eq_true (by omega)
  have t2 : decide (d ≤ 1073741824) = true := decide_eq_true (by omega)
  have t3 : decide (-1073741824 ≤ n) = true := decide_eq_true (by omega)
  have t4 : decide (n ≤ 1073741824) = false := decide_eq_false (by omega)
  have hE : Ext w (w.alloc (.cells #[.int .i64 n, .int .i64 d] 24)) := (Upd.refl _ w).alloc _
  have hX0 : ∀ x : XW (w.alloc (.cells #[.int .i64 n, .int .i64 d] 24)), x.val.cell? ⟨w.heap.size, 0, none⟩ = some (.int .i64 n) := fun x => cellRow (x.ext.heap (alloc0 w _) (fun h => h)) 0 _ rfl
  have hX1 : ∀ x : XW (w.alloc (.cells #[.int .i64 n, .int .i64 d] 24)), x.val.cell? ⟨w.heap.size, 1, none⟩ = some (.int .i64 d) := fun x => cellRow (x.ext.heap (alloc0 w _) (fun h => h)) 1 _ rfl
  have hrf : Ext (w.alloc (.cells #[.int .i64 n, .int .i64 d] 24)) (w.alloc (.cells #[.int .i64 n, .int .i64 d] 24)) := Upd.refl _ _
  have C42 := Lib.hid (fun (m : Int) (W : World) (h0 : -9223372036854775808 ≤ m) (h1 : m ≤ 9223372036854775807) => size_x m W h0 h1)
  have C43 := Lib.hid (fun (a b : Nat) (W : World) (h0 : a ≤ 9223372036854775808) (h1 : b ≤ 9223372036854775808) => gcd_x a b W h0 h1)
  have b1 : n.natAbs ≤ 9223372036854775808 := by omega
  have b2 : d.natAbs ≤ 9223372036854775808 := by omega
  go_enter Tryd.func15, Tryd.ntmps15
  go_wp2_with fail
  generalize (w.alloc (.cells #[.int .i64 n, .int .i64 d] 24)) = wb at *
  refine wp_region_ext wb (by assumption) (by kernel_rfl) (by kernel_rfl) ?_
  repeat (first | go_big_quiet_skip | (go_big_quiet_want; go_big_quiet_op; first | go_big_quiet_on | (apply Exists.intro; refine ⟨fun x => ?_, ?_⟩; (first | (go_at_call 42; exact XW.call (C42.out _ _ (by assumption) (by assumption))) | (go_at_call 43; exact XW.call (C43.out _ _ _ (by assumption) (by assumption)))); go_big_quiet_on)))
  refine wpQuiet_nil ?_
  rintro w4 ⟨⟨_, hyw4⟩, rfl⟩
  try dsimp only
  go_wp2_with fail
  go_ret
  exact ⟨rfl, hE.ext hyw4⟩

set_option maxRecDepth 100000 in
set_option maxHeartbeats 1000000 in
theorem val_5 (n d : Int) (w : World) (n0 : -9223372036854775808 ≤ n) (n1 : n ≤ 9223372036854775807) (d0 : -9223372036854775808 ≤ d) (d1 : d ≤ 9223372036854775807) (h1 : 1 ≤ d) (h2 : d ≤ 1073741824) (h3 : -1073741824 ≤ n) (h : n ≤ 1073741824) : Calls Tryd.prog 15 #[.agg #[.int .i64 n, .int .i64 d]] w fun e w' => e = .returned (.bool (((Nat.gcd n.natAbs d.natAbs : Nat) : Int) == 1)) ∧ Ext w w' := by
  have t1 : decide ((1 : Int) ≤ d) = true := decide_eq_true (by omega)
  have t2 : decide (d ≤ 1073741824) = true := decide_eq_true (by omega)
  have t3 : decide (-1073741824 ≤ n) = true := decide_eq_true (by omega)
  have t4 : decide (n ≤ 1073741824) = true := decide_eq_true (by omega)
  have hE : Ext w (w.alloc (.cells #[.int .i64 n, .int .i64 d] 24)) := (Upd.refl _ w).alloc _
  have hX0 : ∀ x : XW (w.alloc (.cells #[.int .i64 n, .int .i64 d] 24)), x.val.cell? ⟨w.heap.size, 0, none⟩ = some (.int .i64 n) := fun x => cellRow (x.ext.heap (alloc0 w _) (fun h => h)) 0 _ rfl
  have hX1 : ∀ x : XW (w.alloc (.cells #[.int .i64 n, .int .i64 d] 24)), x.val.cell? ⟨w.heap.size, 1, none⟩ = some (.int .i64 d) := fun x => cellRow (x.ext.heap (alloc0 w _) (fun h => h)) 1 _ rfl
  have hrf : Ext (w.alloc (.cells #[.int .i64 n, .int .i64 d] 24)) (w.alloc (.cells #[.int .i64 n, .int .i64 d] 24)) := Upd.refl _ _
  have C42 := Lib.hid (fun (m : Int) (W : World) (h0 : -9223372036854775808 ≤ m) (h1 : m ≤ 9223372036854775807) => size_x m W h0 h1)
  have C43 := Lib.hid (fun (a b : Nat) (W : World) (h0 : a ≤ 9223372036854775808) (h1 : b ≤ 9223372036854775808) => gcd_x a b W h0 h1)
  have b1 : n.natAbs ≤ 9223372036854775808 := by omega
  have b2 : d.natAbs ≤ 9223372036854775808 := by omega
  go_enter Tryd.func15, Tryd.ntmps15
  go_wp2_with fail
  generalize (w.alloc (.cells #[.int .i64 n, .int .i64 d] 24)) = wb at *
  refine wp_region_ext wb (by assumption) (by kernel_rfl) (by kernel_rfl) ?_
  repeat (first | go_big_quiet_skip | (go_big_quiet_want; go_big_quiet_op; first | go_big_quiet_on | (apply Exists.intro; refine ⟨fun x => ?_, ?_⟩; (first | (go_at_call 42; exact XW.call (C42.out _ _ (by assumption) (by assumption))) | (go_at_call 43; exact XW.call (C43.out _ _ _ (by assumption) (by assumption)))); go_big_quiet_on)))
  refine wpQuiet_nil ?_
  rintro w4 ⟨⟨_, hyw4⟩, rfl⟩
  try dsimp only
  go_wp2_with fail
  go_ret
  exact ⟨rfl, hE.ext hyw4⟩

theorem valid_x (n d : Int) (w : World) (n0 : -9223372036854775808 ≤ n) (n1 : n ≤ 9223372036854775807) (d0 : -9223372036854775808 ≤ d) (d1 : d ≤ 9223372036854775807) : Calls Tryd.prog 15 #[.agg #[.int .i64 n, .int .i64 d]] w fun e w' => e = .returned (.bool (vfB n d)) ∧ Ext w w' := by
  by_cases h1 : 1 ≤ d
  · by_cases h2 : d ≤ 1073741824
    · by_cases h3 : -1073741824 ≤ n
      · by_cases h4 : n ≤ 1073741824
        · have e : vfB n d = (((Nat.gcd n.natAbs d.natAbs : Nat) : Int) == 1) := by
            unfold vfB
            rw [decide_eq_true ⟨h1, h2, h3, h4⟩, Bool.true_and, Bool.eq_iff_iff, decide_eq_true_eq, beq_iff_eq]
            omega
          rw [e]; exact val_5 n d w n0 n1 d0 d1 h1 h2 h3 h4
        · rw [show vfB n d = false by unfold vfB; rw [decide_eq_false (by omega), Bool.false_and]]
          exact val_4 n d w n0 n1 d0 d1 h1 h2 h3 (by omega)
      · rw [show vfB n d = false by unfold vfB; rw [decide_eq_false (by omega), Bool.false_and]]
        exact val_3 n d w n0 n1 d0 d1 h1 h2 (by omega)
    · rw [show vfB n d = false by unfold vfB; rw [decide_eq_false (by omega), Bool.false_and]]
      exact val_2 n d w n0 n1 d0 d1 h1 (by omega)
  · rw [show vfB n d = false by unfold vfB; rw [decide_eq_false (by omega), Bool.false_and]]
    exact val_1 n d w n0 n1 d0 d1 (by omega)

end Go.Proofs.YtlipjgpfhmkdhaaDoor
