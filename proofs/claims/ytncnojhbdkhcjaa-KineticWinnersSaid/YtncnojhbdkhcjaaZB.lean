/- The texts P1 R1 R2 R3 R4 R5 R6 R7, one behind the other. -/
import Derived.Below
import Derived.Test.YtncnojhbdkhcjaaRows
import Derived.Test.YtncnojhbdkhcjaaZA
import Derived.Deep.QuietTactic
import Derived.BigQuiet
/- Fractions in lowest terms. -/
namespace Go.Proofs.Ytncnojhbdkhcjaa
open Go
set_option linter.unusedVariables false
set_option linter.unusedSimpArgs false

/-! ### the fraction of two numbers -/
def gg (num den : Int) : Nat := Nat.gcd num.natAbs den.natAbs
def aN (num den : Int) : Nat := num.natAbs / gg num den
def aD (num den : Int) : Nat := den.natAbs / gg num den
def negB (num den : Int) : Bool := decide (num < 0) != decide (den < 0)
def qN (num den : Int) : Int := if negB num den then -(aN num den : Int) else aN num den
def bigB (num den : Int) : Bool := decide (1073741824 < aN num den) || decide (1073741824 < aD num den)
def mkE (num den : Int) : Int := if den = 0 then 18 else if bigB num den then 5 else 0
def mkN (num den : Int) : Int := if den = 0 then 0 else if bigB num den then 0 else qN num den
def mkD (num den : Int) : Int := if den = 0 then 0 else if bigB num den then 0 else aD num den
def vfB (n d : Int) : Bool := decide (1 ≤ d ∧ d ≤ 1073741824 ∧ -1073741824 ≤ n ∧ n ≤ 1073741824) && decide (Nat.gcd n.natAbs d.natAbs = 1)
theorem gg_pos {num den : Int} (h : den ≠ 0) : 0 < gg num den := Nat.gcd_pos_of_pos_right _ (by omega)
theorem aN_mul (num den : Int) : aN num den * gg num den = num.natAbs := Nat.div_mul_cancel (Nat.gcd_dvd_left _ _)
theorem aD_mul (num den : Int) : aD num den * gg num den = den.natAbs := Nat.div_mul_cancel (Nat.gcd_dvd_right _ _)
theorem aD_pos {num den : Int} (h : den ≠ 0) : 0 < aD num den := by
  have h1 := aD_mul num den
  rcases Nat.eq_zero_or_pos (aD num den) with h2 | h2
  · rw [h2, Nat.zero_mul] at h1; omega
  · exact h2
theorem aN_le (num den : Int) : aN num den ≤ num.natAbs := Nat.div_le_self _ _
theorem aD_le (num den : Int) : aD num den ≤ den.natAbs := Nat.div_le_self _ _
theorem cop {num den : Int} (h : den ≠ 0) : Nat.gcd (aN num den) (aD num den) = 1 := Nat.coprime_div_gcd_div_gcd (gg_pos h)
theorem qN_abs (num den : Int) : (qN num den).natAbs = aN num den := by unfold qN; split <;> omega
theorem cross (num den : Int) : qN num den * den = num * aD num den := by
  have h1 := aN_mul num den
  have h2 := aD_mul num den
  have e1 : num = (aN num den : Int) * gg num den ∨ num = -((aN num den : Int) * gg num den) := by
    have : ((aN num den * gg num den : Nat) : Int) = num.natAbs := by rw [h1]
    rw [Int.natCast_mul] at this; omega
  have e2 : den = (aD num den : Int) * gg num den ∨ den = -((aD num den : Int) * gg num den) := by
    have : ((aD num den * gg num den : Nat) : Int) = den.natAbs := by rw [h2]
    rw [Int.natCast_mul] at this; omega
  have ha : (0 : Int) ≤ (aN num den : Int) * gg num den := Int.mul_nonneg (by omega) (by omega)
  have hd : (0 : Int) ≤ (aD num den : Int) * gg num den := Int.mul_nonneg (by omega) (by omega)
  unfold qN negB
  clear h1 h2
  generalize (aN num den : Int) = a at *
  generalize (aD num den : Int) = b at *
  generalize (gg num den : Int) = g at *
  by_cases hn : num < 0
  · by_cases hd : den < 0
    · have e1 : num = -(a * g) := by omega
      have e2 : den = -(b * g) := by omega
      simp only [hn, hd, decide_true, bne_self_eq_false, Bool.false_eq_true, if_false]
      rw [e1, e2]; grind
    · have e1 : num = -(a * g) := by omega
      have e2 : den = b * g := by omega
      simp only [hn, hd, decide_true, decide_false, Bool.true_bne, Bool.not_false, if_true]
      rw [e1, e2]; grind
  · by_cases hd : den < 0
    · have e1 : num = a * g := by omega
      have e2 : den = -(b * g) := by omega
      simp only [hn, hd, decide_true, decide_false, Bool.false_bne, if_true]
      rw [e1, e2]; grind
    · have e1 : num = a * g := by omega
      have e2 : den = b * g := by omega
      simp only [hn, hd, decide_false, bne_self_eq_false, Bool.false_eq_true, if_false]
      rw [e1, e2]; grind
theorem vfB_iff (n d : Int) : vfB n d = true ↔ (1 ≤ d ∧ d ≤ 1073741824 ∧ -1073741824 ≤ n ∧ n ≤ 1073741824) ∧ Nat.gcd n.natAbs d.natAbs = 1 := by
  unfold vfB
  simp only [Bool.and_eq_true, decide_eq_true_eq]

end Go.Proofs.Ytncnojhbdkhcjaa

/- Sizes and divisors. -/
namespace Go.Proofs.Ytncnojhbdkhcjaa
open Go.RowKit Go.Hw
set_option linter.unusedVariables false
set_option linter.unusedSimpArgs false

theorem wrap_u64' (n : Int) : IntKind.u64.wrap n = n % 18446744073709551616 := by simp [IntKind.wrap, IntKind.bits, IntKind.signed]
set_option maxRecDepth 100000 in
set_option maxHeartbeats 400000 in
theorem size_any (n : Int) (w : World) (h0 : -9223372036854775808 ≤ n) (h1 : n ≤ 9223372036854775807) : Calls Try.prog 67 #[.int .i64 n] w fun e w' => e = .returned (.int .u64 n.natAbs) ∧ w = w' := by
  by_cases hn : n < 0
  · have t1 : decide (n < 0) = true := decide_eq_true hn
    have e1 : IntKind.u64.wrap n = n + 18446744073709551616 := by rw [wrap_u64']; omega
    have e2 : IntKind.u64.wrap (-(n + 18446744073709551616)) = (n.natAbs : Int) := by rw [wrap_u64']; omega
    go_enter Try.func67, Try.ntmps67
    go_wp2_with fail
    go_ret
    exact ⟨rfl, rfl⟩
  · have t1 : decide (n < 0) = false := decide_eq_false hn
    have e1 : IntKind.u64.wrap n = (n.natAbs : Int) := by rw [wrap_u64']; omega
    go_enter Try.func67, Try.ntmps67
    go_wp2_with fail
    go_ret
    exact ⟨rfl, rfl⟩
set_option maxRecDepth 100000 in
set_option maxHeartbeats 400000 in
theorem gcd_any (a b : Nat) (w : World) (h0 : a ≤ 9223372036854775808) (h1 : b ≤ 9223372036854775808) : Calls Try.prog 68 #[.int .u64 a, .int .u64 b] w fun e w' => e = .returned (.int .u64 (Nat.gcd a b : Nat)) ∧ ∃ k, w' = w.drewN k := by
  obtain ⟨G, hG⟩ : ∃ G, G = Nat.gcd a b := ⟨_, rfl⟩
  rw [← hG]
  have HG := Lib.hid hG
  clear hG
  go_enter Try.func68, Try.ntmps68
  go_wp2_with fail
  go_loopg [0, 1] b (fun gk av bv wr => ∃ x y k : Nat, av = .int .u64 x ∧ bv = .int .u64 y ∧ y = gk ∧ x ≤ 9223372036854775808 ∧ y ≤ 9223372036854775808 ∧ wr = w.drewN k ∧ Hid (G = Nat.gcd x y))
  case atStart => exact ⟨a, b, 0, rfl, rfl, rfl, h0, h1, rfl, HG.out⟩
  case round =>
    obtain ⟨x, y, k, rfl, rfl, rfl, hx, hy, rfl, Hg⟩ := hrel
    by_cases h : y = 0
    · subst h
      have hg : G = x := by rw [Hg.out]; exact Nat.gcd_zero_right x
      subst hg
      clear Hg
      go_wp2_with fail
      go_ret
      exact ⟨rfl, k, rfl⟩
    · have t1 : ((y : Int) != 0) = true := by simp; omega
      have t2 : ¬ ((y : Int) = 0) := by omega
      have t3 : ((y : Int) == 0) = false := beq_eq_false_iff_ne.2 t2
      have m1 : (x : Int) % (y : Int) = ((x % y : Nat) : Int) := by simp
      have m2 : Int.tmod (x : Int) (y : Int) = ((x % y : Nat) : Int) := by rw [Int.tmod_eq_emod_of_nonneg (by omega)]; exact m1
      have hlt := Nat.mod_lt x (show 0 < y by omega)
      have hg2 : G = Nat.gcd y (x % y) := by rw [Hg.out, Nat.gcd_comm x y, Nat.gcd_rec y x, Nat.gcd_comm]
      have HG2 := Lib.hid hg2
      clear hg2 Hg HG
      generalize x % y = z at *
      have m3 : IntKind.u64.wrap (z : Int) = (z : Int) := by rw [wrap_u64']; omega
      go_wp2_with fail
      go_quiet (fail)
      go_wp2_with fail
      go_roundg z
      case measure => exact hlt
      case rel => exact ⟨y, z, _, rfl, rfl, rfl, hy, by omega, World.drewN_drewN _ _ _, HG2.out⟩

end Go.Proofs.Ytncnojhbdkhcjaa

/- ratio.Valid. -/
namespace Go.Proofs.Ytncnojhbdkhcjaa
open Go.RowKit Go.Hw
set_option linter.unusedVariables false
set_option linter.unusedSimpArgs false

theorem size_x (n : Int) (w : World) (h0 : -9223372036854775808 ≤ n) (h1 : n ≤ 9223372036854775807) : Calls Try.prog 67 #[.int .i64 n] w fun e w' => e = .returned (.int .u64 n.natAbs) ∧ Ext w w' :=
  (size_any n w h0 h1).mono fun e w' ⟨h, h2⟩ => ⟨h, h2 ▸ Upd.refl _ _⟩
theorem gcd_x (a b : Nat) (w : World) (h0 : a ≤ 9223372036854775808) (h1 : b ≤ 9223372036854775808) : Calls Try.prog 68 #[.int .u64 a, .int .u64 b] w fun e w' => e = .returned (.int .u64 (Nat.gcd a b : Nat)) ∧ Ext w w' :=
  (gcd_any a b w h0 h1).mono fun e w' ⟨h, k, h2⟩ => ⟨h, h2 ▸ (Upd.refl _ _).drewN' k⟩

set_option maxRecDepth 100000 in
set_option maxHeartbeats 1000000 in
theorem val_1 (n d : Int) (w : World) (n0 : -9223372036854775808 ≤ n) (n1 : n ≤ 9223372036854775807) (d0 : -9223372036854775808 ≤ d) (d1 : d ≤ 9223372036854775807) (h : d < 1) : Calls Try.prog 66 #[.agg #[.int .i64 n, .int .i64 d]] w fun e w' => e = .returned (.bool false) ∧ Ext w w' := by
  have t1 : decide ((1 : Int) ≤ d) = false := decide_eq_false (by omega)
  have hE : Ext w (w.alloc (.cells #[.int .i64 n, .int .i64 d] 25)) := (Upd.refl _ w).alloc _
  have hX0 : ∀ x : XW (w.alloc (.cells #[.int .i64 n, .int .i64 d] 25)), x.val.cell? ⟨w.heap.size, 0, none⟩ = some (.int .i64 n) := fun x => cellRow (x.ext.heap (alloc0 w _) (fun h => h)) 0 _ rfl
  have hX1 : ∀ x : XW (w.alloc (.cells #[.int .i64 n, .int .i64 d] 25)), x.val.cell? ⟨w.heap.size, 1, none⟩ = some (.int .i64 d) := fun x => cellRow (x.ext.heap (alloc0 w _) (fun h => h)) 1 _ rfl
  have hrf : Ext (w.alloc (.cells #[.int .i64 n, .int .i64 d] 25)) (w.alloc (.cells #[.int .i64 n, .int .i64 d] 25)) := Upd.refl _ _
  have C42 := Lib.hid (fun (m : Int) (W : World) (h0 : -9223372036854775808 ≤ m) (h1 : m ≤ 9223372036854775807) => size_x m W h0 h1)
  have C43 := Lib.hid (fun (a b : Nat) (W : World) (h0 : a ≤ 9223372036854775808) (h1 : b ≤ 9223372036854775808) => gcd_x a b W h0 h1)
  have b1 : n.natAbs ≤ 9223372036854775808 := by omega
  have b2 : d.natAbs ≤ 9223372036854775808 := by omega
  go_enter Try.func66, Try.ntmps66
  go_wp2_with fail
  generalize (w.alloc (.cells #[.int .i64 n, .int .i64 d] 25)) = wb at *
  refine wp_region_ext wb (by assumption) (by kernel_rfl) (by kernel_rfl) ?_
  repeat (first | go_big_quiet_skip | (go_big_quiet_want; go_big_quiet_op; first | go_big_quiet_on | (apply Exists.intro; refine ⟨fun x => ?_, ?_⟩; (first | (go_at_call 67; exact XW.call (C42.out _ _ (by assumption) (by assumption))) | (go_at_call 68; exact XW.call (C43.out _ _ _ (by assumption) (by assumption)))); go_big_quiet_on)))
  refine wpQuiet_nil ?_
  rintro w4 ⟨⟨_, hyw4⟩, rfl⟩
  try dsimp only
  go_wp2_with fail
  go_ret
  exact ⟨rfl, hE.ext hyw4⟩

set_option maxRecDepth 100000 in
set_option maxHeartbeats 1000000 in
theorem val_2 (n d : Int) (w : World) (n0 : -9223372036854775808 ≤ n) (n1 : n ≤ 9223372036854775807) (d0 : -9223372036854775808 ≤ d) (d1 : d ≤ 9223372036854775807) (h1 : 1 ≤ d) (h : 1073741824 < d) : Calls Try.prog 66 #[.agg #[.int .i64 n, .int .i64 d]] w fun e w' => e = .returned (.bool false) ∧ Ext w w' := by
  have t1 : decide ((1 : Int) ≤ d) = true := decide_eq_true (by omega)
  have t2 : decide (d ≤ 1073741824) = false := decide_eq_false (by omega)
  have hE : Ext w (w.alloc (.cells #[.int .i64 n, .int .i64 d] 25)) := (Upd.refl _ w).alloc _
  have hX0 : ∀ x : XW (w.alloc (.cells #[.int .i64 n, .int .i64 d] 25)), x.val.cell? ⟨w.heap.size, 0, none⟩ = some (.int .i64 n) := fun x => cellRow (x.ext.heap (alloc0 w _) (fun h => h)) 0 _ rfl
  have hX1 : ∀ x : XW (w.alloc (.cells #[.int .i64 n, .int .i64 d] 25)), x.val.cell? ⟨w.heap.size, 1, none⟩ = some (.int .i64 d) := fun x => cellRow (x.ext.heap (alloc0 w _) (fun h => h)) 1 _ rfl
  have hrf : Ext (w.alloc (.cells #[.int .i64 n, .int .i64 d] 25)) (w.alloc (.cells #[.int .i64 n, .int .i64 d] 25)) := Upd.refl _ _
  have C42 := Lib.hid (fun (m : Int) (W : World) (h0 : -9223372036854775808 ≤ m) (h1 : m ≤ 9223372036854775807) => size_x m W h0 h1)
  have C43 := Lib.hid (fun (a b : Nat) (W : World) (h0 : a ≤ 9223372036854775808) (h1 : b ≤ 9223372036854775808) => gcd_x a b W h0 h1)
  have b1 : n.natAbs ≤ 9223372036854775808 := by omega
  have b2 : d.natAbs ≤ 9223372036854775808 := by omega
  go_enter Try.func66, Try.ntmps66
  go_wp2_with fail
  generalize (w.alloc (.cells #[.int .i64 n, .int .i64 d] 25)) = wb at *
  refine wp_region_ext wb (by assumption) (by kernel_rfl) (by kernel_rfl) ?_
  repeat (first | go_big_quiet_skip | (go_big_quiet_want; go_big_quiet_op; first | go_big_quiet_on | (apply Exists.intro; refine ⟨fun x => ?_, ?_⟩; (first | (go_at_call 67; exact XW.call (C42.out _ _ (by assumption) (by assumption))) | (go_at_call 68; exact XW.call (C43.out _ _ _ (by assumption) (by assumption)))); go_big_quiet_on)))
  refine wpQuiet_nil ?_
  rintro w4 ⟨⟨_, hyw4⟩, rfl⟩
  try dsimp only
  go_wp2_with fail
  go_ret
  exact ⟨rfl, hE.ext hyw4⟩

set_option maxRecDepth 100000 in
set_option maxHeartbeats 1000000 in
theorem val_3 (n d : Int) (w : World) (n0 : -9223372036854775808 ≤ n) (n1 : n ≤ 9223372036854775807) (d0 : -9223372036854775808 ≤ d) (d1 : d ≤ 9223372036854775807) (h1 : 1 ≤ d) (h2 : d ≤ 1073741824) (h : n < -1073741824) : Calls Try.prog 66 #[.agg #[.int .i64 n, .int .i64 d]] w fun e w' => e = .returned (.bool false) ∧ Ext w w' := by
  have t1 : decide ((1 : Int) ≤ d) = true := decide_eq_true (by omega)
  have t2 : decide (d ≤ 1073741824) = true := decide_eq_true (by omega)
  have t3 : decide (-1073741824 ≤ n) = false := decide_eq_false (by omega)
  have hE : Ext w (w.alloc (.cells #[.int .i64 n, .int .i64 d] 25)) := (Upd.refl _ w).alloc _
  have hX0 : ∀ x : XW (w.alloc (.cells #[.int .i64 n, .int .i64 d] 25)), x.val.cell? ⟨w.heap.size, 0, none⟩ = some (.int .i64 n) := fun x => cellRow (x.ext.heap (alloc0 w _) (fun h => h)) 0 _ rfl
  have hX1 : ∀ x : XW (w.alloc (.cells #[.int .i64 n, .int .i64 d] 25)), x.val.cell? ⟨w.heap.size, 1, none⟩ = some (.int .i64 d) := fun x => cellRow (x.ext.heap (alloc0 w _) (fun h => h)) 1 _ rfl
  have hrf : Ext (w.alloc (.cells #[.int .i64 n, .int .i64 d] 25)) (w.alloc (.cells #[.int .i64 n, .int .i64 d] 25)) := Upd.refl _ _
  have C42 := Lib.hid (fun (m : Int) (W : World) (h0 : -9223372036854775808 ≤ m) (h1 : m ≤ 9223372036854775807) => size_x m W h0 h1)
  have C43 := Lib.hid (fun (a b : Nat) (W : World) (h0 : a ≤ 9223372036854775808) (h1 : b ≤ 9223372036854775808) => gcd_x a b W h0 h1)
  have b1 : n.natAbs ≤ 9223372036854775808 := by omega
  have b2 : d.natAbs ≤ 9223372036854775808 := by omega
  go_enter Try.func66, Try.ntmps66
  go_wp2_with fail
  generalize (w.alloc (.cells #[.int .i64 n, .int .i64 d] 25)) = wb at *
  refine wp_region_ext wb (by assumption) (by kernel_rfl) (by kernel_rfl) ?_
  repeat (first | go_big_quiet_skip | (go_big_quiet_want; go_big_quiet_op; first | go_big_quiet_on | (apply Exists.intro; refine ⟨fun x => ?_, ?_⟩; (first | (go_at_call 67; exact XW.call (C42.out _ _ (by assumption) (by assumption))) | (go_at_call 68; exact XW.call (C43.out _ _ _ (by assumption) (by assumption)))); go_big_quiet_on)))
  refine wpQuiet_nil ?_
  rintro w4 ⟨⟨_, hyw4⟩, rfl⟩
  try dsimp only
  go_wp2_with fail
  go_ret
  exact ⟨rfl, hE.ext hyw4⟩

set_option maxRecDepth 100000 in
set_option maxHeartbeats 1000000 in
theorem val_4 (n d : Int) (w : World) (n0 : -9223372036854775808 ≤ n) (n1 : n ≤ 9223372036854775807) (d0 : -9223372036854775808 ≤ d) (d1 : d ≤ 9223372036854775807) (h1 : 1 ≤ d) (h2 : d ≤ 1073741824) (h3 : -1073741824 ≤ n) (h : 1073741824 < n) : Calls Try.prog 66 #[.agg #[.int .i64 n, .int .i64 d]] w fun e w' => e = .returned (.bool false) ∧ Ext w w' := by
  have t1 : decide ((1 : Int) ≤ d) = true := decide_eq_true (by omega)
  have t2 : decide (d ≤ 1073741824) = true := decide_eq_true (by omega)
  have t3 : decide (-1073741824 ≤ n) = true := decide_eq_true (by omega)
  have t4 : decide (n ≤ 1073741824) = false := decide_eq_false (by omega)
  have hE : Ext w (w.alloc (.cells #[.int .i64 n, .int .i64 d] 25)) := (Upd.refl _ w).alloc _
  have hX0 : ∀ x : XW (w.alloc (.cells #[.int .i64 n, .int .i64 d] 25)), x.val.cell? ⟨w.heap.size, 0, none⟩ = some (.int .i64 n) := fun x => cellRow (x.ext.heap (alloc0 w _) (fun h => h)) 0 _ rfl
  have hX1 : ∀ x : XW (w.alloc (.cells #[.int .i64 n, .int .i64 d] 25)), x.val.cell? ⟨w.heap.size, 1, none⟩ = some (.int .i64 d) := fun x => cellRow (x.ext.heap (alloc0 w _) (fun h => h)) 1 _ rfl
  have hrf : Ext (w.alloc (.cells #[.int .i64 n, .int .i64 d] 25)) (w.alloc (.cells #[.int .i64 n, .int .i64 d] 25)) := Upd.refl _ _
  have C42 := Lib.hid (fun (m : Int) (W : World) (h0 : -9223372036854775808 ≤ m) (h1 : m ≤ 9223372036854775807) => size_x m W h0 h1)
  have C43 := Lib.hid (fun (a b : Nat) (W : World) (h0 : a ≤ 9223372036854775808) (h1 : b ≤ 9223372036854775808) => gcd_x a b W h0 h1)
  have b1 : n.natAbs ≤ 9223372036854775808 := by omega
  have b2 : d.natAbs ≤ 9223372036854775808 := by omega
  go_enter Try.func66, Try.ntmps66
  go_wp2_with fail
  generalize (w.alloc (.cells #[.int .i64 n, .int .i64 d] 25)) = wb at *
  refine wp_region_ext wb (by assumption) (by kernel_rfl) (by kernel_rfl) ?_
  repeat (first | go_big_quiet_skip | (go_big_quiet_want; go_big_quiet_op; first | go_big_quiet_on | (apply Exists.intro; refine ⟨fun x => ?_, ?_⟩; (first | (go_at_call 67; exact XW.call (C42.out _ _ (by assumption) (by assumption))) | (go_at_call 68; exact XW.call (C43.out _ _ _ (by assumption) (by assumption)))); go_big_quiet_on)))
  refine wpQuiet_nil ?_
  rintro w4 ⟨⟨_, hyw4⟩, rfl⟩
  try dsimp only
  go_wp2_with fail
  go_ret
  exact ⟨rfl, hE.ext hyw4⟩

set_option maxRecDepth 100000 in
set_option maxHeartbeats 1000000 in
theorem val_5 (n d : Int) (w : World) (n0 : -9223372036854775808 ≤ n) (n1 : n ≤ 9223372036854775807) (d0 : -9223372036854775808 ≤ d) (d1 : d ≤ 9223372036854775807) (h1 : 1 ≤ d) (h2 : d ≤ 1073741824) (h3 : -1073741824 ≤ n) (h : n ≤ 1073741824) : Calls Try.prog 66 #[.agg #[.int .i64 n, .int .i64 d]] w fun e w' => e = .returned (.bool (((Nat.gcd n.natAbs d.natAbs : Nat) : Int) == 1)) ∧ Ext w w' := by
  have t1 : decide ((1 : Int) ≤ d) = true := decide_eq_true (by omega)
  have t2 : decide (d ≤ 1073741824) = true := decide_eq_true (by omega)
  have t3 : decide (-1073741824 ≤ n) = true := decide_eq_true (by omega)
  have t4 : decide (n ≤ 1073741824) = true := decide_eq_true (by omega)
  have hE : Ext w (w.alloc (.cells #[.int .i64 n, .int .i64 d] 25)) := (Upd.refl _ w).alloc _
  have hX0 : ∀ x : XW (w.alloc (.cells #[.int .i64 n, .int .i64 d] 25)), x.val.cell? ⟨w.heap.size, 0, none⟩ = some (.int .i64 n) := fun x => cellRow (x.ext.heap (alloc0 w _) (fun h => h)) 0 _ rfl
  have hX1 : ∀ x : XW (w.alloc (.cells #[.int .i64 n, .int .i64 d] 25)), x.val.cell? ⟨w.heap.size, 1, none⟩ = some (.int .i64 d) := fun x => cellRow (x.ext.heap (alloc0 w _) (fun h => h)) 1 _ rfl
  have hrf : Ext (w.alloc (.cells #[.int .i64 n, .int .i64 d] 25)) (w.alloc (.cells #[.int .i64 n, .int .i64 d] 25)) := Upd.refl _ _
  have C42 := Lib.hid (fun (m : Int) (W : World) (h0 : -9223372036854775808 ≤ m) (h1 : m ≤ 9223372036854775807) => size_x m W h0 h1)
  have C43 := Lib.hid (fun (a b : Nat) (W : World) (h0 : a ≤ 9223372036854775808) (h1 : b ≤ 9223372036854775808) => gcd_x a b W h0 h1)
  have b1 : n.natAbs ≤ 9223372036854775808 := by omega
  have b2 : d.natAbs ≤ 9223372036854775808 := by omega
  go_enter Try.func66, Try.ntmps66
  go_wp2_with fail
  generalize (w.alloc (.cells #[.int .i64 n, .int .i64 d] 25)) = wb at *
  refine wp_region_ext wb (by assumption) (by kernel_rfl) (by kernel_rfl) ?_
  repeat (first | go_big_quiet_skip | (go_big_quiet_want; go_big_quiet_op; first | go_big_quiet_on | (apply Exists.intro; refine ⟨fun x => ?_, ?_⟩; (first | (go_at_call 67; exact XW.call (C42.out _ _ (by assumption) (by assumption))) | (go_at_call 68; exact XW.call (C43.out _ _ _ (by assumption) (by assumption)))); go_big_quiet_on)))
  refine wpQuiet_nil ?_
  rintro w4 ⟨⟨_, hyw4⟩, rfl⟩
  try dsimp only
  go_wp2_with fail
  go_ret
  exact ⟨rfl, hE.ext hyw4⟩

theorem valid_x (n d : Int) (w : World) (n0 : -9223372036854775808 ≤ n) (n1 : n ≤ 9223372036854775807) (d0 : -9223372036854775808 ≤ d) (d1 : d ≤ 9223372036854775807) : Calls Try.prog 66 #[.agg #[.int .i64 n, .int .i64 d]] w fun e w' => e = .returned (.bool (vfB n d)) ∧ Ext w w' := by
  by_cases h1 : 1 ≤ d
  · by_cases h2 : d ≤ 1073741824
    · by_cases h3 : -1073741824 ≤ n
      · by_cases h4 : n ≤ 1073741824
        · have e : vfB n d = (((Nat.gcd n.natAbs d.natAbs : Nat) : Int) == 1) := by
            unfold vfB
            rw [decide_eq_true ⟨h1, h2, h3, h4⟩, Bool.true_and, Bool.eq_iff_iff, decide_eq_true_eq, beq_iff_eq]
            omega
          rw [e]; exact val_5 n d w n0 n1 d0 d1 h1 h2 h3 h4
        · rw [show vfB n d = false by unfold vfB; rw [decide_eq_false (by omega), Bool.false_and]]
          exact val_4 n d w n0 n1 d0 d1 h1 h2 h3 (by omega)
      · rw [show vfB n d = false by unfold vfB; rw [decide_eq_false (by omega), Bool.false_and]]
        exact val_3 n d w n0 n1 d0 d1 h1 h2 (by omega)
    · rw [show vfB n d = false by unfold vfB; rw [decide_eq_false (by omega), Bool.false_and]]
      exact val_2 n d w n0 n1 d0 d1 h1 (by omega)
  · rw [show vfB n d = false by unfold vfB; rw [decide_eq_false (by omega), Bool.false_and]]
    exact val_1 n d w n0 n1 d0 d1 (by omega)

end Go.Proofs.Ytncnojhbdkhcjaa

/- ratio.Make. -/
namespace Go.Proofs.Ytncnojhbdkhcjaa
open Go.RowKit Go.Hw
set_option linter.unusedVariables false
set_option linter.unusedSimpArgs false

set_option maxRecDepth 100000 in
set_option maxHeartbeats 1000000 in
theorem mk_zero (n d : Int) (w : World) (hd : d = 0) : Calls Try.prog 48 #[.int .i64 n, .int .i64 d] w fun e w' => e = .returned (.tuple #[.agg #[.int .i64 0, .int .i64 0], .int .i64 18]) ∧ Ext w w' := by
  subst hd
  have tz : ((0 : Int) == 0) = true := rfl
  have HZ : Hid (Ext w (w.alloc (.cells #[.int .i64 0, .int .i64 0] 25))) := (Upd.refl _ w).alloc _
  have hb := alloc0 w (.cells #[.int .i64 0, .int .i64 0] 25)
  have c0 := cellRow hb 0 _ rfl
  have c1 := cellRow hb 1 _ rfl
  have f0 := frozenRow hb 0
  have f1 := frozenRow hb 1
  clear hb
  go_enter Try.func48, Try.ntmps48
  go_wp2_with fail
  exact bodyPost_ret (v := .tuple #[.agg #[.int .i64 0, .int .i64 0], .int .i64 18]) (by simp [results, Try.results48, go_sem, c0, c1]) rfl ⟨rfl, by first | exact HZ.out | exact (HZ.out.setNew (Nat.le_refl _) _).setNew (Nat.le_refl _) _⟩
set_option maxRecDepth 100000 in
set_option maxHeartbeats 1000000 in
theorem mk_big (n d : Int) (w : World) (n0 : -9223372036854775808 ≤ n) (n1 : n ≤ 9223372036854775807) (d0 : -9223372036854775808 ≤ d) (d1 : d ≤ 9223372036854775807) (hd : d ≠ 0) (hb : 1073741824 < aN n d ∨ (aN n d ≤ 1073741824 ∧ 1073741824 < aD n d)) : Calls Try.prog 48 #[.int .i64 n, .int .i64 d] w fun e w' => e = .returned (.tuple #[.agg #[.int .i64 0, .int .i64 0], .int .i64 5]) ∧ Ext w w' := by
  have hgp := gg_pos (num := n) hd
  have hnl := aN_le n d
  have hdl := aD_le n d
  have hdp := aD_pos (num := n) hd
  have C42 := Lib.hid (fun (m : Int) (W : World) (h0 : -9223372036854775808 ≤ m) (h1 : m ≤ 9223372036854775807) => size_x m W h0 h1)
  have C43 : Hid (∀ W, Calls Try.prog 68 #[.int .u64 n.natAbs, .int .u64 d.natAbs] W fun e w' => e = .returned (.int .u64 (gg n d : Nat)) ∧ Ext W w') := fun W => gcd_x n.natAbs d.natAbs W (by omega) (by omega)
  have HZ : Hid (Ext w (w.alloc (.cells #[.int .i64 0, .int .i64 0] 25))) := (Upd.refl _ w).alloc _
  have HB0 := Lib.hid (alloc0 w (.cells #[.int .i64 0, .int .i64 0] 25))
  have x1 : ((n.natAbs : Nat) : Int) / (gg n d : Int) = (aN n d : Int) := by unfold aN; simp
  have x2 : ((d.natAbs : Nat) : Int) / (gg n d : Int) = (aD n d : Int) := by unfold aD; simp
  have x3 : Int.tdiv ((n.natAbs : Nat) : Int) (gg n d : Int) = (aN n d : Int) := by rw [Int.tdiv_eq_ediv_of_nonneg (by omega)]; exact x1
  have x4 : Int.tdiv ((d.natAbs : Nat) : Int) (gg n d : Int) = (aD n d : Int) := by rw [Int.tdiv_eq_ediv_of_nonneg (by omega)]; exact x2
  have x5 : ¬ ((gg n d : Int) = 0) := by omega
  have x6 : ((gg n d : Int) == 0) = false := beq_eq_false_iff_ne.2 x5
  have x7 : IntKind.u64.wrap (aN n d : Int) = (aN n d : Int) := by rw [wrap_u64']; omega
  have x8 : IntKind.u64.wrap (aD n d : Int) = (aD n d : Int) := by rw [wrap_u64']; omega
  have tz : (d == 0) = false := beq_eq_false_iff_ne.2 hd
  have X1 := Lib.hid x1
  have X2 := Lib.hid x2
  have X3 := Lib.hid x3
  have X4 := Lib.hid x4
  clear x1 x2 x3 x4
  generalize gg n d = G at *
  generalize hNA : aN n d = NA at *
  generalize hDA : aD n d = DA at *
  generalize hna : n.natAbs = na at *
  generalize hda : d.natAbs = da at *
  have HNA := Lib.hid hNA
  have HDA := Lib.hid hDA
  have Hna := Lib.hid hna
  have Hda := Lib.hid hda
  clear hNA hDA hna hda
  rcases hb with hb | ⟨hb1, hb2⟩
  · have t1 : decide (((1073741824 : Nat) : Int) < (NA : Int)) = true := decide_eq_true (by omega)
    have t1' : decide ((1073741824 : Int) < (NA : Int)) = true := decide_eq_true (by omega)
    have t1'' : decide (1073741824 < NA) = true := decide_eq_true (by omega)
    go_enter Try.func48, Try.ntmps48
    go_wp2_with fail
    refine (C42.out _ _ n0 n1).mono ?_
    rintro e w2 ⟨rfl, h2⟩
    have HE2 := Lib.hid (HZ.out.ext h2)
    have HB2 := Lib.hid (h2.heap HB0.out (fun h => h))
    clear h2
    rw [Hna.out]
    go_wp2_with fail
    refine (C42.out _ _ d0 d1).mono ?_
    rintro e w3 ⟨rfl, h3⟩
    have HE3 := Lib.hid (HE2.out.ext h3)
    have HB3 := Lib.hid (h3.heap HB2.out (fun h => h))
    clear h3 HB2
    rw [Hda.out]
    go_wp2_with fail
    refine (C43.out _).mono ?_
    rintro e w4 ⟨rfl, h4⟩
    have HE4 := Lib.hid (HE3.out.ext h4)
    have HB4 := Lib.hid (h4.heap HB3.out (fun h => h))
    clear h4 HB3
    have c0 := cellRow HB4.out 0 _ rfl
    have c1 := cellRow HB4.out 1 _ rfl
    have f0 := frozenRow HB4.out 0
    have f1 := frozenRow HB4.out 1
    have y1 := X1.out
    have y2 := X2.out
    have y3 := X3.out
    have y4 := X4.out
    go_wp2_with fail
    go_quiet (fail)
    clear y1 y2 y3 y4
    go_wp2_with fail
    exact bodyPost_ret (v := .tuple #[.agg #[.int .i64 0, .int .i64 0], .int .i64 5]) (by simp [results, Try.results48, go_sem, c0, c1]) rfl ⟨rfl, ((HE4.out.drewN' _).setNew (Nat.le_refl _) _).setNew (Nat.le_refl _) _⟩
  · have t1' : decide ((1073741824 : Int) < (NA : Int)) = false := decide_eq_false (by omega)
    have t1'' : decide (1073741824 < NA) = false := decide_eq_false (by omega)
    have t2' : decide ((1073741824 : Int) < (DA : Int)) = true := decide_eq_true (by omega)
    have t2'' : decide (1073741824 < DA) = true := decide_eq_true (by omega)
    go_enter Try.func48, Try.ntmps48
    go_wp2_with fail
    refine (C42.out _ _ n0 n1).mono ?_
    rintro e w2 ⟨rfl, h2⟩
    have HE2 := Lib.hid (HZ.out.ext h2)
    have HB2 := Lib.hid (h2.heap HB0.out (fun h => h))
    clear h2
    rw [Hna.out]
    go_wp2_with fail
    refine (C42.out _ _ d0 d1).mono ?_
    rintro e w3 ⟨rfl, h3⟩
    have HE3 := Lib.hid (HE2.out.ext h3)
    have HB3 := Lib.hid (h3.heap HB2.out (fun h => h))
    clear h3 HB2
    rw [Hda.out]
    go_wp2_with fail
    refine (C43.out _).mono ?_
    rintro e w4 ⟨rfl, h4⟩
    have HE4 := Lib.hid (HE3.out.ext h4)
    have HB4 := Lib.hid (h4.heap HB3.out (fun h => h))
    clear h4 HB3
    have c0 := cellRow HB4.out 0 _ rfl
    have c1 := cellRow HB4.out 1 _ rfl
    have f0 := frozenRow HB4.out 0
    have f1 := frozenRow HB4.out 1
    have y1 := X1.out
    have y2 := X2.out
    have y3 := X3.out
    have y4 := X4.out
    go_wp2_with fail
    go_quiet (fail)
    clear y1 y2 y3 y4
    go_wp2_with fail
    exact bodyPost_ret (v := .tuple #[.agg #[.int .i64 0, .int .i64 0], .int .i64 5]) (by simp [results, Try.results48, go_sem, c0, c1]) rfl ⟨rfl, ((HE4.out.drewN' _).setNew (Nat.le_refl _) _).setNew (Nat.le_refl _) _⟩

set_option maxRecDepth 100000 in
set_option maxHeartbeats 1000000 in
theorem mk_good00 (n d : Int) (w : World) (n0 : -9223372036854775808 ≤ n) (n1 : n ≤ 9223372036854775807) (d0 : -9223372036854775808 ≤ d) (d1 : d ≤ 9223372036854775807) (hd : d ≠ 0) (hb1 : aN n d ≤ 1073741824) (hb2 : aD n d ≤ 1073741824) (hn : 0 ≤ n) (hdn : 0 ≤ d) : Calls Try.prog 48 #[.int .i64 n, .int .i64 d] w fun e w' => e = .returned (.tuple #[.agg #[.int .i64 (aN n d : Int), .int .i64 (aD n d : Int)], .int .i64 0]) ∧ Ext w w' := by
  have t3 : decide (n < 0) = false := decide_eq_false (by omega)
  have t4 : decide (d < 0) = false := decide_eq_false (by omega)
  have hgp := gg_pos (num := n) hd
  have hnl := aN_le n d
  have hdl := aD_le n d
  have hdp := aD_pos (num := n) hd
  have C42 := Lib.hid (fun (m : Int) (W : World) (h0 : -9223372036854775808 ≤ m) (h1 : m ≤ 9223372036854775807) => size_x m W h0 h1)
  have C43 : Hid (∀ W, Calls Try.prog 68 #[.int .u64 n.natAbs, .int .u64 d.natAbs] W fun e w' => e = .returned (.int .u64 (gg n d : Nat)) ∧ Ext W w') := fun W => gcd_x n.natAbs d.natAbs W (by omega) (by omega)
  have HZ : Hid (Ext w (w.alloc (.cells #[.int .i64 0, .int .i64 0] 25))) := (Upd.refl _ w).alloc _
  have HB0 := Lib.hid (alloc0 w (.cells #[.int .i64 0, .int .i64 0] 25))
  have x1 : ((n.natAbs : Nat) : Int) / (gg n d : Int) = (aN n d : Int) := by unfold aN; simp
  have x2 : ((d.natAbs : Nat) : Int) / (gg n d : Int) = (aD n d : Int) := by unfold aD; simp
  have x3 : Int.tdiv ((n.natAbs : Nat) : Int) (gg n d : Int) = (aN n d : Int) := by rw [Int.tdiv_eq_ediv_of_nonneg (by omega)]; exact x1
  have x4 : Int.tdiv ((d.natAbs : Nat) : Int) (gg n d : Int) = (aD n d : Int) := by rw [Int.tdiv_eq_ediv_of_nonneg (by omega)]; exact x2
  have x5 : ¬ ((gg n d : Int) = 0) := by omega
  have x6 : ((gg n d : Int) == 0) = false := beq_eq_false_iff_ne.2 x5
  have x7 : IntKind.u64.wrap (aN n d : Int) = (aN n d : Int) := by rw [wrap_u64']; omega
  have x8 : IntKind.u64.wrap (aD n d : Int) = (aD n d : Int) := by rw [wrap_u64']; omega
  have tz : (d == 0) = false := beq_eq_false_iff_ne.2 hd
  have X1 := Lib.hid x1
  have X2 := Lib.hid x2
  have X3 := Lib.hid x3
  have X4 := Lib.hid x4
  clear x1 x2 x3 x4
  generalize gg n d = G at *
  generalize hNA : aN n d = NA at *
  generalize hDA : aD n d = DA at *
  generalize hna : n.natAbs = na at *
  generalize hda : d.natAbs = da at *
  have HNA := Lib.hid hNA
  have HDA := Lib.hid hDA
  have Hna := Lib.hid hna
  have Hda := Lib.hid hda
  clear hNA hDA hna hda
  have t1' : decide ((1073741824 : Int) < (NA : Int)) = false := decide_eq_false (by omega)
  have t1'' : decide (1073741824 < NA) = false := decide_eq_false (by omega)
  have t2' : decide ((1073741824 : Int) < (DA : Int)) = false := decide_eq_false (by omega)
  have t2'' : decide (1073741824 < DA) = false := decide_eq_false (by omega)
  go_enter Try.func48, Try.ntmps48
  go_wp2_with fail
  refine (C42.out _ _ n0 n1).mono ?_
  rintro e w2 ⟨rfl, h2⟩
  have HE2 := Lib.hid (HZ.out.ext h2)
  have HB2 := Lib.hid (h2.heap HB0.out (fun h => h))
  clear h2
  rw [Hna.out]
  go_wp2_with fail
  refine (C42.out _ _ d0 d1).mono ?_
  rintro e w3 ⟨rfl, h3⟩
  have HE3 := Lib.hid (HE2.out.ext h3)
  have HB3 := Lib.hid (h3.heap HB2.out (fun h => h))
  clear h3 HB2
  rw [Hda.out]
  go_wp2_with fail
  refine (C43.out _).mono ?_
  rintro e w4 ⟨rfl, h4⟩
  have HE4 := Lib.hid (HE3.out.ext h4)
  have HB4 := Lib.hid (h4.heap HB3.out (fun h => h))
  clear h4 HB3
  have c0 := cellRow HB4.out 0 _ rfl
  have c1 := cellRow HB4.out 1 _ rfl
  have f0 := frozenRow HB4.out 0
  have f1 := frozenRow HB4.out 1
  have y1 := X1.out
  have y2 := X2.out
  have y3 := X3.out
  have y4 := X4.out
  go_wp2_with fail
  go_quiet (fail)
  clear y1 y2 y3 y4
  generalize hw5 : w4.drewN nq = w5 at *
  have HE5 : Hid (Ext w w5) := by show Ext w w5; rw [← hw5]; exact HE4.out.drewN' _
  have HB5 : Hid (w5.heap[w.heap.size]? = some (.cells #[.int .i64 0, .int .i64 0] 25)) := by show _ = _; rw [← hw5]; exact HB4.out
  have hsz : w.heap.size < w5.heap.size := (Array.getElem?_eq_some_iff.1 HB5.out).1
  have hne1 : ¬ w.heap.size = w5.heap.size := by omega
  have hne2 : ¬ w5.heap.size = w.heap.size := by omega
  clear hw5 c0 c1 f0 f1 HB4
  have ha0 := alloc0 w5 (.cells #[.int .i64 0, .int .i64 0] 25)
  have o0 := cellRow ha0 0 _ rfl
  have o1 := cellRow ha0 1 _ rfl
  have u0 := frozenRow ha0 0
  have u1 := frozenRow ha0 1
  have ha1 := alloc0 w5 (.cells #[.int .i64 (NA : Int), .int .i64 (DA : Int)] 25)
  have p0 := cellRow ha1 0 _ rfl
  have p1 := cellRow ha1 1 _ rfl
  have v0 := frozenRow ha1 0
  have v1 := frozenRow ha1 1
  have c0 := cellRow HB5.out 0 _ rfl
  have c1 := cellRow HB5.out 1 _ rfl
  have f0 := frozenRow HB5.out 0
  have f1 := frozenRow HB5.out 1
  clear ha0 ha1
  go_wp2_with fail
  have hfin := allocOld (setBlock (setBlock HB5.out 0 (.int .i64 (NA : Int))) 1 (.int .i64 (DA : Int))) (.cells #[.int .i64 (NA : Int), .int .i64 (DA : Int)] 25)
  have z0 := cellRow hfin 0 _ rfl
  have z1 := cellRow hfin 1 _ rfl
  simp at z0 z1
  refine bodyPost_ret (v := .tuple #[.agg #[.int .i64 (NA : Int), .int .i64 (DA : Int)], .int .i64 0]) (by simp [results, Try.results48, go_sem, z0, z1]) rfl ⟨by rw [← HNA.out, ← HDA.out], ?_⟩
  exact ((HE5.out.setNew (Nat.le_refl _) _).setNew (Nat.le_refl _) _).alloc _

set_option maxRecDepth 100000 in
set_option maxHeartbeats 1000000 in
theorem mk_good01 (n d : Int) (w : World) (n0 : -9223372036854775808 ≤ n) (n1 : n ≤ 9223372036854775807) (d0 : -9223372036854775808 ≤ d) (d1 : d ≤ 9223372036854775807) (hd : d ≠ 0) (hb1 : aN n d ≤ 1073741824) (hb2 : aD n d ≤ 1073741824) (hn : 0 ≤ n) (hdn : d < 0) : Calls Try.prog 48 #[.int .i64 n, .int .i64 d] w fun e w' => e = .returned (.tuple #[.agg #[.int .i64 (-(aN n d : Int)), .int .i64 (aD n d : Int)], .int .i64 0]) ∧ Ext w w' := by
  have t3 : decide (n < 0) = false := decide_eq_false (by omega)
  have t4 : decide (d < 0) = true := decide_eq_true (by omega)
  have hgp := gg_pos (num := n) hd
  have hnl := aN_le n d
  have hdl := aD_le n d
  have hdp := aD_pos (num := n) hd
  have C42 := Lib.hid (fun (m : Int) (W : World) (h0 : -9223372036854775808 ≤ m) (h1 : m ≤ 9223372036854775807) => size_x m W h0 h1)
  have C43 : Hid (∀ W, Calls Try.prog 68 #[.int .u64 n.natAbs, .int .u64 d.natAbs] W fun e w' => e = .returned (.int .u64 (gg n d : Nat)) ∧ Ext W w') := fun W => gcd_x n.natAbs d.natAbs W (by omega) (by omega)
  have HZ : Hid (Ext w (w.alloc (.cells #[.int .i64 0, .int .i64 0] 25))) := (Upd.refl _ w).alloc _
  have HB0 := Lib.hid (alloc0 w (.cells #[.int .i64 0, .int .i64 0] 25))
  have x1 : ((n.natAbs : Nat) : Int) / (gg n d : Int) = (aN n d : Int) := by unfold aN; simp
  have x2 : ((d.natAbs : Nat) : Int) / (gg n d : Int) = (aD n d : Int) := by unfold aD; simp
  have x3 : Int.tdiv ((n.natAbs : Nat) : Int) (gg n d : Int) = (aN n d : Int) := by rw [Int.tdiv_eq_ediv_of_nonneg (by omega)]; exact x1
  have x4 : Int.tdiv ((d.natAbs : Nat) : Int) (gg n d : Int) = (aD n d : Int) := by rw [Int.tdiv_eq_ediv_of_nonneg (by omega)]; exact x2
  have x5 : ¬ ((gg n d : Int) = 0) := by omega
  have x6 : ((gg n d : Int) == 0) = false := beq_eq_false_iff_ne.2 x5
  have x7 : IntKind.u64.wrap (aN n d : Int) = (aN n d : Int) := by rw [wrap_u64']; omega
  have x8 : IntKind.u64.wrap (aD n d : Int) = (aD n d : Int) := by rw [wrap_u64']; omega
  have tz : (d == 0) = false := beq_eq_false_iff_ne.2 hd
  have X1 := Lib.hid x1
  have X2 := Lib.hid x2
  have X3 := Lib.hid x3
  have X4 := Lib.hid x4
  clear x1 x2 x3 x4
  generalize gg n d = G at *
  generalize hNA : aN n d = NA at *
  generalize hDA : aD n d = DA at *
  generalize hna : n.natAbs = na at *
  generalize hda : d.natAbs = da at *
  have HNA := Lib.hid hNA
  have HDA := Lib.hid hDA
  have Hna := Lib.hid hna
  have Hda := Lib.hid hda
  clear hNA hDA hna hda
  have t1' : decide ((1073741824 : Int) < (NA : Int)) = false := decide_eq_false (by omega)
  have t1'' : decide (1073741824 < NA) = false := decide_eq_false (by omega)
  have t2' : decide ((1073741824 : Int) < (DA : Int)) = false := decide_eq_false (by omega)
  have t2'' : decide (1073741824 < DA) = false := decide_eq_false (by omega)
  go_enter Try.func48, Try.ntmps48
  go_wp2_with fail
  refine (C42.out _ _ n0 n1).mono ?_
  rintro e w2 ⟨rfl, h2⟩
  have HE2 := Lib.hid (HZ.out.ext h2)
  have HB2 := Lib.hid (h2.heap HB0.out (fun h => h))
  clear h2
  rw [Hna.out]
  go_wp2_with fail
  refine (C42.out _ _ d0 d1).mono ?_
  rintro e w3 ⟨rfl, h3⟩
  have HE3 := Lib.hid (HE2.out.ext h3)
  have HB3 := Lib.hid (h3.heap HB2.out (fun h => h))
  clear h3 HB2
  rw [Hda.out]
  go_wp2_with fail
  refine (C43.out _).mono ?_
  rintro e w4 ⟨rfl, h4⟩
  have HE4 := Lib.hid (HE3.out.ext h4)
  have HB4 := Lib.hid (h4.heap HB3.out (fun h => h))
  clear h4 HB3
  have c0 := cellRow HB4.out 0 _ rfl
  have c1 := cellRow HB4.out 1 _ rfl
  have f0 := frozenRow HB4.out 0
  have f1 := frozenRow HB4.out 1
  have y1 := X1.out
  have y2 := X2.out
  have y3 := X3.out
  have y4 := X4.out
  go_wp2_with fail
  go_quiet (fail)
  clear y1 y2 y3 y4
  generalize hw5 : w4.drewN nq = w5 at *
  have HE5 : Hid (Ext w w5) := by show Ext w w5; rw [← hw5]; exact HE4.out.drewN' _
  have HB5 : Hid (w5.heap[w.heap.size]? = some (.cells #[.int .i64 0, .int .i64 0] 25)) := by show _ = _; rw [← hw5]; exact HB4.out
  have hsz : w.heap.size < w5.heap.size := (Array.getElem?_eq_some_iff.1 HB5.out).1
  have hne1 : ¬ w.heap.size = w5.heap.size := by omega
  have hne2 : ¬ w5.heap.size = w.heap.size := by omega
  clear hw5 c0 c1 f0 f1 HB4
  have ha0 := alloc0 w5 (.cells #[.int .i64 0, .int .i64 0] 25)
  have o0 := cellRow ha0 0 _ rfl
  have o1 := cellRow ha0 1 _ rfl
  have u0 := frozenRow ha0 0
  have u1 := frozenRow ha0 1
  have ha1 := alloc0 w5 (.cells #[.int .i64 (NA : Int), .int .i64 (DA : Int)] 25)
  have p0 := cellRow ha1 0 _ rfl
  have p1 := cellRow ha1 1 _ rfl
  have v0 := frozenRow ha1 0
  have v1 := frozenRow ha1 1
  have c0 := cellRow HB5.out 0 _ rfl
  have c1 := cellRow HB5.out 1 _ rfl
  have f0 := frozenRow HB5.out 0
  have f1 := frozenRow HB5.out 1
  clear ha0 ha1
  go_wp2_with fail
  have hfin := allocOld (setBlock (setBlock HB5.out 0 (.int .i64 (-(NA : Int)))) 1 (.int .i64 (DA : Int))) (.cells #[.int .i64 (-(NA : Int)), .int .i64 (DA : Int)] 25)
  have z0 := cellRow hfin 0 _ rfl
  have z1 := cellRow hfin 1 _ rfl
  simp at z0 z1
  refine bodyPost_ret (v := .tuple #[.agg #[.int .i64 (-(NA : Int)), .int .i64 (DA : Int)], .int .i64 0]) (by simp [results, Try.results48, go_sem, z0, z1]) rfl ⟨by rw [← HNA.out, ← HDA.out], ?_⟩
  exact ((HE5.out.setNew (Nat.le_refl _) _).setNew (Nat.le_refl _) _).alloc _

set_option maxRecDepth 100000 in
set_option maxHeartbeats 1000000 in
theorem mk_good10 (n d : Int) (w : World) (n0 : -9223372036854775808 ≤ n) (n1 : n ≤ 9223372036854775807) (d0 : -9223372036854775808 ≤ d) (d1 : d ≤ 9223372036854775807) (hd : d ≠ 0) (hb1 : aN n d ≤ 1073741824) (hb2 : aD n d ≤ 1073741824) (hn : n < 0) (hdn : 0 ≤ d) : Calls Try.prog 48 #[.int .i64 n, .int .i64 d] w fun e w' => e = .returned (.tuple #[.agg #[.int .i64 (-(aN n d : Int)), .int .i64 (aD n d : Int)], .int .i64 0]) ∧ Ext w w' := by
  have t3 : decide (n < 0) = true := decide_eq_true (by omega)
  have t4 : decide (d < 0) = false := decide_eq_false (by omega)
  have hgp := gg_pos (num := n) hd
  have hnl := aN_le n d
  have hdl := aD_le n d
  have hdp := aD_pos (num := n) hd
  have C42 := Lib.hid (fun (m : Int) (W : World) (h0 : -9223372036854775808 ≤ m) (h1 : m ≤ 9223372036854775807) => size_x m W h0 h1)
  have C43 : Hid (∀ W, Calls Try.prog 68 #[.int .u64 n.natAbs, .int .u64 d.natAbs] W fun e w' => e = .returned (.int .u64 (gg n d : Nat)) ∧ Ext W w') := fun W => gcd_x n.natAbs d.natAbs W (by omega) (by omega)
  have HZ : Hid (Ext w (w.alloc (.cells #[.int .i64 0, .int .i64 0] 25))) := (Upd.refl _ w).alloc _
  have HB0 := Lib.hid (alloc0 w (.cells #[.int .i64 0, .int .i64 0] 25))
  have x1 : ((n.natAbs : Nat) : Int) / (gg n d : Int) = (aN n d : Int) := by unfold aN; simp
  have x2 : ((d.natAbs : Nat) : Int) / (gg n d : Int) = (aD n d : Int) := by unfold aD; simp
  have x3 : Int.tdiv ((n.natAbs : Nat) : Int) (gg n d : Int) = (aN n d : Int) := by rw [Int.tdiv_eq_ediv_of_nonneg (by omega)]; exact x1
  have x4 : Int.tdiv ((d.natAbs : Nat) : Int) (gg n d : Int) = (aD n d : Int) := by rw [Int.tdiv_eq_ediv_of_nonneg (by omega)]; exact x2
  have x5 : ¬ ((gg n d : Int) = 0) := by omega
  have x6 : ((gg n d : Int) == 0) = false := beq_eq_false_iff_ne.2 x5
  have x7 : IntKind.u64.wrap (aN n d : Int) = (aN n d : Int) := by rw [wrap_u64']; omega
  have x8 : IntKind.u64.wrap (aD n d : Int) = (aD n d : Int) := by rw [wrap_u64']; omega
  have tz : (d == 0) = false := beq_eq_false_iff_ne.2 hd
  have X1 := Lib.hid x1
  have X2 := Lib.hid x2
  have X3 := Lib.hid x3
  have X4 := Lib.hid x4
  clear x1 x2 x3 x4
  generalize gg n d = G at *
  generalize hNA : aN n d = NA at *
  generalize hDA : aD n d = DA at *
  generalize hna : n.natAbs = na at *
  generalize hda : d.natAbs = da at *
  have HNA := Lib.hid hNA
  have HDA := Lib.hid hDA
  have Hna := Lib.hid hna
  have Hda := Lib.hid hda
  clear hNA hDA hna hda
  have t1' : decide ((1073741824 : Int) < (NA : Int)) = false := decide_eq_false (by omega)
  have t1'' : decide (1073741824 < NA) = false := decide_eq_false (by omega)
  have t2' : decide ((1073741824 : Int) < (DA : Int)) = false := decide_eq_false (by omega)
  have t2'' : decide (1073741824 < DA) = false := decide_eq_false (by omega)
  go_enter Try.func48, Try.ntmps48
  go_wp2_with fail
  refine (C42.out _ _ n0 n1).mono ?_
  rintro e w2 ⟨rfl, h2⟩
  have HE2 := Lib.hid (HZ.out.ext h2)
  have HB2 := Lib.hid (h2.heap HB0.out (fun h => h))
  clear h2
  rw [Hna.out]
  go_wp2_with fail
  refine (C42.out _ _ d0 d1).mono ?_
  rintro e w3 ⟨rfl, h3⟩
  have HE3 := Lib.hid (HE2.out.ext h3)
  have HB3 := Lib.hid (h3.heap HB2.out (fun h => h))
  clear h3 HB2
  rw [Hda.out]
  go_wp2_with fail
  refine (C43.out _).mono ?_
  rintro e w4 ⟨rfl, h4⟩
  have HE4 := Lib.hid (HE3.out.ext h4)
  have HB4 := Lib.hid (h4.heap HB3.out (fun h => h))
  clear h4 HB3
  have c0 := cellRow HB4.out 0 _ rfl
  have c1 := cellRow HB4.out 1 _ rfl
  have f0 := frozenRow HB4.out 0
  have f1 := frozenRow HB4.out 1
  have y1 := X1.out
  have y2 := X2.out
  have y3 := X3.out
  have y4 := X4.out
  go_wp2_with fail
  go_quiet (fail)
  clear y1 y2 y3 y4
  generalize hw5 : w4.drewN nq = w5 at *
  have HE5 : Hid (Ext w w5) := by show Ext w w5; rw [← hw5]; exact HE4.out.drewN' _
  have HB5 : Hid (w5.heap[w.heap.size]? = some (.cells #[.int .i64 0, .int .i64 0] 25)) := by show _ = _; rw [← hw5]; exact HB4.out
  have hsz : w.heap.size < w5.heap.size := (Array.getElem?_eq_some_iff.1 HB5.out).1
  have hne1 : ¬ w.heap.size = w5.heap.size := by omega
  have hne2 : ¬ w5.heap.size = w.heap.size := by omega
  clear hw5 c0 c1 f0 f1 HB4
  have ha0 := alloc0 w5 (.cells #[.int .i64 0, .int .i64 0] 25)
  have o0 := cellRow ha0 0 _ rfl
  have o1 := cellRow ha0 1 _ rfl
  have u0 := frozenRow ha0 0
  have u1 := frozenRow ha0 1
  have ha1 := alloc0 w5 (.cells #[.int .i64 (NA : Int), .int .i64 (DA : Int)] 25)
  have p0 := cellRow ha1 0 _ rfl
  have p1 := cellRow ha1 1 _ rfl
  have v0 := frozenRow ha1 0
  have v1 := frozenRow ha1 1
  have c0 := cellRow HB5.out 0 _ rfl
  have c1 := cellRow HB5.out 1 _ rfl
  have f0 := frozenRow HB5.out 0
  have f1 := frozenRow HB5.out 1
  clear ha0 ha1
  go_wp2_with fail
  have hfin := allocOld (setBlock (setBlock HB5.out 0 (.int .i64 (-(NA : Int)))) 1 (.int .i64 (DA : Int))) (.cells #[.int .i64 (-(NA : Int)), .int .i64 (DA : Int)] 25)
  have z0 := cellRow hfin 0 _ rfl
  have z1 := cellRow hfin 1 _ rfl
  simp at z0 z1
  refine bodyPost_ret (v := .tuple #[.agg #[.int .i64 (-(NA : Int)), .int .i64 (DA : Int)], .int .i64 0]) (by simp [results, Try.results48, go_sem, z0, z1]) rfl ⟨by rw [← HNA.out, ← HDA.out], ?_⟩
  exact ((HE5.out.setNew (Nat.le_refl _) _).setNew (Nat.le_refl _) _).alloc _

set_option maxRecDepth 100000 in
set_option maxHeartbeats 1000000 in
theorem mk_good11 (n d : Int) (w : World) (n0 : -9223372036854775808 ≤ n) (n1 : n ≤ 9223372036854775807) (d0 : -9223372036854775808 ≤ d) (d1 : d ≤ 9223372036854775807) (hd : d ≠ 0) (hb1 : aN n d ≤ 1073741824) (hb2 : aD n d ≤ 1073741824) (hn : n < 0) (hdn : d < 0) : Calls Try.prog 48 #[.int .i64 n, .int .i64 d] w fun e w' => e = .returned (.tuple #[.agg #[.int .i64 (aN n d : Int), .int .i64 (aD n d : Int)], .int .i64 0]) ∧ Ext w w' := by
  have t3 : decide (n < 0) = true := decide_eq_true (by omega)
  have t4 : decide (d < 0) = true := decide_eq_true (by omega)
  have hgp := gg_pos (num := n) hd
  have hnl := aN_le n d
  have hdl := aD_le n d
  have hdp := aD_pos (num := n) hd
  have C42 := Lib.hid (fun (m : Int) (W : World) (h0 : -9223372036854775808 ≤ m) (h1 : m ≤ 9223372036854775807) => size_x m W h0 h1)
  have C43 : Hid (∀ W, Calls Try.prog 68 #[.int .u64 n.natAbs, .int .u64 d.natAbs] W fun e w' => e = .returned (.int .u64 (gg n d : Nat)) ∧ Ext W w') := fun W => gcd_x n.natAbs d.natAbs W (by omega) (by omega)
  have HZ : Hid (Ext w (w.alloc (.cells #[.int .i64 0, .int .i64 0] 25))) := (Upd.refl _ w).alloc _
  have HB0 := Lib.hid (alloc0 w (.cells #[.int .i64 0, .int .i64 0] 25))
  have x1 : ((n.natAbs : Nat) : Int) / (gg n d : Int) = (aN n d : Int) := by unfold aN; simp
  have x2 : ((d.natAbs : Nat) : Int) / (gg n d : Int) = (aD n d : Int) := by unfold aD; simp
  have x3 : Int.tdiv ((n.natAbs : Nat) : Int) (gg n d : Int) = (aN n d : Int) := by rw [Int.tdiv_eq_ediv_of_nonneg (by omega)]; exact x1
  have x4 : Int.tdiv ((d.natAbs : Nat) : Int) (gg n d : Int) = (aD n d : Int) := by rw [Int.tdiv_eq_ediv_of_nonneg (by omega)]; exact x2
  have x5 : ¬ ((gg n d : Int) = 0) := by omega
  have x6 : ((gg n d : Int) == 0) = false := beq_eq_false_iff_ne.2 x5
  have x7 : IntKind.u64.wrap (aN n d : Int) = (aN n d : Int) := by rw [wrap_u64']; omega
  have x8 : IntKind.u64.wrap (aD n d : Int) = (aD n d : Int) := by rw [wrap_u64']; omega
  have tz : (d == 0) = false := beq_eq_false_iff_ne.2 hd
  have X1 := Lib.hid x1
  have X2 := Lib.hid x2
  have X3 := Lib.hid x3
  have X4 := Lib.hid x4
  clear x1 x2 x3 x4
  generalize gg n d = G at *
  generalize hNA : aN n d = NA at *
  generalize hDA : aD n d = DA at *
  generalize hna : n.natAbs = na at *
  generalize hda : d.natAbs = da at *
  have HNA := Lib.hid hNA
  have HDA := Lib.hid hDA
  have Hna := Lib.hid hna
  have Hda := Lib.hid hda
  clear hNA hDA hna hda
  have t1' : decide ((1073741824 : Int) < (NA : Int)) = false := decide_eq_false (by omega)
  have t1'' : decide (1073741824 < NA) = false := decide_eq_false (by omega)
  have t2' : decide ((1073741824 : Int) < (DA : Int)) = false := decide_eq_false (by omega)
  have t2'' : decide (1073741824 < DA) = false := decide_eq_false (by omega)
  go_enter Try.func48, Try.ntmps48
  go_wp2_with fail
  refine (C42.out _ _ n0 n1).mono ?_
  rintro e w2 ⟨rfl, h2⟩
  have HE2 := Lib.hid (HZ.out.ext h2)
  have HB2 := Lib.hid (h2.heap HB0.out (fun h => h))
  clear h2
  rw [Hna.out]
  go_wp2_with fail
  refine (C42.out _ _ d0 d1).mono ?_
  rintro e w3 ⟨rfl, h3⟩
  have HE3 := Lib.hid (HE2.out.ext h3)
  have HB3 := Lib.hid (h3.heap HB2.out (fun h => h))
  clear h3 HB2
  rw [Hda.out]
  go_wp2_with fail
  refine (C43.out _).mono ?_
  rintro e w4 ⟨rfl, h4⟩
  have HE4 := Lib.hid (HE3.out.ext h4)
  have HB4 := Lib.hid (h4.heap HB3.out (fun h => h))
  clear h4 HB3
  have c0 := cellRow HB4.out 0 _ rfl
  have c1 := cellRow HB4.out 1 _ rfl
  have f0 := frozenRow HB4.out 0
  have f1 := frozenRow HB4.out 1
  have y1 := X1.out
  have y2 := X2.out
  have y3 := X3.out
  have y4 := X4.out
  go_wp2_with fail
  go_quiet (fail)
  clear y1 y2 y3 y4
  generalize hw5 : w4.drewN nq = w5 at *
  have HE5 : Hid (Ext w w5) := by show Ext w w5; rw [← hw5]; exact HE4.out.drewN' _
  have HB5 : Hid (w5.heap[w.heap.size]? = some (.cells #[.int .i64 0, .int .i64 0] 25)) := by show _ = _; rw [← hw5]; exact HB4.out
  have hsz : w.heap.size < w5.heap.size := (Array.getElem?_eq_some_iff.1 HB5.out).1
  have hne1 : ¬ w.heap.size = w5.heap.size := by omega
  have hne2 : ¬ w5.heap.size = w.heap.size := by omega
  clear hw5 c0 c1 f0 f1 HB4
  have ha0 := alloc0 w5 (.cells #[.int .i64 0, .int .i64 0] 25)
  have o0 := cellRow ha0 0 _ rfl
  have o1 := cellRow ha0 1 _ rfl
  have u0 := frozenRow ha0 0
  have u1 := frozenRow ha0 1
  have ha1 := alloc0 w5 (.cells #[.int .i64 (NA : Int), .int .i64 (DA : Int)] 25)
  have p0 := cellRow ha1 0 _ rfl
  have p1 := cellRow ha1 1 _ rfl
  have v0 := frozenRow ha1 0
  have v1 := frozenRow ha1 1
  have c0 := cellRow HB5.out 0 _ rfl
  have c1 := cellRow HB5.out 1 _ rfl
  have f0 := frozenRow HB5.out 0
  have f1 := frozenRow HB5.out 1
  clear ha0 ha1
  go_wp2_with fail
  have hfin := allocOld (setBlock (setBlock HB5.out 0 (.int .i64 (NA : Int))) 1 (.int .i64 (DA : Int))) (.cells #[.int .i64 (NA : Int), .int .i64 (DA : Int)] 25)
  have z0 := cellRow hfin 0 _ rfl
  have z1 := cellRow hfin 1 _ rfl
  simp at z0 z1
  refine bodyPost_ret (v := .tuple #[.agg #[.int .i64 (NA : Int), .int .i64 (DA : Int)], .int .i64 0]) (by simp [results, Try.results48, go_sem, z0, z1]) rfl ⟨by rw [← HNA.out, ← HDA.out], ?_⟩
  exact ((HE5.out.setNew (Nat.le_refl _) _).setNew (Nat.le_refl _) _).alloc _

end Go.Proofs.Ytncnojhbdkhcjaa

/- ref.Make. -/
namespace Go.Proofs.Ytncnojhbdkhcjaa
open Go.RowKit Go.Hw
set_option linter.unusedVariables false
set_option linter.unusedSimpArgs false

theorem mk_x (n d : Int) (w : World) (n0 : -9223372036854775808 ≤ n) (n1 : n ≤ 9223372036854775807) (d0 : -9223372036854775808 ≤ d) (d1 : d ≤ 9223372036854775807) : Calls Try.prog 48 #[.int .i64 n, .int .i64 d] w fun e w' => e = .returned (.tuple #[.agg #[.int .i64 (mkN n d), .int .i64 (mkD n d)], .int .i64 (mkE n d)]) ∧ Ext w w' := by
  by_cases hd : d = 0
  · rw [show mkN n d = 0 from if_pos hd, show mkD n d = 0 from if_pos hd, show mkE n d = 18 from if_pos hd]
    exact mk_zero n d w hd
  · cases hb : bigB n d
    · have hb' := hb
      unfold bigB at hb'
      simp only [Bool.or_eq_false_iff, decide_eq_false_iff_not, Nat.not_lt] at hb'
      rw [show mkE n d = 0 by unfold mkE; rw [if_neg hd, hb]; rfl, show mkD n d = aD n d by unfold mkD; rw [if_neg hd, hb]; rfl, show mkN n d = qN n d by unfold mkN; rw [if_neg hd, hb]; rfl]
      unfold qN negB
      by_cases h1 : n < 0
      · by_cases h2 : d < 0
        · rw [decide_eq_true h1, decide_eq_true h2]; exact mk_good11 n d w n0 n1 d0 d1 hd hb'.1 hb'.2 h1 h2
        · rw [decide_eq_true h1, decide_eq_false h2]; exact mk_good10 n d w n0 n1 d0 d1 hd hb'.1 hb'.2 h1 (by omega)
      · by_cases h2 : d < 0
        · rw [decide_eq_false h1, decide_eq_true h2]; exact mk_good01 n d w n0 n1 d0 d1 hd hb'.1 hb'.2 (by omega) h2
        · rw [decide_eq_false h1, decide_eq_false h2]; exact mk_good00 n d w n0 n1 d0 d1 hd hb'.1 hb'.2 (by omega) (by omega)
    · rw [show mkE n d = 5 by unfold mkE; rw [if_neg hd, hb]; rfl, show mkD n d = 0 by unfold mkD; rw [if_neg hd, hb]; rfl, show mkN n d = 0 by unfold mkN; rw [if_neg hd, hb]; rfl]
      unfold bigB at hb
      simp only [Bool.or_eq_true, decide_eq_true_eq] at hb
      exact mk_big n d w n0 n1 d0 d1 hd (by omega)
def sg (x : Int) (k : Nat) : Int := if x < 0 then -(k : Int) else k
theorem sg_mul (n d : Int) : n = sg n (aN n d) * gg n d ∧ d = sg d (aD n d) * gg n d := by
  have h1 := aN_mul n d
  have h2 := aD_mul n d
  have e1 : ((aN n d * gg n d : Nat) : Int) = n.natAbs := by rw [h1]
  have e2 : ((aD n d * gg n d : Nat) : Int) = d.natAbs := by rw [h2]
  rw [Int.natCast_mul] at e1 e2
  unfold sg
  constructor
  · split
    · rw [Int.neg_mul]; omega
    · omega
  · split
    · rw [Int.neg_mul]; omega
    · omega
theorem tdiv_neg_g (n d : Int) (hd : d ≠ 0) : Int.tdiv n (-(gg n d : Int)) = -(sg n (aN n d)) ∧ Int.tdiv d (-(gg n d : Int)) = -(sg d (aD n d)) := by
  obtain ⟨h1, h2⟩ := sg_mul n d
  have hg := gg_pos (num := n) hd
  constructor
  · rw [Int.tdiv_neg]
    have e : Int.tdiv n (gg n d) = sg n (aN n d) := by
      have : ∀ g : Int, g ≠ 0 → n = sg n (aN n d) * g → Int.tdiv n g = sg n (aN n d) := fun g hg h => by
        generalize sg n (aN n d) = s at *
        rw [h]; exact Int.mul_tdiv_cancel _ hg
      exact this _ (by omega) h1
    rw [e]
  · rw [Int.tdiv_neg]
    have e : Int.tdiv d (gg n d) = sg d (aD n d) := by
      have : ∀ g : Int, g ≠ 0 → d = sg d (aD n d) * g → Int.tdiv d g = sg d (aD n d) := fun g hg h => by
        generalize sg d (aD n d) = s at *
        rw [h]; exact Int.mul_tdiv_cancel _ hg
      exact this _ (by omega) h2
    rw [e]
def W64 (x y : Int) : Prop := (x = 9223372036854775808 ∧ y = -9223372036854775808) ∨ (x < 9223372036854775808 ∧ y = x)
theorem wrap64_W (x : Int) (h0 : -9223372036854775808 ≤ x) (h1 : x ≤ 9223372036854775808) : W64 x (wrap64 x) := by
  unfold W64 wrap64
  omega
def badB (n d : Int) : Bool := decide (n < -1073741824) || decide (1073741824 < n) || decide (d < 1) || decide (1073741824 < d)
theorem ref_pair (n d N1 D1 N2 D2 : Int) (n0 : -9223372036854775808 ≤ n) (n1 : n ≤ 9223372036854775807) (d0 : -9223372036854775808 ≤ d) (d1 : d ≤ 9223372036854775807) (hd : d ≠ 0)
    (h1 : W64 (-(sg n (aN n d))) N1) (h2 : W64 (-(sg d (aD n d))) D1) (h3 : W64 (-N1) N2) (h4 : W64 (-D1) D2) :
    (D1 < 0 → (badB N2 D2 = bigB n d) ∧ (badB N2 D2 = false → N2 = qN n d ∧ D2 = aD n d)) ∧ (0 ≤ D1 → (badB N1 D1 = bigB n d) ∧ (badB N1 D1 = false → N1 = qN n d ∧ D1 = aD n d)) := by
  have a1 := aN_le n d
  have a2 := aD_le n d
  have a3 := aD_pos (num := n) hd
  unfold W64 sg at h1 h2
  unfold W64 at h3 h4
  unfold badB bigB qN negB
  generalize aN n d = A at *
  generalize aD n d = B at *
  by_cases hn : n < 0 <;> by_cases hdn : d < 0 <;>
    simp only [hn, hdn, if_true, if_false, decide_true, decide_false, bne_self_eq_false, Bool.true_bne, Bool.false_bne, Bool.not_false, Bool.false_eq_true, if_pos, if_neg] at h1 h2 ⊢ <;>
    refine ⟨fun h => ⟨?_, ?_⟩, fun h => ⟨?_, ?_⟩⟩ <;>
    first
      | (rw [Bool.eq_iff_iff]; simp only [Bool.or_eq_true, decide_eq_true_eq]; omega)
      | (simp only [Bool.or_eq_false_iff, decide_eq_false_iff_not]; omega)
theorem mk_of {n d nn dd : Int} (hd : d ≠ 0) (h : (badB nn dd = bigB n d) ∧ (badB nn dd = false → nn = qN n d ∧ dd = aD n d)) :
    (badB nn dd = true → mkE n d = 5 ∧ mkN n d = 0 ∧ mkD n d = 0) ∧ (badB nn dd = false → mkE n d = 0 ∧ mkN n d = nn ∧ mkD n d = dd) := by
  constructor
  · intro hb
    have hb2 := h.1.symm.trans hb
    unfold mkE mkN mkD
    rw [if_neg hd, if_neg hd, if_neg hd, hb2]
    exact ⟨rfl, rfl, rfl⟩
  · intro hb
    have hb2 := h.1.symm.trans hb
    obtain ⟨e1, e2⟩ := h.2 hb
    unfold mkE mkN mkD
    rw [if_neg hd, if_neg hd, if_neg hd, hb2, e1, e2]
    exact ⟨rfl, rfl, rfl⟩

set_option maxRecDepth 100000 in
set_option maxHeartbeats 2000000 in
theorem rmk00 (n d : Int) (w : World) (n0 : -9223372036854775808 ≤ n) (n1 : n ≤ 9223372036854775807) (d0 : -9223372036854775808 ≤ d) (d1 : d ≤ 9223372036854775807) (hd : d ≠ 0) (hn : n ≤ 0) (hdn : d ≤ 0) : Calls Try.prog 53 #[.int .i64 n, .int .i64 d] w fun e w' => e = .returned (.tuple #[.agg #[.int .i64 (mkN n d), .int .i64 (mkD n d)], .int .i64 (mkE n d)]) ∧ Ext w w' := by
  have hgp := gg_pos (num := n) hd
  have hnl := aN_le n d
  have hdl := aD_le n d
  have hdp := aD_pos (num := n) hd
  obtain ⟨y1, y2⟩ := tdiv_neg_g n d hd
  have tz : (d == 0) = false := beq_eq_false_iff_ne.2 hd
  have t3 : decide (0 < n) = false := decide_eq_false (by omega)
  have t4 : decide (0 < d) = false := decide_eq_false (by omega)
  have HZ : Hid (Ext w (w.alloc (.cells #[.int .i64 0, .int .i64 0] 25))) := (Upd.refl _ w).alloc _
  have HB0 := Lib.hid (alloc0 w (.cells #[.int .i64 0, .int .i64 0] 25))
  have HG : Hid (gg n d = Nat.gcd n.natAbs d.natAbs) := rfl
  have Y1 := Lib.hid y1
  have Y2 := Lib.hid y2
  clear y1 y2
  go_enter Try.func53, Try.ntmps53
  go_wp2_with fail
  go_loopg [6, 7] d.natAbs (fun gk av bv wr => ∃ x y : Nat, av = .int .i64 (-(x : Int)) ∧ bv = .int .i64 (-(y : Int)) ∧ y = gk ∧ x ≤ 9223372036854775808 ∧ y ≤ 9223372036854775808 ∧ Hid (Ext (w.alloc (.cells #[.int .i64 0, .int .i64 0] 25)) wr) ∧ Hid (gg n d = Nat.gcd x y))
  case atStart => exact ⟨n.natAbs, d.natAbs, by congr 1; omega, by congr 1; omega, rfl, by omega, by omega, Upd.refl _ _, HG.out⟩
  case round =>
    obtain ⟨x, y, rfl, rfl, rfl, hx, hy, HE, Hg⟩ := hrel
    by_cases h : y = 0
    · subst h
      have hg : gg n d = x := by rw [Hg.out]; exact Nat.gcd_zero_right x
      have q1 := Y1.out
      have q2 := Y2.out
      rw [hg] at q1 q2
      have hx0 : 0 < x := by omega
      have hx1 : ¬ (-(x : Int) = 0) := by omega
      have hx2 : (-(x : Int) == 0) = false := beq_eq_false_iff_ne.2 hx1
      have hx3 : ¬ (x = 0) := by omega
      clear Hg HG
      have hb1 : -9223372036854775808 ≤ -(sg n (aN n d)) ∧ -(sg n (aN n d)) ≤ 9223372036854775808 := by unfold sg; split <;> omega
      have hb2 : -9223372036854775808 ≤ -(sg d (aD n d)) ∧ -(sg d (aD n d)) ≤ 9223372036854775808 := by unfold sg; split <;> omega
      have w1 := wrap64_W _ hb1.1 hb1.2
      have w2 := wrap64_W _ hb2.1 hb2.2
      obtain ⟨N1, hN1⟩ : ∃ N1, wrap64 (-(sg n (aN n d))) = N1 := ⟨_, rfl⟩
      obtain ⟨D1, hD1⟩ : ∃ D1, wrap64 (-(sg d (aD n d))) = D1 := ⟨_, rfl⟩
      rw [hN1] at w1
      rw [hD1] at w2
      have w1' := w1
      have w2' := w2
      unfold W64 at w1' w2'
      have w3 := wrap64_W (-N1) (by omega) (by omega)
      have w4 := wrap64_W (-D1) (by omega) (by omega)
      obtain ⟨N2, hN2⟩ : ∃ N2, wrap64 (-N1) = N2 := ⟨_, rfl⟩
      obtain ⟨D2, hD2⟩ : ∃ D2, wrap64 (-D1) = D2 := ⟨_, rfl⟩
      rw [hN2] at w3
      rw [hD2] at w4
      have hpair := ref_pair n d N1 D1 N2 D2 n0 n1 d0 d1 hd w1 w2 w3 w4
      clear w1 w2 w3 w4 w1' w2' hb1 hb2 hnl hdl hdp hgp
      generalize sg n (aN n d) = SN at *
      generalize sg d (aD n d) = SD at *
      have hbl := HE.out.heap HB0.out (fun h => h)
      have c0 := cellRow hbl 0 _ rfl
      have c1 := cellRow hbl 1 _ rfl
      have f0 := frozenRow hbl 0
      have f1 := frozenRow hbl 1
      have HEW := Lib.hid (HZ.out.ext HE.out)
      clear hbl Y1 Y2 HZ HB0 HE
      by_cases hDD : D1 < 0
      · have t9 : decide (D1 < 0) = true := decide_eq_true hDD
        have hmk := mk_of hd (hpair.1 hDD)
        clear hpair hDD
        rcases (by omega : N2 < -1073741824 ∨ (-1073741824 ≤ N2 ∧ 1073741824 < N2) ∨ (-1073741824 ≤ N2 ∧ N2 ≤ 1073741824 ∧ D2 < 1) ∨ (-1073741824 ≤ N2 ∧ N2 ≤ 1073741824 ∧ 1 ≤ D2 ∧ 1073741824 < D2) ∨ (-1073741824 ≤ N2 ∧ N2 ≤ 1073741824 ∧ 1 ≤ D2 ∧ D2 ≤ 1073741824)) with h1 | ⟨h1, h2⟩ | ⟨h1, h2, h3⟩ | ⟨h1, h2, h3, h4⟩ | ⟨h1, h2, h3, h4⟩
        · have s0 : decide (N2 < -1073741824) = true := decide_eq_true (by omega)
          have hbb : badB N2 D2 = true := by unfold badB; simp only [Bool.or_eq_true, decide_eq_true_eq]; omega
          obtain ⟨e1, e2, e3⟩ := hmk.1 hbb
          have E1 := Lib.hid e1
          have E2 := Lib.hid e2
          have E3 := Lib.hid e3
          clear e1 e2 e3 hbb hmk
          go_wp2_with fail
          refine bodyPost_ret (v := .tuple #[.agg #[.int .i64 0, .int .i64 0], .int .i64 5]) (by simp [results, Try.results53, go_sem, c0, c1]) rfl ⟨by rw [E1.out, E2.out, E3.out], ?_⟩
          first | exact (HEW.out.setNew (Nat.le_refl _) _).setNew (Nat.le_refl _) _ | exact HEW.out
        · have s0 : decide (N2 < -1073741824) = false := decide_eq_false (by omega)
          have s1 : decide ((1073741824 : Int) < N2) = true := decide_eq_true (by omega)
          have hbb : badB N2 D2 = true := by unfold badB; simp only [Bool.or_eq_true, decide_eq_true_eq]; omega
          obtain ⟨e1, e2, e3⟩ := hmk.1 hbb
          have E1 := Lib.hid e1
          have E2 := Lib.hid e2
          have E3 := Lib.hid e3
          clear e1 e2 e3 hbb hmk
          go_wp2_with fail
          refine bodyPost_ret (v := .tuple #[.agg #[.int .i64 0, .int .i64 0], .int .i64 5]) (by simp [results, Try.results53, go_sem, c0, c1]) rfl ⟨by rw [E1.out, E2.out, E3.out], ?_⟩
          first | exact (HEW.out.setNew (Nat.le_refl _) _).setNew (Nat.le_refl _) _ | exact HEW.out
        · have s0 : decide (N2 < -1073741824) = false := decide_eq_false (by omega)
          have s1 : decide ((1073741824 : Int) < N2) = false := decide_eq_false (by omega)
          have s2 : decide (D2 < 1) = true := decide_eq_true (by omega)
          have hbb : badB N2 D2 = true := by unfold badB; simp only [Bool.or_eq_true, decide_eq_true_eq]; omega
          obtain ⟨e1, e2, e3⟩ := hmk.1 hbb
          have E1 := Lib.hid e1
          have E2 := Lib.hid e2
          have E3 := Lib.hid e3
          clear e1 e2 e3 hbb hmk
          go_wp2_with fail
          refine bodyPost_ret (v := .tuple #[.agg #[.int .i64 0, .int .i64 0], .int .i64 5]) (by simp [results, Try.results53, go_sem, c0, c1]) rfl ⟨by rw [E1.out, E2.out, E3.out], ?_⟩
          first | exact (HEW.out.setNew (Nat.le_refl _) _).setNew (Nat.le_refl _) _ | exact HEW.out
        · have s0 : decide (N2 < -1073741824) = false := decide_eq_false (by omega)
          have s1 : decide ((1073741824 : Int) < N2) = false := decide_eq_false (by omega)
          have s2 : decide (D2 < 1) = false := decide_eq_false (by omega)
          have s3 : decide ((1073741824 : Int) < D2) = true := decide_eq_true (by omega)
          have hbb : badB N2 D2 = true := by unfold badB; simp only [Bool.or_eq_true, decide_eq_true_eq]; omega
          obtain ⟨e1, e2, e3⟩ := hmk.1 hbb
          have E1 := Lib.hid e1
          have E2 := Lib.hid e2
          have E3 := Lib.hid e3
          clear e1 e2 e3 hbb hmk
          go_wp2_with fail
          refine bodyPost_ret (v := .tuple #[.agg #[.int .i64 0, .int .i64 0], .int .i64 5]) (by simp [results, Try.results53, go_sem, c0, c1]) rfl ⟨by rw [E1.out, E2.out, E3.out], ?_⟩
          first | exact (HEW.out.setNew (Nat.le_refl _) _).setNew (Nat.le_refl _) _ | exact HEW.out
        · have s0 : decide (N2 < -1073741824) = false := decide_eq_false (by omega)
          have s1 : decide ((1073741824 : Int) < N2) = false := decide_eq_false (by omega)
          have s2 : decide (D2 < 1) = false := decide_eq_false (by omega)
          have s3 : decide ((1073741824 : Int) < D2) = false := decide_eq_false (by omega)
          have hbb : badB N2 D2 = false := by unfold badB; simp only [Bool.or_eq_false_iff, decide_eq_false_iff_not]; omega
          obtain ⟨e1, e2, e3⟩ := hmk.2 hbb
          have E1 := Lib.hid e1
          have E2 := Lib.hid e2
          have E3 := Lib.hid e3
          clear e1 e2 e3 hbb hmk
          go_wp2_with fail
          refine bodyPost_ret (v := .tuple #[.agg #[.int .i64 N2, .int .i64 D2], .int .i64 0]) (by simp [results, Try.results53, go_sem, c0, c1]) rfl ⟨by rw [E1.out, E2.out, E3.out], ?_⟩
          first | exact (HEW.out.setNew (Nat.le_refl _) _).setNew (Nat.le_refl _) _ | exact HEW.out
      · have t9 : decide (D1 < 0) = false := decide_eq_false hDD
        have hmk := mk_of hd (hpair.2 (by omega))
        clear hpair hDD
        rcases (by omega : N1 < -1073741824 ∨ (-1073741824 ≤ N1 ∧ 1073741824 < N1) ∨ (-1073741824 ≤ N1 ∧ N1 ≤ 1073741824 ∧ D1 < 1) ∨ (-1073741824 ≤ N1 ∧ N1 ≤ 1073741824 ∧ 1 ≤ D1 ∧ 1073741824 < D1) ∨ (-1073741824 ≤ N1 ∧ N1 ≤ 1073741824 ∧ 1 ≤ D1 ∧ D1 ≤ 1073741824)) with h1 | ⟨h1, h2⟩ | ⟨h1, h2, h3⟩ | ⟨h1, h2, h3, h4⟩ | ⟨h1, h2, h3, h4⟩
        · have s0 : decide (N1 < -1073741824) = true := decide_eq_true (by omega)
          have hbb : badB N1 D1 = true := by unfold badB; simp only [Bool.or_eq_true, decide_eq_true_eq]; omega
          obtain ⟨e1, e2, e3⟩ := hmk.1 hbb
          have E1 := Lib.hid e1
          have E2 := Lib.hid e2
          have E3 := Lib.hid e3
          clear e1 e2 e3 hbb hmk
          go_wp2_with fail
          refine bodyPost_ret (v := .tuple #[.agg #[.int .i64 0, .int .i64 0], .int .i64 5]) (by simp [results, Try.results53, go_sem, c0, c1]) rfl ⟨by rw [E1.out, E2.out, E3.out], ?_⟩
          first | exact (HEW.out.setNew (Nat.le_refl _) _).setNew (Nat.le_refl _) _ | exact HEW.out
        · have s0 : decide (N1 < -1073741824) = false := decide_eq_false (by omega)
          have s1 : decide ((1073741824 : Int) < N1) = true := decide_eq_true (by omega)
          have hbb : badB N1 D1 = true := by unfold badB; simp only [Bool.or_eq_true, decide_eq_true_eq]; omega
          obtain ⟨e1, e2, e3⟩ := hmk.1 hbb
          have E1 := Lib.hid e1
          have E2 := Lib.hid e2
          have E3 := Lib.hid e3
          clear e1 e2 e3 hbb hmk
          go_wp2_with fail
          refine bodyPost_ret (v := .tuple #[.agg #[.int .i64 0, .int .i64 0], .int .i64 5]) (by simp [results, Try.results53, go_sem, c0, c1]) rfl ⟨by rw [E1.out, E2.out, E3.out], ?_⟩
          first | exact (HEW.out.setNew (Nat.le_refl _) _).setNew (Nat.le_refl _) _ | exact HEW.out
        · have s0 : decide (N1 < -1073741824) = false := decide_eq_false (by omega)
          have s1 : decide ((1073741824 : Int) < N1) = false := decide_eq_false (by omega)
          have s2 : decide (D1 < 1) = true := decide_eq_true (by omega)
          have hbb : badB N1 D1 = true := by unfold badB; simp only [Bool.or_eq_true, decide_eq_true_eq]; omega
          obtain ⟨e1, e2, e3⟩ := hmk.1 hbb
          have E1 := Lib.hid e1
          have E2 := Lib.hid e2
          have E3 := Lib.hid e3
          clear e1 e2 e3 hbb hmk
          go_wp2_with fail
          refine bodyPost_ret (v := .tuple #[.agg #[.int .i64 0, .int .i64 0], .int .i64 5]) (by simp [results, Try.results53, go_sem, c0, c1]) rfl ⟨by rw [E1.out, E2.out, E3.out], ?_⟩
          first | exact (HEW.out.setNew (Nat.le_refl _) _).setNew (Nat.le_refl _) _ | exact HEW.out
        · have s0 : decide (N1 < -1073741824) = false := decide_eq_false (by omega)
          have s1 : decide ((1073741824 : Int) < N1) = false := decide_eq_false (by omega)
          have s2 : decide (D1 < 1) = false := decide_eq_false (by omega)
          have s3 : decide ((1073741824 : Int) < D1) = true := decide_eq_true (by omega)
          have hbb : badB N1 D1 = true := by unfold badB; simp only [Bool.or_eq_true, decide_eq_true_eq]; omega
          obtain ⟨e1, e2, e3⟩ := hmk.1 hbb
          have E1 := Lib.hid e1
          have E2 := Lib.hid e2
          have E3 := Lib.hid e3
          clear e1 e2 e3 hbb hmk
          go_wp2_with fail
          refine bodyPost_ret (v := .tuple #[.agg #[.int .i64 0, .int .i64 0], .int .i64 5]) (by simp [results, Try.results53, go_sem, c0, c1]) rfl ⟨by rw [E1.out, E2.out, E3.out], ?_⟩
          first | exact (HEW.out.setNew (Nat.le_refl _) _).setNew (Nat.le_refl _) _ | exact HEW.out
        · have s0 : decide (N1 < -1073741824) = false := decide_eq_false (by omega)
          have s1 : decide ((1073741824 : Int) < N1) = false := decide_eq_false (by omega)
          have s2 : decide (D1 < 1) = false := decide_eq_false (by omega)
          have s3 : decide ((1073741824 : Int) < D1) = false := decide_eq_false (by omega)
          have hbb : badB N1 D1 = false := by unfold badB; simp only [Bool.or_eq_false_iff, decide_eq_false_iff_not]; omega
          obtain ⟨e1, e2, e3⟩ := hmk.2 hbb
          have E1 := Lib.hid e1
          have E2 := Lib.hid e2
          have E3 := Lib.hid e3
          clear e1 e2 e3 hbb hmk
          go_wp2_with fail
          refine bodyPost_ret (v := .tuple #[.agg #[.int .i64 N1, .int .i64 D1], .int .i64 0]) (by simp [results, Try.results53, go_sem, c0, c1]) rfl ⟨by rw [E1.out, E2.out, E3.out], ?_⟩
          first | exact (HEW.out.setNew (Nat.le_refl _) _).setNew (Nat.le_refl _) _ | exact HEW.out
    · have t1 : (-(y : Int) != 0) = true := by simp; omega
      have t2 : ¬ (-(y : Int) = 0) := by omega
      have t3 : (-(y : Int) == 0) = false := beq_eq_false_iff_ne.2 t2
      have t5 : ¬ (y = 0) := h
      have m2 : Int.tmod (-(x : Int)) (-(y : Int)) = -((x % y : Nat) : Int) := by rw [Int.tmod_neg, Int.neg_tmod, Int.tmod_eq_emod_of_nonneg (by omega)]; simp
      have m4 : Int.tmod (x : Int) (y : Int) = ((x % y : Nat) : Int) := by rw [Int.tmod_eq_emod_of_nonneg (by omega)]; simp
      have hlt := Nat.mod_lt x (show 0 < y by omega)
      have hg2 : gg n d = Nat.gcd y (x % y) := by rw [Hg.out, Nat.gcd_comm x y, Nat.gcd_rec y x, Nat.gcd_comm]
      have HG2 := Lib.hid hg2
      clear hg2 Hg HG
      generalize x % y = z at *
      go_wp2_with fail
      go_quiet (fail)
      go_wp2_with fail
      go_roundg z
      case measure => exact hlt
      case rel => exact ⟨y, z, rfl, rfl, rfl, hy, by omega, HE.out.drewN' _, HG2.out⟩

set_option maxRecDepth 100000 in
set_option maxHeartbeats 2000000 in
theorem rmk01 (n d : Int) (w : World) (n0 : -9223372036854775808 ≤ n) (n1 : n ≤ 9223372036854775807) (d0 : -9223372036854775808 ≤ d) (d1 : d ≤ 9223372036854775807) (hd : d ≠ 0) (hn : n ≤ 0) (hdn : 0 < d) : Calls Try.prog 53 #[.int .i64 n, .int .i64 d] w fun e w' => e = .returned (.tuple #[.agg #[.int .i64 (mkN n d), .int .i64 (mkD n d)], .int .i64 (mkE n d)]) ∧ Ext w w' := by
  have hgp := gg_pos (num := n) hd
  have hnl := aN_le n d
  have hdl := aD_le n d
  have hdp := aD_pos (num := n) hd
  obtain ⟨y1, y2⟩ := tdiv_neg_g n d hd
  have tz : (d == 0) = false := beq_eq_false_iff_ne.2 hd
  have t3 : decide (0 < n) = false := decide_eq_false (by omega)
  have t4 : decide (0 < d) = true := decide_eq_true (by omega)
  have HZ : Hid (Ext w (w.alloc (.cells #[.int .i64 0, .int .i64 0] 25))) := (Upd.refl _ w).alloc _
  have HB0 := Lib.hid (alloc0 w (.cells #[.int .i64 0, .int .i64 0] 25))
  have HG : Hid (gg n d = Nat.gcd n.natAbs d.natAbs) := rfl
  have Y1 := Lib.hid y1
  have Y2 := Lib.hid y2
  clear y1 y2
  go_enter Try.func53, Try.ntmps53
  go_wp2_with fail
  go_loopg [6, 7] d.natAbs (fun gk av bv wr => ∃ x y : Nat, av = .int .i64 (-(x : Int)) ∧ bv = .int .i64 (-(y : Int)) ∧ y = gk ∧ x ≤ 9223372036854775808 ∧ y ≤ 9223372036854775808 ∧ Hid (Ext (w.alloc (.cells #[.int .i64 0, .int .i64 0] 25)) wr) ∧ Hid (gg n d = Nat.gcd x y))
  case atStart => exact ⟨n.natAbs, d.natAbs, by congr 1; omega, by congr 1; omega, rfl, by omega, by omega, Upd.refl _ _, HG.out⟩
  case round =>
    obtain ⟨x, y, rfl, rfl, rfl, hx, hy, HE, Hg⟩ := hrel
    by_cases h : y = 0
    · subst h
      have hg : gg n d = x := by rw [Hg.out]; exact Nat.gcd_zero_right x
      have q1 := Y1.out
      have q2 := Y2.out
      rw [hg] at q1 q2
      have hx0 : 0 < x := by omega
      have hx1 : ¬ (-(x : Int) = 0) := by omega
      have hx2 : (-(x : Int) == 0) = false := beq_eq_false_iff_ne.2 hx1
      have hx3 : ¬ (x = 0) := by omega
      clear Hg HG
      have hb1 : -9223372036854775808 ≤ -(sg n (aN n d)) ∧ -(sg n (aN n d)) ≤ 9223372036854775808 := by unfold sg; split <;> omega
      have hb2 : -9223372036854775808 ≤ -(sg d (aD n d)) ∧ -(sg d (aD n d)) ≤ 9223372036854775808 := by unfold sg; split <;> omega
      have w1 := wrap64_W _ hb1.1 hb1.2
      have w2 := wrap64_W _ hb2.1 hb2.2
      obtain ⟨N1, hN1⟩ : ∃ N1, wrap64 (-(sg n (aN n d))) = N1 := ⟨_, rfl⟩
      obtain ⟨D1, hD1⟩ : ∃ D1, wrap64 (-(sg d (aD n d))) = D1 := ⟨_, rfl⟩
      rw [hN1] at w1
      rw [hD1] at w2
      have w1' := w1
      have w2' := w2
      unfold W64 at w1' w2'
      have w3 := wrap64_W (-N1) (by omega) (by omega)
      have w4 := wrap64_W (-D1) (by omega) (by omega)
      obtain ⟨N2, hN2⟩ : ∃ N2, wrap64 (-N1) = N2 := ⟨_, rfl⟩
      obtain ⟨D2, hD2⟩ : ∃ D2, wrap64 (-D1) = D2 := ⟨_, rfl⟩
      rw [hN2] at w3
      rw [hD2] at w4
      have hpair := ref_pair n d N1 D1 N2 D2 n0 n1 d0 d1 hd w1 w2 w3 w4
      clear w1 w2 w3 w4 w1' w2' hb1 hb2 hnl hdl hdp hgp
      generalize sg n (aN n d) = SN at *
      generalize sg d (aD n d) = SD at *
      have hbl := HE.out.heap HB0.out (fun h => h)
      have c0 := cellRow hbl 0 _ rfl
      have c1 := cellRow hbl 1 _ rfl
      have f0 := frozenRow hbl 0
      have f1 := frozenRow hbl 1
      have HEW := Lib.hid (HZ.out.ext HE.out)
      clear hbl Y1 Y2 HZ HB0 HE
      by_cases hDD : D1 < 0
      · have t9 : decide (D1 < 0) = true := decide_eq_true hDD
        have hmk := mk_of hd (hpair.1 hDD)
        clear hpair hDD
        rcases (by omega : N2 < -1073741824 ∨ (-1073741824 ≤ N2 ∧ 1073741824 < N2) ∨ (-1073741824 ≤ N2 ∧ N2 ≤ 1073741824 ∧ D2 < 1) ∨ (-1073741824 ≤ N2 ∧ N2 ≤ 1073741824 ∧ 1 ≤ D2 ∧ 1073741824 < D2) ∨ (-1073741824 ≤ N2 ∧ N2 ≤ 1073741824 ∧ 1 ≤ D2 ∧ D2 ≤ 1073741824)) with h1 | ⟨h1, h2⟩ | ⟨h1, h2, h3⟩ | ⟨h1, h2, h3, h4⟩ | ⟨h1, h2, h3, h4⟩
        · have s0 : decide (N2 < -1073741824) = true := decide_eq_true (by omega)
          have hbb : badB N2 D2 = true := by unfold badB; simp only [Bool.or_eq_true, decide_eq_true_eq]; omega
          obtain ⟨e1, e2, e3⟩ := hmk.1 hbb
          have E1 := Lib.hid e1
          have E2 := Lib.hid e2
          have E3 := Lib.hid e3
          clear e1 e2 e3 hbb hmk
          go_wp2_with fail
          refine bodyPost_ret (v := .tuple #[.agg #[.int .i64 0, .int .i64 0], .int .i64 5]) (by simp [results, Try.results53, go_sem, c0, c1]) rfl ⟨by rw [E1.out, E2.out, E3.out], ?_⟩
          first | exact (HEW.out.setNew (Nat.le_refl _) _).setNew (Nat.le_refl _) _ | exact HEW.out
        · have s0 : decide (N2 < -1073741824) = false := decide_eq_false (by omega)
          have s1 : decide ((1073741824 : Int) < N2) = true := decide_eq_true (by omega)
          have hbb : badB N2 D2 = true := by unfold badB; simp only [Bool.or_eq_true, decide_eq_true_eq]; omega
          obtain ⟨e1, e2, e3⟩ := hmk.1 hbb
          have E1 := Lib.hid e1
          have E2 := Lib.hid e2
          have E3 := Lib.hid e3
          clear e1 e2 e3 hbb hmk
          go_wp2_with fail
          refine bodyPost_ret (v := .tuple #[.agg #[.int .i64 0, .int .i64 0], .int .i64 5]) (by simp [results, Try.results53, go_sem, c0, c1]) rfl ⟨by rw [E1.out, E2.out, E3.out], ?_⟩
          first | exact (HEW.out.setNew (Nat.le_refl _) _).setNew (Nat.le_refl _) _ | exact HEW.out
        · have s0 : decide (N2 < -1073741824) = false := decide_eq_false (by omega)
          have s1 : decide ((1073741824 : Int) < N2) = false := decide_eq_false (by omega)
          have s2 : decide (D2 < 1) = true := decide_eq_true (by omega)
          have hbb : badB N2 D2 = true := by unfold badB; simp only [Bool.or_eq_true, decide_eq_true_eq]; omega
          obtain ⟨e1, e2, e3⟩ := hmk.1 hbb
          have E1 := Lib.hid e1
          have E2 := Lib.hid e2
          have E3 := Lib.hid e3
          clear e1 e2 e3 hbb hmk
          go_wp2_with fail
          refine bodyPost_ret (v := .tuple #[.agg #[.int .i64 0, .int .i64 0], .int .i64 5]) (by simp [results, Try.results53, go_sem, c0, c1]) rfl ⟨by rw [E1.out, E2.out, E3.out], ?_⟩
          first | exact (HEW.out.setNew (Nat.le_refl _) _).setNew (Nat.le_refl _) _ | exact HEW.out
        · have s0 : decide (N2 < -1073741824) = false := decide_eq_false (by omega)
          have s1 : decide ((1073741824 : Int) < N2) = false := decide_eq_false (by omega)
          have s2 : decide (D2 < 1) = false := decide_eq_false (by omega)
          have s3 : decide ((1073741824 : Int) < D2) = true := decide_eq_true (by omega)
          have hbb : badB N2 D2 = true := by unfold badB; simp only [Bool.or_eq_true, decide_eq_true_eq]; omega
          obtain ⟨e1, e2, e3⟩ := hmk.1 hbb
          have E1 := Lib.hid e1
          have E2 := Lib.hid e2
          have E3 := Lib.hid e3
          clear e1 e2 e3 hbb hmk
          go_wp2_with fail
          refine bodyPost_ret (v := .tuple #[.agg #[.int .i64 0, .int .i64 0], .int .i64 5]) (by simp [results, Try.results53, go_sem, c0, c1]) rfl ⟨by rw [E1.out, E2.out, E3.out], ?_⟩
          first | exact (HEW.out.setNew (Nat.le_refl _) _).setNew (Nat.le_refl _) _ | exact HEW.out
        · have s0 : decide (N2 < -1073741824) = false := decide_eq_false (by omega)
          have s1 : decide ((1073741824 : Int) < N2) = false := decide_eq_false (by omega)
          have s2 : decide (D2 < 1) = false := decide_eq_false (by omega)
          have s3 : decide ((1073741824 : Int) < D2) = false := decide_eq_false (by omega)
          have hbb : badB N2 D2 = false := by unfold badB; simp only [Bool.or_eq_false_iff, decide_eq_false_iff_not]; omega
          obtain ⟨e1, e2, e3⟩ := hmk.2 hbb
          have E1 := Lib.hid e1
          have E2 := Lib.hid e2
          have E3 := Lib.hid e3
          clear e1 e2 e3 hbb hmk
          go_wp2_with fail
          refine bodyPost_ret (v := .tuple #[.agg #[.int .i64 N2, .int .i64 D2], .int .i64 0]) (by simp [results, Try.results53, go_sem, c0, c1]) rfl ⟨by rw [E1.out, E2.out, E3.out], ?_⟩
          first | exact (HEW.out.setNew (Nat.le_refl _) _).setNew (Nat.le_refl _) _ | exact HEW.out
      · have t9 : decide (D1 < 0) = false := decide_eq_false hDD
        have hmk := mk_of hd (hpair.2 (by omega))
        clear hpair hDD
        rcases (by omega : N1 < -1073741824 ∨ (-1073741824 ≤ N1 ∧ 1073741824 < N1) ∨ (-1073741824 ≤ N1 ∧ N1 ≤ 1073741824 ∧ D1 < 1) ∨ (-1073741824 ≤ N1 ∧ N1 ≤ 1073741824 ∧ 1 ≤ D1 ∧ 1073741824 < D1) ∨ (-1073741824 ≤ N1 ∧ N1 ≤ 1073741824 ∧ 1 ≤ D1 ∧ D1 ≤ 1073741824)) with h1 | ⟨h1, h2⟩ | ⟨h1, h2, h3⟩ | ⟨h1, h2, h3, h4⟩ | ⟨h1, h2, h3, h4⟩
        · have s0 : decide (N1 < -1073741824) = true := decide_eq_true (by omega)
          have hbb : badB N1 D1 = true := by unfold badB; simp only [Bool.or_eq_true, decide_eq_true_eq]; omega
          obtain ⟨e1, e2, e3⟩ := hmk.1 hbb
          have E1 := Lib.hid e1
          have E2 := Lib.hid e2
          have E3 := Lib.hid e3
          clear e1 e2 e3 hbb hmk
          go_wp2_with fail
          refine bodyPost_ret (v := .tuple #[.agg #[.int .i64 0, .int .i64 0], .int .i64 5]) (by simp [results, Try.results53, go_sem, c0, c1]) rfl ⟨by rw [E1.out, E2.out, E3.out], ?_⟩
          first | exact (HEW.out.setNew (Nat.le_refl _) _).setNew (Nat.le_refl _) _ | exact HEW.out
        · have s0 : decide (N1 < -1073741824) = false := decide_eq_false (by omega)
          have s1 : decide ((1073741824 : Int) < N1) = true := decide_eq_true (by omega)
          have hbb : badB N1 D1 = true := by unfold badB; simp only [Bool.or_eq_true, decide_eq_true_eq]; omega
          obtain ⟨e1, e2, e3⟩ := hmk.1 hbb
          have E1 := Lib.hid e1
          have E2 := Lib.hid e2
          have E3 := Lib.hid e3
          clear e1 e2 e3 hbb hmk
          go_wp2_with fail
          refine bodyPost_ret (v := .tuple #[.agg #[.int .i64 0, .int .i64 0], .int .i64 5]) (by simp [results, Try.results53, go_sem, c0, c1]) rfl ⟨by rw [E1.out, E2.out, E3.out], ?_⟩
          first | exact (HEW.out.setNew (Nat.le_refl _) _).setNew (Nat.le_refl _) _ | exact HEW.out
        · have s0 : decide (N1 < -1073741824) = false := decide_eq_false (by omega)
          have s1 : decide ((1073741824 : Int) < N1) = false := decide_eq_false (by omega)
          have s2 : decide (D1 < 1) = true := decide_eq_true (by omega)
          have hbb : badB N1 D1 = true := by unfold badB; simp only [Bool.or_eq_true, decide_eq_true_eq]; omega
          obtain ⟨e1, e2, e3⟩ := hmk.1 hbb
          have E1 := Lib.hid e1
          have E2 := Lib.hid e2
          have E3 := Lib.hid e3
          clear e1 e2 e3 hbb hmk
          go_wp2_with fail
          refine bodyPost_ret (v := .tuple #[.agg #[.int .i64 0, .int .i64 0], .int .i64 5]) (by simp [results, Try.results53, go_sem, c0, c1]) rfl ⟨by rw [E1.out, E2.out, E3.out], ?_⟩
          first | exact (HEW.out.setNew (Nat.le_refl _) _).setNew (Nat.le_refl _) _ | exact HEW.out
        · have s0 : decide (N1 < -1073741824) = false := decide_eq_false (by omega)
          have s1 : decide ((1073741824 : Int) < N1) = false := decide_eq_false (by omega)
          have s2 : decide (D1 < 1) = false := decide_eq_false (by omega)
          have s3 : decide ((1073741824 : Int) < D1) = true := decide_eq_true (by omega)
          have hbb : badB N1 D1 = true := by unfold badB; simp only [Bool.or_eq_true, decide_eq_true_eq]; omega
          obtain ⟨e1, e2, e3⟩ := hmk.1 hbb
          have E1 := Lib.hid e1
          have E2 := Lib.hid e2
          have E3 := Lib.hid e3
          clear e1 e2 e3 hbb hmk
          go_wp2_with fail
          refine bodyPost_ret (v := .tuple #[.agg #[.int .i64 0, .int .i64 0], .int .i64 5]) (by simp [results, Try.results53, go_sem, c0, c1]) rfl ⟨by rw [E1.out, E2.out, E3.out], ?_⟩
          first | exact (HEW.out.setNew (Nat.le_refl _) _).setNew (Nat.le_refl _) _ | exact HEW.out
        · have s0 : decide (N1 < -1073741824) = false := decide_eq_false (by omega)
          have s1 : decide ((1073741824 : Int) < N1) = false := decide_eq_false (by omega)
          have s2 : decide (D1 < 1) = false := decide_eq_false (by omega)
          have s3 : decide ((1073741824 : Int) < D1) = false := decide_eq_false (by omega)
          have hbb : badB N1 D1 = false := by unfold badB; simp only [Bool.or_eq_false_iff, decide_eq_false_iff_not]; omega
          obtain ⟨e1, e2, e3⟩ := hmk.2 hbb
          have E1 := Lib.hid e1
          have E2 := Lib.hid e2
          have E3 := Lib.hid e3
          clear e1 e2 e3 hbb hmk
          go_wp2_with fail
          refine bodyPost_ret (v := .tuple #[.agg #[.int .i64 N1, .int .i64 D1], .int .i64 0]) (by simp [results, Try.results53, go_sem, c0, c1]) rfl ⟨by rw [E1.out, E2.out, E3.out], ?_⟩
          first | exact (HEW.out.setNew (Nat.le_refl _) _).setNew (Nat.le_refl _) _ | exact HEW.out
    · have t1 : (-(y : Int) != 0) = true := by simp; omega
      have t2 : ¬ (-(y : Int) = 0) := by omega
      have t3 : (-(y : Int) == 0) = false := beq_eq_false_iff_ne.2 t2
      have t5 : ¬ (y = 0) := h
      have m2 : Int.tmod (-(x : Int)) (-(y : Int)) = -((x % y : Nat) : Int) := by rw [Int.tmod_neg, Int.neg_tmod, Int.tmod_eq_emod_of_nonneg (by omega)]; simp
      have m4 : Int.tmod (x : Int) (y : Int) = ((x % y : Nat) : Int) := by rw [Int.tmod_eq_emod_of_nonneg (by omega)]; simp
      have hlt := Nat.mod_lt x (show 0 < y by omega)
      have hg2 : gg n d = Nat.gcd y (x % y) := by rw [Hg.out, Nat.gcd_comm x y, Nat.gcd_rec y x, Nat.gcd_comm]
      have HG2 := Lib.hid hg2
      clear hg2 Hg HG
      generalize x % y = z at *
      go_wp2_with fail
      go_quiet (fail)
      go_wp2_with fail
      go_roundg z
      case measure => exact hlt
      case rel => exact ⟨y, z, rfl, rfl, rfl, hy, by omega, HE.out.drewN' _, HG2.out⟩

set_option maxRecDepth 100000 in
set_option maxHeartbeats 2000000 in
theorem rmk10 (n d : Int) (w : World) (n0 : -9223372036854775808 ≤ n) (n1 : n ≤ 9223372036854775807) (d0 : -9223372036854775808 ≤ d) (d1 : d ≤ 9223372036854775807) (hd : d ≠ 0) (hn : 0 < n) (hdn : d ≤ 0) : Calls Try.prog 53 #[.int .i64 n, .int .i64 d] w fun e w' => e = .returned (.tuple #[.agg #[.int .i64 (mkN n d), .int .i64 (mkD n d)], .int .i64 (mkE n d)]) ∧ Ext w w' := by
  have hgp := gg_pos (num := n) hd
  have hnl := aN_le n d
  have hdl := aD_le n d
  have hdp := aD_pos (num := n) hd
  obtain ⟨y1, y2⟩ := tdiv_neg_g n d hd
  have tz : (d == 0) = false := beq_eq_false_iff_ne.2 hd
  have t3 : decide (0 < n) = true := decide_eq_true (by omega)
  have t4 : decide (0 < d) = false := decide_eq_false (by omega)
  have HZ : Hid (Ext w (w.alloc (.cells #[.int .i64 0, .int .i64 0] 25))) := (Upd.refl _ w).alloc _
  have HB0 := Lib.hid (alloc0 w (.cells #[.int .i64 0, .int .i64 0] 25))
  have HG : Hid (gg n d = Nat.gcd n.natAbs d.natAbs) := rfl
  have Y1 := Lib.hid y1
  have Y2 := Lib.hid y2
  clear y1 y2
  go_enter Try.func53, Try.ntmps53
  go_wp2_with fail
  go_loopg [6, 7] d.natAbs (fun gk av bv wr => ∃ x y : Nat, av = .int .i64 (-(x : Int)) ∧ bv = .int .i64 (-(y : Int)) ∧ y = gk ∧ x ≤ 9223372036854775808 ∧ y ≤ 9223372036854775808 ∧ Hid (Ext (w.alloc (.cells #[.int .i64 0, .int .i64 0] 25)) wr) ∧ Hid (gg n d = Nat.gcd x y))
  case atStart => exact ⟨n.natAbs, d.natAbs, by congr 1; omega, by congr 1; omega, rfl, by omega, by omega, Upd.refl _ _, HG.out⟩
  case round =>
    obtain ⟨x, y, rfl, rfl, rfl, hx, hy, HE, Hg⟩ := hrel
    by_cases h : y = 0
    · subst h
      have hg : gg n d = x := by rw [Hg.out]; exact Nat.gcd_zero_right x
      have q1 := Y1.out
      have q2 := Y2.out
      rw [hg] at q1 q2
      have hx0 : 0 < x := by omega
      have hx1 : ¬ (-(x : Int) = 0) := by omega
      have hx2 : (-(x : Int) == 0) = false := beq_eq_false_iff_ne.2 hx1
      have hx3 : ¬ (x = 0) := by omega
      clear Hg HG
      have hb1 : -9223372036854775808 ≤ -(sg n (aN n d)) ∧ -(sg n (aN n d)) ≤ 9223372036854775808 := by unfold sg; split <;> omega
      have hb2 : -9223372036854775808 ≤ -(sg d (aD n d)) ∧ -(sg d (aD n d)) ≤ 9223372036854775808 := by unfold sg; split <;> omega
      have w1 := wrap64_W _ hb1.1 hb1.2
      have w2 := wrap64_W _ hb2.1 hb2.2
      obtain ⟨N1, hN1⟩ : ∃ N1, wrap64 (-(sg n (aN n d))) = N1 := ⟨_, rfl⟩
      obtain ⟨D1, hD1⟩ : ∃ D1, wrap64 (-(sg d (aD n d))) = D1 := ⟨_, rfl⟩
      rw [hN1] at w1
      rw [hD1] at w2
      have w1' := w1
      have w2' := w2
      unfold W64 at w1' w2'
      have w3 := wrap64_W (-N1) (by omega) (by omega)
      have w4 := wrap64_W (-D1) (by omega) (by omega)
      obtain ⟨N2, hN2⟩ : ∃ N2, wrap64 (-N1) = N2 := ⟨_, rfl⟩
      obtain ⟨D2, hD2⟩ : ∃ D2, wrap64 (-D1) = D2 := ⟨_, rfl⟩
      rw [hN2] at w3
      rw [hD2] at w4
      have hpair := ref_pair n d N1 D1 N2 D2 n0 n1 d0 d1 hd w1 w2 w3 w4
      clear w1 w2 w3 w4 w1' w2' hb1 hb2 hnl hdl hdp hgp
      generalize sg n (aN n d) = SN at *
      generalize sg d (aD n d) = SD at *
      have hbl := HE.out.heap HB0.out (fun h => h)
      have c0 := cellRow hbl 0 _ rfl
      have c1 := cellRow hbl 1 _ rfl
      have f0 := frozenRow hbl 0
      have f1 := frozenRow hbl 1
      have HEW := Lib.hid (HZ.out.ext HE.out)
      clear hbl Y1 Y2 HZ HB0 HE
      by_cases hDD : D1 < 0
      · have t9 : decide (D1 < 0) = true := decide_eq_true hDD
        have hmk := mk_of hd (hpair.1 hDD)
        clear hpair hDD
        rcases (by omega : N2 < -1073741824 ∨ (-1073741824 ≤ N2 ∧ 1073741824 < N2) ∨ (-1073741824 ≤ N2 ∧ N2 ≤ 1073741824 ∧ D2 < 1) ∨ (-1073741824 ≤ N2 ∧ N2 ≤ 1073741824 ∧ 1 ≤ D2 ∧ 1073741824 < D2) ∨ (-1073741824 ≤ N2 ∧ N2 ≤ 1073741824 ∧ 1 ≤ D2 ∧ D2 ≤ 1073741824)) with h1 | ⟨h1, h2⟩ | ⟨h1, h2, h3⟩ | ⟨h1, h2, h3, h4⟩ | ⟨h1, h2, h3, h4⟩
        · have s0 : decide (N2 < -1073741824) = true := decide_eq_true (by omega)
          have hbb : badB N2 D2 = true := by unfold badB; simp only [Bool.or_eq_true, decide_eq_true_eq]; omega
          obtain ⟨e1, e2, e3⟩ := hmk.1 hbb
          have E1 := Lib.hid e1
          have E2 := Lib.hid e2
          have E3 := Lib.hid e3
          clear e1 e2 e3 hbb hmk
          go_wp2_with fail
          refine bodyPost_ret (v := .tuple #[.agg #[.int .i64 0, .int .i64 0], .int .i64 5]) (by simp [results, Try.results53, go_sem, c0, c1]) rfl ⟨by rw [E1.out, E2.out, E3.out], ?_⟩
          first | exact (HEW.out.setNew (Nat.le_refl _) _).setNew (Nat.le_refl _) _ | exact HEW.out
        · have s0 : decide (N2 < -1073741824) = false := decide_eq_false (by omega)
          have s1 : decide ((1073741824 : Int) < N2) = true := decide_eq_true (by omega)
          have hbb : badB N2 D2 = true := by unfold badB; simp only [Bool.or_eq_true, decide_eq_true_eq]; omega
          obtain ⟨e1, e2, e3⟩ := hmk.1 hbb
          have E1 := Lib.hid e1
          have E2 := Lib.hid e2
          have E3 := Lib.hid e3
          clear e1 e2 e3 hbb hmk
          go_wp2_with fail
          refine bodyPost_ret (v := .tuple #[.agg #[.int .i64 0, .int .i64 0], .int .i64 5]) (by simp [results, Try.results53, go_sem, c0, c1]) rfl ⟨by rw [E1.out, E2.out, E3.out], ?_⟩
          first | exact (HEW.out.setNew (Nat.le_refl _) _).setNew (Nat.le_refl _) _ | exact HEW.out
        · have s0 : decide (N2 < -1073741824) = false := decide_eq_false (by omega)
          have s1 : decide ((1073741824 : Int) < N2) = false := decide_eq_false (by omega)
          have s2 : decide (D2 < 1) = true := decide_eq_true (by omega)
          have hbb : badB N2 D2 = true := by unfold badB; simp only [Bool.or_eq_true, decide_eq_true_eq]; omega
          obtain ⟨e1, e2, e3⟩ := hmk.1 hbb
          have E1 := Lib.hid e1
          have E2 := Lib.hid e2
          have E3 := Lib.hid e3
          clear e1 e2 e3 hbb hmk
          go_wp2_with fail
          refine bodyPost_ret (v := .tuple #[.agg #[.int .i64 0, .int .i64 0], .int .i64 5]) (by simp [results, Try.results53, go_sem, c0, c1]) rfl ⟨by rw [E1.out, E2.out, E3.out], ?_⟩
          first | exact (HEW.out.setNew (Nat.le_refl _) _).setNew (Nat.le_refl _) _ | exact HEW.out
        · have s0 : decide (N2 < -1073741824) = false := decide_eq_false (by omega)
          have s1 : decide ((1073741824 : Int) < N2) = false := decide_eq_false (by omega)
          have s2 : decide (D2 < 1) = false := decide_eq_false (by omega)
          have s3 : decide ((1073741824 : Int) < D2) = true := decide_eq_true (by omega)
          have hbb : badB N2 D2 = true := by unfold badB; simp only [Bool.or_eq_true, decide_eq_true_eq]; omega
          obtain ⟨e1, e2, e3⟩ := hmk.1 hbb
          have E1 := Lib.hid e1
          have E2 := Lib.hid e2
          have E3 := Lib.hid e3
          clear e1 e2 e3 hbb hmk
          go_wp2_with fail
          refine bodyPost_ret (v := .tuple #[.agg #[.int .i64 0, .int .i64 0], .int .i64 5]) (by simp [results, Try.results53, go_sem, c0, c1]) rfl ⟨by rw [E1.out, E2.out, E3.out], ?_⟩
          first | exact (HEW.out.setNew (Nat.le_refl _) _).setNew (Nat.le_refl _) _ | exact HEW.out
        · have s0 : decide (N2 < -1073741824) = false := decide_eq_false (by omega)
          have s1 : decide ((1073741824 : Int) < N2) = false := decide_eq_false (by omega)
          have s2 : decide (D2 < 1) = false := decide_eq_false (by omega)
          have s3 : decide ((1073741824 : Int) < D2) = false := decide_eq_false (by omega)
          have hbb : badB N2 D2 = false := by unfold badB; simp only [Bool.or_eq_false_iff, decide_eq_false_iff_not]; omega
          obtain ⟨e1, e2, e3⟩ := hmk.2 hbb
          have E1 := Lib.hid e1
          have E2 := Lib.hid e2
          have E3 := Lib.hid e3
          clear e1 e2 e3 hbb hmk
          go_wp2_with fail
          refine bodyPost_ret (v := .tuple #[.agg #[.int .i64 N2, .int .i64 D2], .int .i64 0]) (by simp [results, Try.results53, go_sem, c0, c1]) rfl ⟨by rw [E1.out, E2.out, E3.out], ?_⟩
          first | exact (HEW.out.setNew (Nat.le_refl _) _).setNew (Nat.le_refl _) _ | exact HEW.out
      · have t9 : decide (D1 < 0) = false := decide_eq_false hDD
        have hmk := mk_of hd (hpair.2 (by omega))
        clear hpair hDD
        rcases (by omega : N1 < -1073741824 ∨ (-1073741824 ≤ N1 ∧ 1073741824 < N1) ∨ (-1073741824 ≤ N1 ∧ N1 ≤ 1073741824 ∧ D1 < 1) ∨ (-1073741824 ≤ N1 ∧ N1 ≤ 1073741824 ∧ 1 ≤ D1 ∧ 1073741824 < D1) ∨ (-1073741824 ≤ N1 ∧ N1 ≤ 1073741824 ∧ 1 ≤ D1 ∧ D1 ≤ 1073741824)) with h1 | ⟨h1, h2⟩ | ⟨h1, h2, h3⟩ | ⟨h1, h2, h3, h4⟩ | ⟨h1, h2, h3, h4⟩
        · have s0 : decide (N1 < -1073741824) = true := decide_eq_true (by omega)
          have hbb : badB N1 D1 = true := by unfold badB; simp only [Bool.or_eq_true, decide_eq_true_eq]; omega
          obtain ⟨e1, e2, e3⟩ := hmk.1 hbb
          have E1 := Lib.hid e1
          have E2 := Lib.hid e2
          have E3 := Lib.hid e3
          clear e1 e2 e3 hbb hmk
          go_wp2_with fail
          refine bodyPost_ret (v := .tuple #[.agg #[.int .i64 0, .int .i64 0], .int .i64 5]) (by simp [results, Try.results53, go_sem, c0, c1]) rfl ⟨by rw [E1.out, E2.out, E3.out], ?_⟩
          first | exact (HEW.out.setNew (Nat.le_refl _) _).setNew (Nat.le_refl _) _ | exact HEW.out
        · have s0 : decide (N1 < -1073741824) = false := decide_eq_false (by omega)
          have s1 : decide ((1073741824 : Int) < N1) = true := decide_eq_true (by omega)
          have hbb : badB N1 D1 = true := by unfold badB; simp only [Bool.or_eq_true, decide_eq_true_eq]; omega
          obtain ⟨e1, e2, e3⟩ := hmk.1 hbb
          have E1 := Lib.hid e1
          have E2 := Lib.hid e2
          have E3 := Lib.hid e3
          clear e1 e2 e3 hbb hmk
          go_wp2_with fail
          refine bodyPost_ret (v := .tuple #[.agg #[.int .i64 0, .int .i64 0], .int .i64 5]) (by simp [results, Try.results53, go_sem, c0, c1]) rfl ⟨by rw [E1.out, E2.out, E3.out], ?_⟩
          first | exact (HEW.out.setNew (Nat.le_refl _) _).setNew (Nat.le_refl _) _ | exact HEW.out
        · have s0 : decide (N1 < -1073741824) = false := decide_eq_false (by omega)
          have s1 : decide ((1073741824 : Int) < N1) = false := decide_eq_false (by omega)
          have s2 : decide (D1 < 1) = true := decide_eq_true (by omega)
          have hbb : badB N1 D1 = true := by unfold badB; simp only [Bool.or_eq_true, decide_eq_true_eq]; omega
          obtain ⟨e1, e2, e3⟩ := hmk.1 hbb
          have E1 := Lib.hid e1
          have E2 := Lib.hid e2
          have E3 := Lib.hid e3
          clear e1 e2 e3 hbb hmk
          go_wp2_with fail
          refine bodyPost_ret (v := .tuple #[.agg #[.int .i64 0, .int .i64 0], .int .i64 5]) (by simp [results, Try.results53, go_sem, c0, c1]) rfl ⟨by rw [E1.out, E2.out, E3.out], ?_⟩
          first | exact (HEW.out.setNew (Nat.le_refl _) _).setNew (Nat.le_refl _) _ | exact HEW.out
        · have s0 : decide (N1 < -1073741824) = false := decide_eq_false (by omega)
          have s1 : decide ((1073741824 : Int) < N1) = false := decide_eq_false (by omega)
          have s2 : decide (D1 < 1) = false := decide_eq_false (by omega)
          have s3 : decide ((1073741824 : Int) < D1) = true := decide_eq_true (by omega)
          have hbb : badB N1 D1 = true := by unfold badB; simp only [Bool.or_eq_true, decide_eq_true_eq]; omega
          obtain ⟨e1, e2, e3⟩ := hmk.1 hbb
          have E1 := Lib.hid e1
          have E2 := Lib.hid e2
          have E3 := Lib.hid e3
          clear e1 e2 e3 hbb hmk
          go_wp2_with fail
          refine bodyPost_ret (v := .tuple #[.agg #[.int .i64 0, .int .i64 0], .int .i64 5]) (by simp [results, Try.results53, go_sem, c0, c1]) rfl ⟨by rw [E1.out, E2.out, E3.out], ?_⟩
          first | exact (HEW.out.setNew (Nat.le_refl _) _).setNew (Nat.le_refl _) _ | exact HEW.out
        · have s0 : decide (N1 < -1073741824) = false := decide_eq_false (by omega)
          have s1 : decide ((1073741824 : Int) < N1) = false := decide_eq_false (by omega)
          have s2 : decide (D1 < 1) = false := decide_eq_false (by omega)
          have s3 : decide ((1073741824 : Int) < D1) = false := decide_eq_false (by omega)
          have hbb : badB N1 D1 = false := by unfold badB; simp only [Bool.or_eq_false_iff, decide_eq_false_iff_not]; omega
          obtain ⟨e1, e2, e3⟩ := hmk.2 hbb
          have E1 := Lib.hid e1
          have E2 := Lib.hid e2
          have E3 := Lib.hid e3
          clear e1 e2 e3 hbb hmk
          go_wp2_with fail
          refine bodyPost_ret (v := .tuple #[.agg #[.int .i64 N1, .int .i64 D1], .int .i64 0]) (by simp [results, Try.results53, go_sem, c0, c1]) rfl ⟨by rw [E1.out, E2.out, E3.out], ?_⟩
          first | exact (HEW.out.setNew (Nat.le_refl _) _).setNew (Nat.le_refl _) _ | exact HEW.out
    · have t1 : (-(y : Int) != 0) = true := by simp; omega
      have t2 : ¬ (-(y : Int) = 0) := by omega
      have t3 : (-(y : Int) == 0) = false := beq_eq_false_iff_ne.2 t2
      have t5 : ¬ (y = 0) := h
      have m2 : Int.tmod (-(x : Int)) (-(y : Int)) = -((x % y : Nat) : Int) := by rw [Int.tmod_neg, Int.neg_tmod, Int.tmod_eq_emod_of_nonneg (by omega)]; simp
      have m4 : Int.tmod (x : Int) (y : Int) = ((x % y : Nat) : Int) := by rw [Int.tmod_eq_emod_of_nonneg (by omega)]; simp
      have hlt := Nat.mod_lt x (show 0 < y by omega)
      have hg2 : gg n d = Nat.gcd y (x % y) := by rw [Hg.out, Nat.gcd_comm x y, Nat.gcd_rec y x, Nat.gcd_comm]
      have HG2 := Lib.hid hg2
      clear hg2 Hg HG
      generalize x % y = z at *
      go_wp2_with fail
      go_quiet (fail)
      go_wp2_with fail
      go_roundg z
      case measure => exact hlt
      case rel => exact ⟨y, z, rfl, rfl, rfl, hy, by omega, HE.out.drewN' _, HG2.out⟩

set_option maxRecDepth 100000 in
set_option maxHeartbeats 2000000 in
theorem rmk11 (n d : Int) (w : World) (n0 : -9223372036854775808 ≤ n) (n1 : n ≤ 9223372036854775807) (d0 : -9223372036854775808 ≤ d) (d1 : d ≤ 9223372036854775807) (hd : d ≠ 0) (hn : 0 < n) (hdn : 0 < d) : Calls Try.prog 53 #[.int .i64 n, .int .i64 d] w fun e w' => e = .returned (.tuple #[.agg #[.int .i64 (mkN n d), .int .i64 (mkD n d)], .int .i64 (mkE n d)]) ∧ Ext w w' := by
  have hgp := gg_pos (num := n) hd
  have hnl := aN_le n d
  have hdl := aD_le n d
  have hdp := aD_pos (num := n) hd
  obtain ⟨y1, y2⟩ := tdiv_neg_g n d hd
  have tz : (d == 0) = false := beq_eq_false_iff_ne.2 hd
  have t3 : decide (0 < n) = true := decide_eq_true (by omega)
  have t4 : decide (0 < d) = true := decide_eq_true (by omega)
  have HZ : Hid (Ext w (w.alloc (.cells #[.int .i64 0, .int .i64 0] 25))) := (Upd.refl _ w).alloc _
  have HB0 := Lib.hid (alloc0 w (.cells #[.int .i64 0, .int .i64 0] 25))
  have HG : Hid (gg n d = Nat.gcd n.natAbs d.natAbs) := rfl
  have Y1 := Lib.hid y1
  have Y2 := Lib.hid y2
  clear y1 y2
  go_enter Try.func53, Try.ntmps53
  go_wp2_with fail
  go_loopg [6, 7] d.natAbs (fun gk av bv wr => ∃ x y : Nat, av = .int .i64 (-(x : Int)) ∧ bv = .int .i64 (-(y : Int)) ∧ y = gk ∧ x ≤ 9223372036854775808 ∧ y ≤ 9223372036854775808 ∧ Hid (Ext (w.alloc (.cells #[.int .i64 0, .int .i64 0] 25)) wr) ∧ Hid (gg n d = Nat.gcd x y))
  case atStart => exact ⟨n.natAbs, d.natAbs, by congr 1; omega, by congr 1; omega, rfl, by omega, by omega, Upd.refl _ _, HG.out⟩
  case round =>
    obtain ⟨x, y, rfl, rfl, rfl, hx, hy, HE, Hg⟩ := hrel
    by_cases h : y = 0
    · subst h
      have hg : gg n d = x := by rw [Hg.out]; exact Nat.gcd_zero_right x
      have q1 := Y1.out
      have q2 := Y2.out
      rw [hg] at q1 q2
      have hx0 : 0 < x := by omega
      have hx1 : ¬ (-(x : Int) = 0) := by omega
      have hx2 : (-(x : Int) == 0) = false := beq_eq_false_iff_ne.2 hx1
      have hx3 : ¬ (x = 0) := by omega
      clear Hg HG
      have hb1 : -9223372036854775808 ≤ -(sg n (aN n d)) ∧ -(sg n (aN n d)) ≤ 9223372036854775808 := by unfold sg; split <;> omega
      have hb2 : -9223372036854775808 ≤ -(sg d (aD n d)) ∧ -(sg d (aD n d)) ≤ 9223372036854775808 := by unfold sg; split <;> omega
      have w1 := wrap64_W _ hb1.1 hb1.2
      have w2 := wrap64_W _ hb2.1 hb2.2
      obtain ⟨N1, hN1⟩ : ∃ N1, wrap64 (-(sg n (aN n d))) = N1 := ⟨_, rfl⟩
      obtain ⟨D1, hD1⟩ : ∃ D1, wrap64 (-(sg d (aD n d))) = D1 := ⟨_, rfl⟩
      rw [hN1] at w1
      rw [hD1] at w2
      have w1' := w1
      have w2' := w2
      unfold W64 at w1' w2'
      have w3 := wrap64_W (-N1) (by omega) (by omega)
      have w4 := wrap64_W (-D1) (by omega) (by omega)
      obtain ⟨N2, hN2⟩ : ∃ N2, wrap64 (-N1) = N2 := ⟨_, rfl⟩
      obtain ⟨D2, hD2⟩ : ∃ D2, wrap64 (-D1) = D2 := ⟨_, rfl⟩
      rw [hN2] at w3
      rw [hD2] at w4
      have hpair := ref_pair n d N1 D1 N2 D2 n0 n1 d0 d1 hd w1 w2 w3 w4
      clear w1 w2 w3 w4 w1' w2' hb1 hb2 hnl hdl hdp hgp
      generalize sg n (aN n d) = SN at *
      generalize sg d (aD n d) = SD at *
      have hbl := HE.out.heap HB0.out (fun h => h)
      have c0 := cellRow hbl 0 _ rfl
      have c1 := cellRow hbl 1 _ rfl
      have f0 := frozenRow hbl 0
      have f1 := frozenRow hbl 1
      have HEW := Lib.hid (HZ.out.ext HE.out)
      clear hbl Y1 Y2 HZ HB0 HE
      by_cases hDD : D1 < 0
      · have t9 : decide (D1 < 0) = true := decide_eq_true hDD
        have hmk := mk_of hd (hpair.1 hDD)
        clear hpair hDD
        rcases (by omega : N2 < -1073741824 ∨ (-1073741824 ≤ N2 ∧ 1073741824 < N2) ∨ (-1073741824 ≤ N2 ∧ N2 ≤ 1073741824 ∧ D2 < 1) ∨ (-1073741824 ≤ N2 ∧ N2 ≤ 1073741824 ∧ 1 ≤ D2 ∧ 1073741824 < D2) ∨ (-1073741824 ≤ N2 ∧ N2 ≤ 1073741824 ∧ 1 ≤ D2 ∧ D2 ≤ 1073741824)) with h1 | ⟨h1, h2⟩ | ⟨h1, h2, h3⟩ | ⟨h1, h2, h3, h4⟩ | ⟨h1, h2, h3, h4⟩
        · have s0 : decide (N2 < -1073741824) = true := decide_eq_true (by omega)
          have hbb : badB N2 D2 = true := by unfold badB; simp only [Bool.or_eq_true, decide_eq_true_eq]; omega
          obtain ⟨e1, e2, e3⟩ := hmk.1 hbb
          have E1 := Lib.hid e1
          have E2 := Lib.hid e2
          have E3 := Lib.hid e3
          clear e1 e2 e3 hbb hmk
          go_wp2_with fail
          refine bodyPost_ret (v := .tuple #[.agg #[.int .i64 0, .int .i64 0], .int .i64 5]) (by simp [results, Try.results53, go_sem, c0, c1]) rfl ⟨by rw [E1.out, E2.out, E3.out], ?_⟩
          first | exact (HEW.out.setNew (Nat.le_refl _) _).setNew (Nat.le_refl _) _ | exact HEW.out
        · have s0 : decide (N2 < -1073741824) = false := decide_eq_false (by omega)
          have s1 : decide ((1073741824 : Int) < N2) = true := decide_eq_true (by omega)
          have hbb : badB N2 D2 = true := by unfold badB; simp only [Bool.or_eq_true, decide_eq_true_eq]; omega
          obtain ⟨e1, e2, e3⟩ := hmk.1 hbb
          have E1 := Lib.hid e1
          have E2 := Lib.hid e2
          have E3 := Lib.hid e3
          clear e1 e2 e3 hbb hmk
          go_wp2_with fail
          refine bodyPost_ret (v := .tuple #[.agg #[.int .i64 0, .int .i64 0], .int .i64 5]) (by simp [results, Try.results53, go_sem, c0, c1]) rfl ⟨by rw [E1.out, E2.out, E3.out], ?_⟩
          first | exact (HEW.out.setNew (Nat.le_refl _) _).setNew (Nat.le_refl _) _ | exact HEW.out
        · have s0 : decide (N2 < -1073741824) = false := decide_eq_false (by omega)
          have s1 : decide ((1073741824 : Int) < N2) = false := decide_eq_false (by omega)
          have s2 : decide (D2 < 1) = true := decide_eq_true (by omega)
          have hbb : badB N2 D2 = true := by unfold badB; simp only [Bool.or_eq_true, decide_eq_true_eq]; omega
          obtain ⟨e1, e2, e3⟩ := hmk.1 hbb
          have E1 := Lib.hid e1
          have E2 := Lib.hid e2
          have E3 := Lib.hid e3
          clear e1 e2 e3 hbb hmk
          go_wp2_with fail
          refine bodyPost_ret (v := .tuple #[.agg #[.int .i64 0, .int .i64 0], .int .i64 5]) (by simp [results, Try.results53, go_sem, c0, c1]) rfl ⟨by rw [E1.out, E2.out, E3.out], ?_⟩
          first | exact (HEW.out.setNew (Nat.le_refl _) _).setNew (Nat.le_refl _) _ | exact HEW.out
        · have s0 : decide (N2 < -1073741824) = false := decide_eq_false (by omega)
          have s1 : decide ((1073741824 : Int) < N2) = false := decide_eq_false (by omega)
          have s2 : decide (D2 < 1) = false := decide_eq_false (by omega)
          have s3 : decide ((1073741824 : Int) < D2) = true := decide_eq_true (by omega)
          have hbb : badB N2 D2 = true := by unfold badB; simp only [Bool.or_eq_true, decide_eq_true_eq]; omega
          obtain ⟨e1, e2, e3⟩ := hmk.1 hbb
          have E1 := Lib.hid e1
          have E2 := Lib.hid e2
          have E3 := Lib.hid e3
          clear e1 e2 e3 hbb hmk
          go_wp2_with fail
          refine bodyPost_ret (v := .tuple #[.agg #[.int .i64 0, .int .i64 0], .int .i64 5]) (by simp [results, Try.results53, go_sem, c0, c1]) rfl ⟨by rw [E1.out, E2.out, E3.out], ?_⟩
          first | exact (HEW.out.setNew (Nat.le_refl _) _).setNew (Nat.le_refl _) _ | exact HEW.out
        · have s0 : decide (N2 < -1073741824) = false := decide_eq_false (by omega)
          have s1 : decide ((1073741824 : Int) < N2) = false := decide_eq_false (by omega)
          have s2 : decide (D2 < 1) = false := decide_eq_false (by omega)
          have s3 : decide ((1073741824 : Int) < D2) = false := decide_eq_false (by omega)
          have hbb : badB N2 D2 = false := by unfold badB; simp only [Bool.or_eq_false_iff, decide_eq_false_iff_not]; omega
          obtain ⟨e1, e2, e3⟩ := hmk.2 hbb
          have E1 := Lib.hid e1
          have E2 := Lib.hid e2
          have E3 := Lib.hid e3
          clear e1 e2 e3 hbb hmk
          go_wp2_with fail
          refine bodyPost_ret (v := .tuple #[.agg #[.int .i64 N2, .int .i64 D2], .int .i64 0]) (by simp [results, Try.results53, go_sem, c0, c1]) rfl ⟨by rw [E1.out, E2.out, E3.out], ?_⟩
          first | exact (HEW.out.setNew (Nat.le_refl _) _).setNew (Nat.le_refl _) _ | exact HEW.out
      · have t9 : decide (D1 < 0) = false := decide_eq_false hDD
        have hmk := mk_of hd (hpair.2 (by omega))
        clear hpair hDD
        rcases (by omega : N1 < -1073741824 ∨ (-1073741824 ≤ N1 ∧ 1073741824 < N1) ∨ (-1073741824 ≤ N1 ∧ N1 ≤ 1073741824 ∧ D1 < 1) ∨ (-1073741824 ≤ N1 ∧ N1 ≤ 1073741824 ∧ 1 ≤ D1 ∧ 1073741824 < D1) ∨ (-1073741824 ≤ N1 ∧ N1 ≤ 1073741824 ∧ 1 ≤ D1 ∧ D1 ≤ 1073741824)) with h1 | ⟨h1, h2⟩ | ⟨h1, h2, h3⟩ | ⟨h1, h2, h3, h4⟩ | ⟨h1, h2, h3, h4⟩
        · have s0 : decide (N1 < -1073741824) = true := decide_eq_true (by omega)
          have hbb : badB N1 D1 = true := by unfold badB; simp only [Bool.or_eq_true, decide_eq_true_eq]; omega
          obtain ⟨e1, e2, e3⟩ := hmk.1 hbb
          have E1 := Lib.hid e1
          have E2 := Lib.hid e2
          have E3 := Lib.hid e3
          clear e1 e2 e3 hbb hmk
          go_wp2_with fail
          refine bodyPost_ret (v := .tuple #[.agg #[.int .i64 0, .int .i64 0], .int .i64 5]) (by simp [results, Try.results53, go_sem, c0, c1]) rfl ⟨by rw [E1.out, E2.out, E3.out], ?_⟩
          first | exact (HEW.out.setNew (Nat.le_refl _) _).setNew (Nat.le_refl _) _ | exact HEW.out
        · have s0 : decide (N1 < -1073741824) = false := decide_eq_false (by omega)
          have s1 : decide ((1073741824 : Int) < N1) = true := decide_eq_true (by omega)
          have hbb : badB N1 D1 = true := by unfold badB; simp only [Bool.or_eq_true, decide_eq_true_eq]; omega
          obtain ⟨e1, e2, e3⟩ := hmk.1 hbb
          have E1 := Lib.hid e1
          have E2 := Lib.hid e2
          have E3 := Lib.hid e3
          clear e1 e2 e3 hbb hmk
          go_wp2_with fail
          refine bodyPost_ret (v := .tuple #[.agg #[.int .i64 0, .int .i64 0], .int .i64 5]) (by simp [results, Try.results53, go_sem, c0, c1]) rfl ⟨by rw [E1.out, E2.out, E3.out], ?_⟩
          first | exact (HEW.out.setNew (Nat.le_refl _) _).setNew (Nat.le_refl _) _ | exact HEW.out
        · have s0 : decide (N1 < -1073741824) = false := decide_eq_false (by omega)
          have s1 : decide ((1073741824 : Int) < N1) = false := decide_eq_false (by omega)
          have s2 : decide (D1 < 1) = true := decide_eq_true (by omega)
          have hbb : badB N1 D1 = true := by unfold badB; simp only [Bool.or_eq_true, decide_eq_true_eq]; omega
          obtain ⟨e1, e2, e3⟩ := hmk.1 hbb
          have E1 := Lib.hid e1
          have E2 := Lib.hid e2
          have E3 := Lib.hid e3
          clear e1 e2 e3 hbb hmk
          go_wp2_with fail
          refine bodyPost_ret (v := .tuple #[.agg #[.int .i64 0, .int .i64 0], .int .i64 5]) (by simp [results, Try.results53, go_sem, c0, c1]) rfl ⟨by rw [E1.out, E2.out, E3.out], ?_⟩
          first | exact (HEW.out.setNew (Nat.le_refl _) _).setNew (Nat.le_refl _) _ | exact HEW.out
        · have s0 : decide (N1 < -1073741824) = false := decide_eq_false (by omega)
          have s1 : decide ((1073741824 : Int) < N1) = false := decide_eq_false (by omega)
          have s2 : decide (D1 < 1) = false := decide_eq_false (by omega)
          have s3 : decide ((1073741824 : Int) < D1) = true := decide_eq_true (by omega)
          have hbb : badB N1 D1 = true := by unfold badB; simp only [Bool.or_eq_true, decide_eq_true_eq]; omega
          obtain ⟨e1, e2, e3⟩ := hmk.1 hbb
          have E1 := Lib.hid e1
          have E2 := Lib.hid e2
          have E3 := Lib.hid e3
          clear e1 e2 e3 hbb hmk
          go_wp2_with fail
          refine bodyPost_ret (v := .tuple #[.agg #[.int .i64 0, .int .i64 0], .int .i64 5]) (by simp [results, Try.results53, go_sem, c0, c1]) rfl ⟨by rw [E1.out, E2.out, E3.out], ?_⟩
          first | exact (HEW.out.setNew (Nat.le_refl _) _).setNew (Nat.le_refl _) _ | exact HEW.out
        · have s0 : decide (N1 < -1073741824) = false := decide_eq_false (by omega)
          have s1 : decide ((1073741824 : Int) < N1) = false := decide_eq_false (by omega)
          have s2 : decide (D1 < 1) = false := decide_eq_false (by omega)
          have s3 : decide ((1073741824 : Int) < D1) = false := decide_eq_false (by omega)
          have hbb : badB N1 D1 = false := by unfold badB; simp only [Bool.or_eq_false_iff, decide_eq_false_iff_not]; omega
          obtain ⟨e1, e2, e3⟩ := hmk.2 hbb
          have E1 := Lib.hid e1
          have E2 := Lib.hid e2
          have E3 := Lib.hid e3
          clear e1 e2 e3 hbb hmk
          go_wp2_with fail
          refine bodyPost_ret (v := .tuple #[.agg #[.int .i64 N1, .int .i64 D1], .int .i64 0]) (by simp [results, Try.results53, go_sem, c0, c1]) rfl ⟨by rw [E1.out, E2.out, E3.out], ?_⟩
          first | exact (HEW.out.setNew (Nat.le_refl _) _).setNew (Nat.le_refl _) _ | exact HEW.out
    · have t1 : (-(y : Int) != 0) = true := by simp; omega
      have t2 : ¬ (-(y : Int) = 0) := by omega
      have t3 : (-(y : Int) == 0) = false := beq_eq_false_iff_ne.2 t2
      have t5 : ¬ (y = 0) := h
      have m2 : Int.tmod (-(x : Int)) (-(y : Int)) = -((x % y : Nat) : Int) := by rw [Int.tmod_neg, Int.neg_tmod, Int.tmod_eq_emod_of_nonneg (by omega)]; simp
      have m4 : Int.tmod (x : Int) (y : Int) = ((x % y : Nat) : Int) := by rw [Int.tmod_eq_emod_of_nonneg (by omega)]; simp
      have hlt := Nat.mod_lt x (show 0 < y by omega)
      have hg2 : gg n d = Nat.gcd y (x % y) := by rw [Hg.out, Nat.gcd_comm x y, Nat.gcd_rec y x, Nat.gcd_comm]
      have HG2 := Lib.hid hg2
      clear hg2 Hg HG
      generalize x % y = z at *
      go_wp2_with fail
      go_quiet (fail)
      go_wp2_with fail
      go_roundg z
      case measure => exact hlt
      case rel => exact ⟨y, z, rfl, rfl, rfl, hy, by omega, HE.out.drewN' _, HG2.out⟩

end Go.Proofs.Ytncnojhbdkhcjaa

/- ref.Valid. -/
namespace Go.Proofs.Ytncnojhbdkhcjaa
open Go.RowKit Go.Hw
set_option linter.unusedVariables false
set_option linter.unusedSimpArgs false

set_option maxRecDepth 100000 in
set_option maxHeartbeats 1000000 in
theorem rmk_zero (n d : Int) (w : World) (hd : d = 0) : Calls Try.prog 53 #[.int .i64 n, .int .i64 d] w fun e w' => e = .returned (.tuple #[.agg #[.int .i64 0, .int .i64 0], .int .i64 18]) ∧ Ext w w' := by
  subst hd
  have tz : ((0 : Int) == 0) = true := rfl
  have HZ : Hid (Ext w (w.alloc (.cells #[.int .i64 0, .int .i64 0] 25))) := (Upd.refl _ w).alloc _
  have hb := alloc0 w (.cells #[.int .i64 0, .int .i64 0] 25)
  have c0 := cellRow hb 0 _ rfl
  have c1 := cellRow hb 1 _ rfl
  have f0 := frozenRow hb 0
  have f1 := frozenRow hb 1
  clear hb
  go_enter Try.func53, Try.ntmps53
  go_wp2_with fail
  exact bodyPost_ret (v := .tuple #[.agg #[.int .i64 0, .int .i64 0], .int .i64 18]) (by simp [results, Try.results53, go_sem, c0, c1]) rfl ⟨rfl, by first | exact HZ.out | exact (HZ.out.setNew (Nat.le_refl _) _).setNew (Nat.le_refl _) _⟩

theorem eq24 (a b c d : Int) (w : World) : (Op.equalIn 10000 25 (.agg #[.int .i64 a, .int .i64 b]) (.agg #[.int .i64 c, .int .i64 d])).run Try.prog w = .ok (a == c && b == d) w := by
  have u3 := Try.underlying3
  have hS : Try.prog.underlying 25 = some (.struct (Try.prog.fieldsOf 25)) := by kernel_rfl
  have hp : Try.prog.stoodInHeld 25 = false := by kernel_rfl
  rw [show (10000 : Nat) = 9999 + 1 from rfl, run_equalIn_agg w 9999 25 _ _ hS hp]
  simp only [Program.fieldsOf, Try.underlying25]
  go_simp
  by_cases h1 : a = c <;> by_cases h2 : b = d <;> simp [h1, h2]

theorem rmk_x (n d : Int) (w : World) (n0 : -9223372036854775808 ≤ n) (n1 : n ≤ 9223372036854775807) (d0 : -9223372036854775808 ≤ d) (d1 : d ≤ 9223372036854775807) : Calls Try.prog 53 #[.int .i64 n, .int .i64 d] w fun e w' => e = .returned (.tuple #[.agg #[.int .i64 (mkN n d), .int .i64 (mkD n d)], .int .i64 (mkE n d)]) ∧ Ext w w' := by
  by_cases hd : d = 0
  · rw [show mkN n d = 0 from if_pos hd, show mkD n d = 0 from if_pos hd, show mkE n d = 18 from if_pos hd]
    exact rmk_zero n d w hd
  · by_cases h1 : 0 < n <;> by_cases h2 : 0 < d
    · exact rmk11 n d w n0 n1 d0 d1 hd h1 h2
    · exact rmk10 n d w n0 n1 d0 d1 hd h1 (by omega)
    · exact rmk01 n d w n0 n1 d0 d1 hd (by omega) h2
    · exact rmk00 n d w n0 n1 d0 d1 hd (by omega) (by omega)
theorem mk_self {n d : Int} (h1 : 1 ≤ d) (h2 : d ≤ 1073741824) (h3 : -1073741824 ≤ n) (h4 : n ≤ 1073741824) : (mkN n d == n && mkD n d == d) = decide (Nat.gcd n.natAbs d.natAbs = 1) := by
  have hd : d ≠ 0 := by omega
  have a1 := aN_le n d
  have a2 := aD_le n d
  have hb : bigB n d = false := by unfold bigB; simp only [Bool.or_eq_false_iff, decide_eq_false_iff_not]; omega
  have e1 : mkN n d = qN n d := by unfold mkN; rw [if_neg hd, hb]; rfl
  have e2 : mkD n d = aD n d := by unfold mkD; rw [if_neg hd, hb]; rfl
  rw [e1, e2, Bool.eq_iff_iff, decide_eq_true_eq, Bool.and_eq_true, beq_iff_eq, beq_iff_eq]
  have b1 := aN_mul n d
  have b2 := aD_mul n d
  have hgg : gg n d = Nat.gcd n.natAbs d.natAbs := rfl
  rw [← hgg]
  constructor
  · rintro ⟨_, h⟩
    have : aD n d = d.natAbs := by omega
    rw [this] at b2
    have hp : 0 < d.natAbs := by omega
    have h7 : d.natAbs * gg n d = d.natAbs * 1 := by rw [b2, Nat.mul_one]
    exact Nat.eq_of_mul_eq_mul_left hp h7
  · intro h
    rw [h, Nat.mul_one] at b1 b2
    refine ⟨?_, by omega⟩
    unfold qN negB
    rw [decide_eq_false (show ¬ d < 0 by omega), b1]
    by_cases hn : n < 0
    · rw [decide_eq_true hn]; simp; omega
    · rw [decide_eq_false hn]; simp; omega

set_option maxRecDepth 100000 in
set_option maxHeartbeats 1000000 in
theorem rv1 (n d : Int) (w : World) (h : n < -1073741824) : Calls Try.prog 36 #[.agg #[.int .i64 n, .int .i64 d]] w fun e w' => e = .returned (.bool false) ∧ Ext w w' := by
  have t1 : decide (n < -1073741824) = true := decide_eq_true (by omega)
  have hE : Ext w (w.alloc (.cells #[.int .i64 n, .int .i64 d] 25)) := (Upd.refl _ w).alloc _
  have hb := alloc0 w (.cells #[.int .i64 n, .int .i64 d] 25)
  have c0 := cellRow hb 0 _ rfl
  have c1 := cellRow hb 1 _ rfl
  clear hb
  go_enter Try.func36, Try.ntmps36
  go_wp2_with fail
  go_ret
  exact ⟨rfl, hE⟩

set_option maxRecDepth 100000 in
set_option maxHeartbeats 1000000 in
theorem rv2 (n d : Int) (w : World) (h1 : -1073741824 ≤ n) (h : 1073741824 < n) : Calls Try.prog 36 #[.agg #[.int .i64 n, .int .i64 d]] w fun e w' => e = .returned (.bool false) ∧ Ext w w' := by
  have t1 : decide (n < -1073741824) = false := decide_eq_false (by omega)
  have t2 : decide (1073741824 < n) = true := decide_eq_true (by omega)
  have hE : Ext w (w.alloc (.cells #[.int .i64 n, .int .i64 d] 25)) := (Upd.refl _ w).alloc _
  have hb := alloc0 w (.cells #[.int .i64 n, .int .i64 d] 25)
  have c0 := cellRow hb 0 _ rfl
  have c1 := cellRow hb 1 _ rfl
  clear hb
  go_enter Try.func36, Try.ntmps36
  go_wp2_with fail
  go_ret
  exact ⟨rfl, hE⟩

set_option maxRecDepth 100000 in
set_option maxHeartbeats 1000000 in
theorem rv3 (n d : Int) (w : World) (h1 : -1073741824 ≤ n) (h2 : n ≤ 1073741824) (h : d < 1) : Calls Try.prog 36 #[.agg #[.int .i64 n, .int .i64 d]] w fun e w' => e = .returned (.bool false) ∧ Ext w w' := by
  have t1 : decide (n < -1073741824) = false := decide_eq_false (by omega)
  have t2 : decide (1073741824 < n) = false := decide_eq_false (by omega)
  have t3 : decide (d < 1) = true := decide_eq_true (by omega)
  have hE : Ext w (w.alloc (.cells #[.int .i64 n, .int .i64 d] 25)) := (Upd.refl _ w).alloc _
  have hb := alloc0 w (.cells #[.int .i64 n, .int .i64 d] 25)
  have c0 := cellRow hb 0 _ rfl
  have c1 := cellRow hb 1 _ rfl
  clear hb
  go_enter Try.func36, Try.ntmps36
  go_wp2_with fail
  go_ret
  exact ⟨rfl, hE⟩

set_option maxRecDepth 100000 in
set_option maxHeartbeats 1000000 in
theorem rv4 (n d : Int) (w : World) (h1 : -1073741824 ≤ n) (h2 : n ≤ 1073741824) (h3 : 1 ≤ d) (h : 1073741824 < d) : Calls Try.prog 36 #[.agg #[.int .i64 n, .int .i64 d]] w fun e w' => e = .returned (.bool false) ∧ Ext w w' := by
  have t1 : decide (n < -1073741824) = false := decide_eq_false (by omega)
  have t2 : decide (1073741824 < n) = false := decide_eq_false (by omega)
  have t3 : decide (d < 1) = false := decide_eq_false (by omega)
  have t4 : decide (1073741824 < d) = true := decide_eq_true (by omega)
  have hE : Ext w (w.alloc (.cells #[.int .i64 n, .int .i64 d] 25)) := (Upd.refl _ w).alloc _
  have hb := alloc0 w (.cells #[.int .i64 n, .int .i64 d] 25)
  have c0 := cellRow hb 0 _ rfl
  have c1 := cellRow hb 1 _ rfl
  clear hb
  go_enter Try.func36, Try.ntmps36
  go_wp2_with fail
  go_ret
  exact ⟨rfl, hE⟩

set_option maxRecDepth 100000 in
set_option maxHeartbeats 1000000 in
theorem rv5 (n d : Int) (w : World) (h1 : -1073741824 ≤ n) (h2 : n ≤ 1073741824) (h3 : 1 ≤ d) (h4 : d ≤ 1073741824) : Calls Try.prog 36 #[.agg #[.int .i64 n, .int .i64 d]] w fun e w' => e = .returned (.bool (mkN n d == n && mkD n d == d)) ∧ Ext w w' := by
  have t1 : decide (n < -1073741824) = false := decide_eq_false (by omega)
  have t2 : decide (1073741824 < n) = false := decide_eq_false (by omega)
  have t3 : decide (d < 1) = false := decide_eq_false (by omega)
  have t4 : decide (1073741824 < d) = false := decide_eq_false (by omega)
  have hE : Ext w (w.alloc (.cells #[.int .i64 n, .int .i64 d] 25)) := (Upd.refl _ w).alloc _
  have hb := alloc0 w (.cells #[.int .i64 n, .int .i64 d] 25)
  have c0 := cellRow hb 0 _ rfl
  have c1 := cellRow hb 1 _ rfl
  have HB := Lib.hid hb
  have HE := Lib.hid hE
  have HC := Lib.hid (fun W => rmk_x n d W (by omega) (by omega) (by omega) (by omega))
  clear hb hE
  generalize mkN n d = a at *
  generalize mkD n d = b at *
  generalize mkE n d = k at *
  go_enter Try.func36, Try.ntmps36
  go_wp2_with fail
  refine (HC.out _).mono ?_
  rintro e w2 ⟨rfl, h2⟩
  have HE2 := Lib.hid (HE.out.ext h2)
  have hb2 := h2.heap HB.out (fun h => h)
  clear c0 c1
  have c0 := cellRow hb2 0 _ rfl
  have c1 := cellRow hb2 1 _ rfl
  have ha0 := alloc0 w2 (.cells #[.int .i64 0, .int .i64 0] 25)
  have o0 := cellRow ha0 0 _ rfl
  have o1 := cellRow ha0 1 _ rfl
  have u0 := frozenRow ha0 0
  have u1 := frozenRow ha0 1
  have ha1 := alloc0 w2 (.cells #[.int .i64 a, .int .i64 b] 25)
  have p0 := cellRow ha1 0 _ rfl
  have p1 := cellRow ha1 1 _ rfl
  have heq := fun W : World => eq24 a b n d W
  have hb3 := allocOld hb2 (.cells #[.int .i64 a, .int .i64 b] 25)
  have q0 := cellRow hb3 0 _ rfl
  have q1 := cellRow hb3 1 _ rfl
  clear h2 hb2 ha0 ha1 hb3
  go_wp2_with fail
  go_ret
  exact ⟨rfl, HE2.out.alloc _⟩
theorem rvalid_x (n d : Int) (w : World) : Calls Try.prog 36 #[.agg #[.int .i64 n, .int .i64 d]] w fun e w' => e = .returned (.bool (vfB n d)) ∧ Ext w w' := by
  by_cases h3 : -1073741824 ≤ n
  · by_cases h4 : n ≤ 1073741824
    · by_cases h1 : 1 ≤ d
      · by_cases h2 : d ≤ 1073741824
        · have e : vfB n d = (mkN n d == n && mkD n d == d) := by
            rw [mk_self h1 h2 h3 h4]
            unfold vfB
            rw [decide_eq_true ⟨h1, h2, h3, h4⟩, Bool.true_and]
          rw [e]; exact rv5 n d w h3 h4 h1 h2
        · rw [show vfB n d = false by unfold vfB; rw [decide_eq_false (by omega), Bool.false_and]]
          exact rv4 n d w h3 h4 h1 (by omega)
      · rw [show vfB n d = false by unfold vfB; rw [decide_eq_false (by omega), Bool.false_and]]
        exact rv3 n d w h3 h4 (by omega)
    · rw [show vfB n d = false by unfold vfB; rw [decide_eq_false (by omega), Bool.false_and]]
      exact rv2 n d w h3 (by omega)
  · rw [show vfB n d = false by unfold vfB; rw [decide_eq_false (by omega), Bool.false_and]]
    exact rv1 n d w (by omega)

end Go.Proofs.Ytncnojhbdkhcjaa

/- ratio.op. -/
namespace Go.Proofs.Ytncnojhbdkhcjaa
open Go.RowKit Go.Hw
set_option linter.unusedVariables false
set_option linter.unusedSimpArgs false

end Go.Proofs.Ytncnojhbdkhcjaa

/- Add, Sub, Mul, Div. -/
namespace Go.Proofs.Ytncnojhbdkhcjaa
open Go.RowKit Go.Hw
set_option linter.unusedVariables false
set_option linter.unusedSimpArgs false

theorem mul_bd {x y : Int} (hx : -1073741824 ≤ x ∧ x ≤ 1073741824) (hy : -1073741824 ≤ y ∧ y ≤ 1073741824) : -1152921504606846976 ≤ x * y ∧ x * y ≤ 1152921504606846976 := by
  have h1 : (x * y).natAbs ≤ 1073741824 * 1073741824 := by rw [Int.natAbs_mul]; exact Nat.mul_le_mul (by omega) (by omega)
  omega
theorem vf_bd {n d : Int} (h : vfB n d = true) : (-1073741824 ≤ n ∧ n ≤ 1073741824) ∧ (1 ≤ d ∧ d ≤ 1073741824) ∧ (-1073741824 ≤ d ∧ d ≤ 1073741824) := by
  have := ((vfB_iff n d).1 h).1
  omega

end Go.Proofs.Ytncnojhbdkhcjaa
