/- ref.Valid. -/
import Derived.Test.YtlipjgpfhmkdhaaDoorR4
namespace Go.Proofs.YtlipjgpfhmkdhaaDoor
open Go.RowKit Go.Hw
set_option linter.unusedVariables false
set_option linter.unusedSimpArgs false

set_option maxRecDepth 100000 in
set_option maxHeartbeats 1000000 in
theorem rmk_zero (n d : Int) (w : World) (hd : d = 0) : Calls Tryd.prog 14 #[.int .i64 n, .int .i64 d] w fun e w' => e = .returned (.tuple #[.agg #[.int .i64 0, .int .i64 0], .int .i64 18]) ∧ Ext w w' := by
  subst hd
  have tz : ((0 : Int) == 0) = true := rfl
  have HZ : Hid (Ext w (w.alloc (.cells #[.int .i64 0, .int .i64 0] 24))) := (Upd.refl _ w).alloc _
  have hb := alloc0 w (.cells #[.int .i64 0, .int .i64 0] 24)
  have c0 := cellRow hb 0 _ rfl
  have c1 := cellRow hb 1 _ rfl
  have f0 := frozenRow hb 0
  have f1 := frozenRow hb 1
  clear hb
  go_enter Tryd.func14, Tryd.ntmps14
  go_wp2_with fail
  exact bodyPost_ret (v := .tuple #[.agg #[.int .i64 0, .int .i64 0], .int .i64 18]) (by simp [results, Tryd.results14, go_sem, c0, c1]) rfl ⟨rfl, by first | exact HZ.out | exact (HZ.out.setNew (Nat.le_refl _) _).setNew (Nat.le_refl _) _⟩

theorem eq24 (a b c d : Int) (w : World) : (Op.equalIn 10000 24 (.agg #[.int .i64 a, .int .i64 b]) (.agg #[.int .i64 c, .int .i64 d])).run Tryd.prog w = .ok (a == c && b == d) w := by
  have u3 := Tryd.underlying3
  have hS : Tryd.prog.underlying 24 = some (.struct (Tryd.prog.fieldsOf 24)) := by kernel_rfl
  have hp : Tryd.prog.stoodInHeld 24 = false := by kernel_rfl
  rw [show (10000 : Nat) = 9999 + 1 from rfl, run_equalIn_agg w 9999 24 _ _ hS hp]
  simp only [Program.fieldsOf, Tryd.underlying24]
  go_simp
  by_cases h1 : a = c <;> by_cases h2 : b = d <;> simp [h1, h2]

theorem rmk_x (n d : Int) (w : World) (n0 : -9223372036854775808 ≤ n) (n1 : n ≤ 9223372036854775807) (d0 : -9223372036854775808 ≤ d) (d1 : d ≤ 9223372036854775807) : Calls Tryd.prog 14 #[.int .i64 n, .int .i64 d] w fun e w' => e = .returned (.tuple #[.agg #[.int .i64 (mkN n d), .int .i64 (mkD n d)], .int .i64 (mkE n d)]) ∧ Ext w w' := by
  by_cases hd : d = 0
  · rw [show mkN n d = 0 from if_pos hd, show mkD n d = 0 from if_pos hd, show mkE n d = 18 from if_pos hd]
    exact rmk_zero n d w hd
  · by_cases h1 : 0 < n <;> by_cases h2 : 0 < d
    · exact rmk11 n d w n0 n1 d0 d1 hd h1 h2
    · exact rmk10 n d w n0 n1 d0 d1 hd h1 (by omega)
    · exact rmk01 n d w n0 n1 d0 d1 hd (by omega) h2
    · exact rmk00 n d w n0 n1 d0 d1 hd (by omega) (by omega)
theorem mk_self {n d : Int} (h1 : 1 ≤ d) (h2 : d ≤ 1073741824) (h3 : -1073741824 ≤ n) (h4 : n ≤ 1073741824) : (mkN n d == n && mkD n d == d) = decide (Nat.gcd n.natAbs d.natAbs = 1) := by
  have hd : d ≠ 0 := by omega
  have a1 := aN_le n d
  have a2 := aD_le n d
  have hb : bigB n d = false := by unfold bigB; simp only [Bool.or_eq_false_iff, decide_eq_false_iff_not]; omega
  have e1 : mkN n d = qN n d := by unfold mkN; rw [if_neg hd, hb]; rfl
  have e2 : mkD n d = aD n d := by unfold mkD; rw [if_neg hd, hb]; rfl
  rw [e1, e2, Bool.eq_iff_iff, decide_eq_true_eq, Bool.and_eq_true, beq_iff_eq, beq_iff_eq]
  have b1 := aN_mul n d
  have b2 := aD_mul n d
  have hgg : gg n d = Nat.gcd n.natAbs d.natAbs := rfl
  rw [← hgg]
  constructor
  · rintro ⟨_, h⟩
    have : aD n d = d.natAbs := by omega
    rw [this] at b2
    have hp : 0 < d.natAbs := by omega
    have h7 : d.natAbs * gg n d = d.natAbs * 1 := by rw [b2, Nat.mul_one]
    exact Nat.eq_of_mul_eq_mul_left hp h7
  · intro h
    rw [h, Nat.mul_one] at b1 b2
    refine ⟨?_, by omega⟩
    unfold qN negB
    rw [decide_eq_false (show ¬ d < 0 by omega), b1]
    by_cases hn : n < 0
    · rw [decide_eq_true hn]; simp; omega
    · rw [decide_eq_false hn]; simp; omega

set_option maxRecDepth 100000 in
set_option maxHeartbeats 1000000 in
theorem rv1 (n d : Int) (w : World) (h : n < -1073741824) : Calls Tryd.prog 16 #[.agg #[.int .i64 n, .int .i64 d]] w fun e w' => e = .returned (.bool false) ∧ Ext w w' := by
  have t1 : decide (n < -1073741824) = true := decide_eq_true (by omega)
  have hE : Ext w (w.alloc (.cells #[.int .i64 n, .int .i64 d] 24)) := (Upd.refl _ w).alloc _
  have hb := alloc0 w (.cells #[.int .i64 n, .int .i64 d] 24)
  have c0 := cellRow hb 0 _ rfl
  have c1 := cellRow hb 1 _ rfl
  clear hb
  go_enter Tryd.func16, Tryd.ntmps16
  go_wp2_with fail
  go_ret
  exact ⟨rfl, hE⟩

set_option maxRecDepth 100000 in
set_option maxHeartbeats 1000000 in
theorem rv2 (n d : Int) (w : World) (h1 : -1073741824 ≤ n) (h : 1073741824 < n) : Calls Tryd.prog 16 #[.agg #[.int .i64 n, .int .i64 d]] w fun e w' => e = .returned (.bool false) ∧ Ext w w' := by
  have t1 : decide (n < -1073741824) = false := decide_eq_false (by omega)
  have t2 : decide (1073741824 < n) = true := decide_eq_true (by omega)
  have hE : Ext w (w.alloc (.cells #[.int .i64 n, .int .i64 d] 24)) := (Upd.refl _ w).alloc _
  have hb := alloc0 w (.cells #[.int .i64 n, .int .i64 d] 24)
  have c0 := cellRow hb 0 _ rfl
  have c1 := cellRow hb 1 _ rfl
  clear hb
  go_enter Tryd.func16, Tryd.ntmps16
  go_wp2_with fail
  go_ret
  exact ⟨rfl, hE⟩

set_option maxRecDepth 100000 in
set_option maxHeartbeats 1000000 in
theorem rv3 (n d : Int) (w : World) (h1 : -1073741824 ≤ n) (h2 : n ≤ 1073741824) (h : d < 1) : Calls Tryd.prog 16 #[.agg #[.int .i64 n, .int .i64 d]] w fun e w' => e = .returned (.bool false) ∧ Ext w w' := by
  have t1 : decide (n < -1073741824) = false := decide_eq_false (by omega)
  have t2 : decide (1073741824 < n) = false := decide_eq_false (by omega)
  have t3 : decide (d < 1) = true := decide_eq_true (by omega)
  have hE : Ext w (w.alloc (.cells #[.int .i64 n, .int .i64 d] 24)) := (Upd.refl _ w).alloc _
  have hb := alloc0 w (.cells #[.int .i64 n, .int .i64 d] 24)
  have c0 := cellRow hb 0 _ rfl
  have c1 := cellRow hb 1 _ rfl
  clear hb
  go_enter Tryd.func16, Tryd.ntmps16
  go_wp2_with fail
  go_ret
  exact ⟨rfl, hE⟩

set_option maxRecDepth 100000 in
set_option maxHeartbeats 1000000 in
theorem rv4 (n d : Int) (w : World) (h1 : -1073741824 ≤ n) (h2 : n ≤ 1073741824) (h3 : 1 ≤ d) (h : 1073741824 < d) : Calls Tryd.prog 16 #[.agg #[.int .i64 n, .int .i64 d]] w fun e w' => e = .returned (.bool false) ∧ Ext w w' := by
  have t1 : decide (n < -1073741824) = false := decide_eq_false (by omega)
  have t2 : decide (1073741824 < n) = false := decide_eq_false (by omega)
  have t3 : decide (d < 1) = false := decide_eq_false (by omega)
  have t4 : decide (1073741824 < d) = true := decide_eq_true (by omega)
  have hE : Ext w (w.alloc (.cells #[.int .i64 n, .int .i64 d] 24)) := (Upd.refl _ w).alloc _
  have hb := alloc0 w (.cells #[.int .i64 n, .int .i64 d] 24)
  have c0 := cellRow hb 0 _ rfl
  have c1 := cellRow hb 1 _ rfl
  clear hb
  go_enter Tryd.func16, Tryd.ntmps16
  go_wp2_with fail
  go_ret
  exact ⟨rfl, hE⟩

set_option maxRecDepth 100000 in
set_option maxHeartbeats 1000000 in
theorem rv5 (n d : Int) (w : World) (h1 : -1073741824 ≤ n) (h2 : n ≤ 1073741824) (h3 : 1 ≤ d) (h4 : d ≤ 1073741824) : Calls Tryd.prog 16 #[.agg #[.int .i64 n, .int .i64 d]] w fun e w' => e = .returned (.bool (mkN n d == n && mkD n d == d)) ∧ Ext w w' := by
  have t1 : decide (n < -1073741824) = false := decide_eq_false (by omega)
  have t2 : decide (1073741824 < n) = false := decide_eq_false (by omega)
  have t3 : decide (d < 1) = false := decide_eq_false (by omega)
  have t4 : decide (1073741824 < d) = false := decide_eq_false (by omega)
  have hE : Ext w (w.alloc (.cells #[.int .i64 n, .int .i64 d] 24)) := (Upd.refl _ w).alloc _
  have hb := alloc0 w (.cells #[.int .i64 n, .int .i64 d] 24)
  have c0 := cellRow hb 0 _ rfl
  have c1 := cellRow hb 1 _ rfl
  have HB := Lib.hid hb
  have HE := Lib.hid hE
  have HC := Lib.hid (fun W => rmk_x n d W (by omega) (by omega) (by omega) (by omega))
  clear hb hE
  generalize mkN n d = a at *
  generalize mkD n d = b at *
  generalize mkE n d = k at *
  go_enter Tryd.func16, Tryd.ntmps16
  go_wp2_with fail
  refine (HC.out _).mono ?_
  rintro e w2 ⟨rfl, h2⟩
  have HE2 := Lib.hid (HE.out.ext h2)
  have hb2 := h2.heap HB.out (fun h => h)
  clear c0 c1
  have c0 := cellRow hb2 0 _ rfl
  have c1 := cellRow hb2 1 _ rfl
  have ha0 := alloc0 w2 (.cells #[.int .i64 0, .int .i64 0] 24)
  have o0 := cellRow ha0 0 _ rfl
  have o1 := cellRow ha0 1 _ rfl
  have u0 := frozenRow ha0 0
  have u1 := frozenRow ha0 1
  have ha1 := alloc0 w2 (.cells #[.int .i64 a, .int .i64 b] 24)
  have p0 := cellRow ha1 0 _ rfl
  have p1 := cellRow ha1 1 _ rfl
  have heq := fun W : World => eq24 a b n d W
  have hb3 := allocOld hb2 (.cells #[.int .i64 a, .int .i64 b] 24)
  have q0 := cellRow hb3 0 _ rfl
  have q1 := cellRow hb3 1 _ rfl
  clear h2 hb2 ha0 ha1 hb3
  go_wp2_with fail
  go_ret
  exact ⟨rfl, HE2.out.alloc _⟩
theorem rvalid_x (n d : Int) (w : World) : Calls Tryd.prog 16 #[.agg #[.int .i64 n, .int .i64 d]] w fun e w' => e = .returned (.bool (vfB n d)) ∧ Ext w w' := by
  by_cases h3 : -1073741824 ≤ n
  · by_cases h4 : n ≤ 1073741824
    · by_cases h1 : 1 ≤ d
      · by_cases h2 : d ≤ 1073741824
        · have e : vfB n d = (mkN n d == n && mkD n d == d) := by
            rw [mk_self h1 h2 h3 h4]
            unfold vfB
            rw [decide_eq_true ⟨h1, h2, h3, h4⟩, Bool.true_and]
          rw [e]; exact rv5 n d w h3 h4 h1 h2
        · rw [show vfB n d = false by unfold vfB; rw [decide_eq_false (by omega), Bool.false_and]]
          exact rv4 n d w h3 h4 h1 (by omega)
      · rw [show vfB n d = false by unfold vfB; rw [decide_eq_false (by omega), Bool.false_and]]
        exact rv3 n d w h3 h4 (by omega)
    · rw [show vfB n d = false by unfold vfB; rw [decide_eq_false (by omega), Bool.false_and]]
      exact rv2 n d w h3 (by omega)
  · rw [show vfB n d = false by unfold vfB; rw [decide_eq_false (by omega), Bool.false_and]]
    exact rv1 n d w (by omega)

end Go.Proofs.YtlipjgpfhmkdhaaDoor
