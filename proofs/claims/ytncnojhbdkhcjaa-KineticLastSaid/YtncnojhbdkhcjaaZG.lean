/- The texts K33 K34 KF, one behind the other. -/
import Derived.Test.YtncnojhbdkhcjaaZF
import Derived.Deep.DeepCutAuto
import Derived.Test.YtncnojhbdkhcjaaZD
import Derived.Lib.SmallJoins
import Derived.OpenShut
import Derived.Deep.SlicePairs
import Derived.ProofKit
/- What the law of forms asks. -/
namespace Go.Proofs.Ytncnojhbdkhcjaa
open Go.RowKit Go.Hw Go
set_option linter.unusedVariables false
set_option linter.unusedSimpArgs false

theorem eqF1 (a b c d : Int) (W : World) : (Op.equalIn 10000 25 (.agg #[.int .i64 a, .int .i64 b]) (.agg #[.int .i64 c, .int .i64 d])).run Try.prog W = .ok (a == c && b == d) W := eqF 9998 a b c d W
def longB (n : Nat) : Bool := (decide (12 < n) && decide (n ≤ 64)) || decide (100 < n)
theorem long_x (a : Option Addr) (n c : Nat) (w : World) : Calls Try.prog 10 #[.slice a n c] w fun e w' => e = .returned (.bool (longB n)) ∧ w' = w := by
  unfold longB
  by_cases h1 : 12 < n
  · have t1 : decide (12 < n) = true := decide_eq_true h1
    have t1' : decide ((12 : Int) < (n : Int)) = true := decide_eq_true (by omega)
    by_cases h2 : n ≤ 64
    · have t2 : decide (n ≤ 64) = true := decide_eq_true h2
      have t2' : decide ((n : Int) ≤ 64) = true := decide_eq_true (by omega)
      simp only [t1, t2, Bool.and_self, Bool.true_or]
      go_enter Try.func10, Try.ntmps10
      go_wp2_with fail
      go_ret
      exact ⟨rfl, rfl⟩
    · have t2 : decide (n ≤ 64) = false := decide_eq_false h2
      have t2' : decide ((n : Int) ≤ 64) = false := decide_eq_false (by omega)
      have t3 : ∀ b : Bool, decide (100 < n) = b → decide ((100 : Int) < (n : Int)) = b := fun b h => by rw [← h]; exact decide_eq_decide.2 (by omega)
      simp only [t1, t2, Bool.and_false, Bool.false_or]
      generalize hb : decide (100 < n) = B at *
      have t4 := t3 B rfl
      go_enter Try.func10, Try.ntmps10
      go_wp2_with fail
      go_ret
      exact ⟨rfl, rfl⟩
  · have t1 : decide (12 < n) = false := decide_eq_false h1
    have t1' : decide ((12 : Int) < (n : Int)) = false := decide_eq_false (by omega)
    have t3 : decide (100 < n) = false := decide_eq_false (by omega)
    have t3' : decide ((100 : Int) < (n : Int)) = false := decide_eq_false (by omega)
    simp only [t1, t3, Bool.false_and, Bool.false_or]
    go_enter Try.func10, Try.ntmps10
    go_wp2_with fail
    go_ret
    exact ⟨rfl, rfl⟩
theorem at_all (a s n d : Int) (n0 : -9223372036854775808 ≤ n) (n1 : n ≤ 9223372036854775807) (d0 : -9223372036854775808 ≤ d) (d1 : d ≤ 9223372036854775807) :
    ∃ X Y E : Int, (badM a s = true ∨ timeB n d = false → X = 0 ∧ Y = 0 ∧ E = 1) ∧ (badM a s = false → timeB n d = true → X = mkN (a * d + s * n) d ∧ Y = mkD (a * d + s * n) d ∧ E = mkE (a * d + s * n) d) ∧
      ∀ w, Calls Try.prog 11 #[.agg #[.int .i64 a, .int .i64 s], .agg #[.int .i64 n, .int .i64 d]] w fun e w' => e = .returned (.tuple #[.agg #[.int .i64 X, .int .i64 Y], .int .i64 E]) ∧ Ext w w' := by
  by_cases hb : badM a s = true
  · exact ⟨0, 0, 1, fun _ => ⟨rfl, rfl, rfl⟩, fun h => (by rw [hb] at h; cases h), fun w => at_bad1 a s n d w hb⟩
  · rw [Bool.not_eq_true] at hb
    by_cases ht : timeB n d = true
    · exact ⟨_, _, _, fun h => (by rcases h with h | h; (rw [hb] at h; cases h); (rw [ht] at h; cases h)), fun _ _ => ⟨rfl, rfl, rfl⟩, fun w => at_ok a s n d w hb ht⟩
    · rw [Bool.not_eq_true] at ht
      exact ⟨0, 0, 1, fun _ => ⟨rfl, rfl, rfl⟩, fun _ h => (by rw [ht] at h; cases h), fun w => at_bad2 a s n d w n0 n1 d0 d1 hb ht⟩
theorem meet_all (a b : Mo) (n d : Int) (n0 : -9223372036854775808 ≤ n) (n1 : n ≤ 9223372036854775807) (d0 : -9223372036854775808 ≤ d) (d1 : d ≤ 9223372036854775807) :
    ∃ X Y E : Int, (badM a.1 a.2 = true ∨ badM b.1 b.2 = true ∨ timeB n d = false → X = 0 ∧ Y = 0 ∧ E = 1) ∧ (badM a.1 a.2 = false → badM b.1 b.2 = false → timeB n d = true → X = meetN a b n d ∧ Y = meetD a b n d ∧ Value.int .i64 E = if meetB a b n d then .int .i64 0 else .int .i64 12) ∧
      ∀ w, Calls Try.prog 12 #[.agg #[.int .i64 a.1, .int .i64 a.2], .agg #[.int .i64 b.1, .int .i64 b.2], .agg #[.int .i64 n, .int .i64 d]] w fun e w' => e = .returned (.tuple #[.agg #[.int .i64 X, .int .i64 Y], .int .i64 E]) ∧ Ext w w' := by
  by_cases ha : badM a.1 a.2 = true
  · exact ⟨0, 0, 1, fun _ => ⟨rfl, rfl, rfl⟩, fun h => (by rw [ha] at h; cases h), fun w => meet_bad1 a b n d w ha⟩
  rw [Bool.not_eq_true] at ha
  by_cases hb : badM b.1 b.2 = true
  · exact ⟨0, 0, 1, fun _ => ⟨rfl, rfl, rfl⟩, fun _ h => (by rw [hb] at h; cases h), fun w => meet_bad2 a b n d w ha hb⟩
  rw [Bool.not_eq_true] at hb
  by_cases ht : timeB n d = true
  · refine ⟨_, _, (if meetB a b n d then 0 else 12), fun h => ?_, fun _ _ _ => ⟨rfl, rfl, by split <;> rfl⟩, fun w => (meet_ok a b n d w ha hb ht).mono fun e w' ⟨h1, h2⟩ => ⟨?_, h2⟩⟩
    · rcases h with h | h | h
      · rw [ha] at h; cases h
      · rw [hb] at h; cases h
      · rw [ht] at h; cases h
    · rw [h1]
      split <;> rfl
  · rw [Bool.not_eq_true] at ht
    exact ⟨0, 0, 1, fun _ => ⟨rfl, rfl, rfl⟩, fun _ _ h => (by rw [ht] at h; cases h), fun w => meet_bad3 a b n d w n0 n1 d0 d1 ha hb ht⟩
theorem order_all (l : List Mo) (n d : Int) (n0 : -9223372036854775808 ≤ n) (n1 : n ≤ 9223372036854775807) (d0 : -9223372036854775808 ≤ d) (d1 : d ≤ 9223372036854775807) (hl2 : l.length ≤ 4611686018427387904) :
    ∃ (E : Int) (L : List Nat), (mB l = false ∨ timeB n d = false → E = 1 ∧ L = []) ∧ (mB l = true → timeB n d = true → 64 < l.length → E = 4 ∧ L = []) ∧ (mB l = true → timeB n d = true → l.length ≤ 64 → E = 0 ∧ L = ordF l n d) ∧
      ∀ (S : Nat → Prop) (v : Value) (w : World), MoR S w v l → (∀ k, S k → k < w.heap.size) → Calls Try.prog 13 #[v, .agg #[.int .i64 n, .int .i64 d]] w fun e w' => ∃ r, e = .returned (.tuple #[r, .int .i64 E]) ∧ w'.ownsRow w.heap.size 3 1 r L.length (iCells L) ∧ Ext w w' := by
  by_cases hm : mB l = true
  · by_cases ht : timeB n d = true
    · by_cases h : l.length ≤ 64
      · refine ⟨0, ordF l n d, fun h => ?_, fun _ _ h2 => by omega, fun _ _ _ => ⟨rfl, rfl⟩, fun S v w hR hS => ?_⟩
        · rcases h with h | h
          · rw [hm] at h; cases h
          · rw [ht] at h; cases h
        · rw [ordF_len]
          exact Order_ok l n d S v w n0 n1 d0 d1 hl2 hR hS hm ht h
      · refine ⟨4, [], fun h => ?_, fun _ _ _ => ⟨rfl, rfl⟩, fun _ _ h2 => by omega, fun S v w hR hS => ?_⟩
        · rcases h with h | h
          · rw [hm] at h; cases h
          · rw [ht] at h; cases h
        · exact Order_full l n d S v w n0 n1 d0 d1 hl2 hR hS hm ht (by omega)
    · rw [Bool.not_eq_true] at ht
      exact ⟨1, [], fun _ => ⟨rfl, rfl⟩, (fun _ h => by rw [ht] at h; cases h), (fun _ h => by rw [ht] at h; cases h), fun S v w hR hS => Order_bad2 l n d S v w n0 n1 d0 d1 hl2 hR hS hm ht⟩
  · rw [Bool.not_eq_true] at hm
    exact ⟨1, [], fun _ => ⟨rfl, rfl⟩, (fun h => by rw [hm] at h; cases h), (fun h => by rw [hm] at h; cases h), fun S v w hR hS => Order_bad1 l n d S v w n0 n1 d0 d1 hl2 hR hS hm⟩

end Go.Proofs.Ytncnojhbdkhcjaa

/- The law of forms. -/
namespace Go.Proofs.Ytncnojhbdkhcjaa
open Go.RowKit Go.Hw Go
set_option linter.unusedVariables false
set_option linter.unusedSimpArgs false
set_option maxRecDepth 100000 in
set_option maxHeartbeats 2000000 in
theorem forms_x (a1 a2 b1 b2 n d : Int) (n0 : -9223372036854775808 ≤ n) (n1 : n ≤ 9223372036854775807) (d0 : -9223372036854775808 ≤ d) (d1 : d ≤ 9223372036854775807) (l : List Mo) (S : Nat → Prop) (v : Value) (w : World) (hl2 : l.length ≤ 4611686018427387904) (hR : MoR S w v l) (hS : ∀ k, S k → k < w.heap.size) :
    Calls Try.prog 3 #[.agg #[.int .i64 a1, .int .i64 a2], .agg #[.int .i64 b1, .int .i64 b2], .agg #[.int .i64 n, .int .i64 d], v] w fun e w' => e = .returned (.bool true) ∧ Ext w w' := by
  obtain ⟨X, Y, E, hA1, hA2, hA3⟩ := at_all a1 a2 n d n0 n1 d0 d1
  obtain ⟨X2, Y2, E2, hM1, hM2, hM3⟩ := meet_all (a1, a2) (b1, b2) n d n0 n1 d0 d1
  obtain ⟨E3, L, hO1, hO2, hO3, hO4⟩ := order_all l n d n0 n1 d0 d1 hl2
  have HA := Lib.hid (And.intro hA1 hA2)
  have HM := Lib.hid (And.intro hM1 hM2)
  have HO := Lib.hid (And.intro hO1 (And.intro hO2 hO3))
  have HAC := Lib.hid hA3
  have HMC := Lib.hid hM3
  have HOC := Lib.hid (fun W (hW : Ext w W) => hO4 S v W (hR.ext hW) (fun k hk => Nat.lt_of_lt_of_le (hS k hk) hW.size))
  have HRL := Lib.hid (And.intro hR hS)
  clear hA1 hA2 hA3 hM1 hM2 hM3 hO1 hO2 hO3 hO4
  have HAW := Lib.hid awake_x
  have HLG := Lib.hid long_x
  have heq := eqF1
  have HRM := Lib.hid rmotion_x
  have HRT := Lib.hid (fun W => rtime_x n d W)
  have HRA := Lib.hid (fun W (hb : badM a1 a2 = false) (hv : vfB n d = true) => rat_ok a1 a2 n d W hb hv)
  have HRE := Lib.hid (fun W (ha : badM a1 a2 = false) (hb : badM b1 b2 = false) (ht : vfB n d = true) => rmeet_x (a1, a2) (b1, b2) n d W ha hb ht)
  have HRS := Lib.hid (fun W (hW : Ext w W) => rmots_x l S v W (hR.ext hW) hl2)
  have HRO := Lib.hid (fun W (hW : Ext w W) (h : l.length ≤ 100000) (hm : mB l = true) (hv : vfB n d = true) => rorder_x l n d S v W h hm hv (hR.ext hW) (fun k hk => Nat.lt_of_lt_of_le (hS k hk) hW.size))
  obtain ⟨a, cap, rfl⟩ := hR.shape
  clear hR hS n0 n1 d0 d1
  have HZ := Lib.hid ((((Upd.refl (fun _ => False) w).alloc (.cells #[.int .i64 a1, .int .i64 a2] 23)).alloc (.cells #[.int .i64 b1, .int .i64 b2] 23)).alloc (.cells #[.int .i64 n, .int .i64 d] 25))
  have hb0 := allocOld (allocOld (alloc0 w (.cells #[.int .i64 a1, .int .i64 a2] 23)) (.cells #[.int .i64 b1, .int .i64 b2] 23)) (.cells #[.int .i64 n, .int .i64 d] 25)
  have hb1 := allocOld (alloc_at (w.alloc (.cells #[.int .i64 a1, .int .i64 a2] 23)) (.cells #[.int .i64 b1, .int .i64 b2] 23) (n := w.heap.size + 1) (by simp)) (.cells #[.int .i64 n, .int .i64 d] 25)
  have hb2 := alloc_at ((w.alloc (.cells #[.int .i64 a1, .int .i64 a2] 23)).alloc (.cells #[.int .i64 b1, .int .i64 b2] 23)) (.cells #[.int .i64 n, .int .i64 d] 25) (n := w.heap.size + 2) (by simp)
  have HL : Hid ((((w.alloc (.cells #[.int .i64 a1, .int .i64 a2] 23)).alloc (.cells #[.int .i64 b1, .int .i64 b2] 23)).alloc (.cells #[.int .i64 n, .int .i64 d] 25)).heap.size = w.heap.size + 3) := Lib.hid (by simp)
  have HX : Hid (∀ W, Ext (((w.alloc (.cells #[.int .i64 a1, .int .i64 a2] 23)).alloc (.cells #[.int .i64 b1, .int .i64 b2] 23)).alloc (.cells #[.int .i64 n, .int .i64 d] 25)) W → W.cell? ⟨w.heap.size, 0, none⟩ = some (.int .i64 a1) ∧ W.cell? ⟨w.heap.size, 1, none⟩ = some (.int .i64 a2) ∧ W.cell? ⟨w.heap.size + 1, 0, none⟩ = some (.int .i64 b1) ∧ W.cell? ⟨w.heap.size + 1, 1, none⟩ = some (.int .i64 b2) ∧ W.cell? ⟨w.heap.size + 2, 0, none⟩ = some (.int .i64 n) ∧ W.cell? ⟨w.heap.size + 2, 1, none⟩ = some (.int .i64 d)) := Lib.hid (fun W hW => ⟨cellRow (hW.heap hb0 (fun h => h)) 0 _ rfl, cellRow (hW.heap hb0 (fun h => h)) 1 _ rfl, cellRow (hW.heap hb1 (fun h => h)) 0 _ rfl, cellRow (hW.heap hb1 (fun h => h)) 1 _ rfl, cellRow (hW.heap hb2 (fun h => h)) 0 _ rfl, cellRow (hW.heap hb2 (fun h => h)) 1 _ rfl⟩)
  clear hb0 hb1 hb2
  have hle1 : w.heap.size ≤ w.heap.size + 1 := by omega
  have hle2 : w.heap.size ≤ w.heap.size + 1 + 1 := by omega
  obtain ⟨k00, k01, k10, k11, k20, k21⟩ := HX.out _ (Upd.refl _ _)
  go_enter Try.func3, Try.ntmps3
  go_wp2_with fail
  refine (HAW.out _).mono ?_
  rintro e w4 ⟨rfl, hw4⟩
  have H4 := Lib.hid hw4
  clear hw4
  clear k00 k01 k10 k11 k20 k21
  obtain ⟨k00, k01, k10, k11, k20, k21⟩ := HX.out _ H4.out
  go_wp2_with fail
  refine (HLG.out _ _ _ _).mono ?_
  rintro e w5 ⟨rfl, rfl⟩
  cases hlong : longB l.length
  rotate_left
  · go_wp2_with fail
    go_ret
    exact ⟨rfl, HZ.out.ext H4.out⟩
  have HNL := Lib.hid hlong
  clear hlong
  go_wp2_with fail
  refine (HAC.out _).mono ?_
  rintro e w6 ⟨rfl, hw6⟩
  have HB6 := Lib.hid (alloc0 w6 (.cells #[.int .i64 X, .int .i64 Y] 25))
  have H6 := Lib.hid ((H4.out.ext hw6).alloc (.cells #[.int .i64 X, .int .i64 Y] 25))
  clear hw6
  clear k00 k01 k10 k11 k20 k21
  obtain ⟨k00, k01, k10, k11, k20, k21⟩ := HX.out _ H6.out
  go_wp2_with fail
  refine (HMC.out _).mono ?_
  rintro e w7 ⟨rfl, hw7⟩
  have HB7 := Lib.hid (And.intro (alloc0 w7 (.cells #[.int .i64 X2, .int .i64 Y2] 25)) (allocOld (hw7.heap HB6.out (fun h => h)) (.cells #[.int .i64 X2, .int .i64 Y2] 25)))
  have H7 := Lib.hid ((H6.out.ext hw7).alloc (.cells #[.int .i64 X2, .int .i64 Y2] 25))
  clear hw7
  clear k00 k01 k10 k11 k20 k21
  obtain ⟨k00, k01, k10, k11, k20, k21⟩ := HX.out _ H7.out
  go_wp2_with fail
  refine (HOC.out _ (HZ.out.ext H7.out)).mono ?_
  rintro e w8 ⟨r, rfl, hO8, hw8⟩
  have HB8 := Lib.hid (And.intro (hw8.heap HB7.out.1 (fun h => h)) (hw8.heap HB7.out.2 (fun h => h)))
  have H8 := Lib.hid (H7.out.ext hw8)
  have HO8 := Lib.hid (own_base hO8 (HZ.out.ext H7.out).size)
  obtain ⟨a8, c8, rfl⟩ := own_shape hO8
  clear hw8 hO8 HB6 HB7 H7 H6 H4
  have HXY : Hid (∀ W, Ext w8 W → W.cell? ⟨w6.heap.size, 0, none⟩ = some (.int .i64 X) ∧ W.cell? ⟨w6.heap.size, 1, none⟩ = some (.int .i64 Y) ∧ W.cell? ⟨w7.heap.size, 0, none⟩ = some (.int .i64 X2) ∧ W.cell? ⟨w7.heap.size, 1, none⟩ = some (.int .i64 Y2)) := Lib.hid (fun W hW => ⟨cellRow (hW.heap HB8.out.2 (fun h => h)) 0 _ rfl, cellRow (hW.heap HB8.out.2 (fun h => h)) 1 _ rfl, cellRow (hW.heap HB8.out.1 (fun h => h)) 0 _ rfl, cellRow (hW.heap HB8.out.1 (fun h => h)) 1 _ rfl⟩)
  clear HB8 HAW HLG HAC HMC HOC
  clear k00 k01 k10 k11 k20 k21
  obtain ⟨k00, k01, k10, k11, k20, k21⟩ := HX.out _ H8.out
  go_upto_region 8 with fail
  have HM1 := Lib.hid (fun W => rmotion_x a1 a2 W)
  have HM2 := Lib.hid (fun W => rmotion_x b1 b2 W)
  go_cut [49] (fun s ww => s = .bool (badM a1 a2 || !timeB n d) ∧ Hid (Ext w8 ww))
  case first =>
    obtain ⟨y0, y1, y2, y3⟩ := HXY.out _ (Upd.refl _ _)
    cases hb : badM a1 a2
    · rw [hb] at HM1
      have HB := Lib.hid hb
      clear hb
      go_wp2_with fail
      refine (HM1.out _).mono ?_
      rintro e w9 ⟨rfl, hw9⟩
      have H9 := Lib.hid (hw9)
      clear hw9 y0 y1 y2 y3
      obtain ⟨y0, y1, y2, y3⟩ := HXY.out _ H9.out
      clear k00 k01 k10 k11 k20 k21
      obtain ⟨k00, k01, k10, k11, k20, k21⟩ := HX.out _ (H8.out.ext H9.out)
      go_wp2_with fail
      refine (HRT.out _).mono ?_
      rintro e w10 ⟨rfl, hw10⟩
      have H10 := Lib.hid (H9.out.ext hw10)
      clear hw10 y0 y1 y2 y3
      obtain ⟨y0, y1, y2, y3⟩ := HXY.out _ H10.out
      clear k00 k01 k10 k11 k20 k21
      obtain ⟨k00, k01, k10, k11, k20, k21⟩ := HX.out _ (H8.out.ext H10.out)
      go_wp2_with fail
      go_meet
      exact ⟨by rw [HB.out]; rfl, Lib.hid H10.out⟩
    · rw [hb] at HM1
      have HB := Lib.hid hb
      clear hb
      go_wp2_with fail
      refine (HM1.out _).mono ?_
      rintro e w9 ⟨rfl, hw9⟩
      have H9 := Lib.hid (hw9)
      clear hw9 y0 y1 y2 y3
      obtain ⟨y0, y1, y2, y3⟩ := HXY.out _ H9.out
      clear k00 k01 k10 k11 k20 k21
      obtain ⟨k00, k01, k10, k11, k20, k21⟩ := HX.out _ (H8.out.ext H9.out)
      go_wp2_with fail
      go_meet
      exact ⟨by rw [HB.out]; rfl, Lib.hid H9.out⟩
  case rest =>
  obtain ⟨rfl, H9⟩ := hcut
  clear k00 k01 k10 k11 k20 k21
  go_upto_if 49 with fail
  go_cut [] (fun ww => Hid (Ext w8 ww))
  case first =>
    obtain ⟨k00, k01, k10, k11, k20, k21⟩ := HX.out _ (H8.out.ext H9.out)
    obtain ⟨y0, y1, y2, y3⟩ := HXY.out _ H9.out
    cases hc : (badM a1 a2 || !timeB n d)
    · have hb : badM a1 a2 = false := by cases h : badM a1 a2; rfl; rw [h] at hc; cases hc
      have ht : timeB n d = true := by rw [hb] at hc; simpa using hc
      obtain ⟨e1, e2, e3⟩ := HA.out.2 hb ht
      have HRA2 := Lib.hid (fun W => HRA.out W hb ((timeB_iff _ _).1 ht).1)
      rw [← e1, ← e2, ← e3] at HRA2
      clear hb ht e1 e2 e3 hc
      go_wp2_with fail
      refine (HRA2.out _).mono ?_
      rintro e w11 ⟨rfl, hw11⟩
      have H11 := Lib.hid ((H9.out.ext hw11).alloc (.cells #[.int .i64 X, .int .i64 Y] 25))
      have hbz := alloc0 w11 (.cells #[.int .i64 X, .int .i64 Y] 25)
      have zz0 := cellRow hbz 0 (.int .i64 X) rfl
      have zz1 := cellRow hbz 1 (.int .i64 Y) rfl
      clear hw11 hbz y0 y1 y2 y3
      obtain ⟨y0, y1, y2, y3⟩ := HXY.out _ H11.out
      go_wp2_with fail
      go_meet
      exact Lib.hid H11.out
    · have hb : badM a1 a2 = true ∨ timeB n d = false := by
        cases h : badM a1 a2
        · rw [h] at hc
          right; simpa using hc
        · exact .inl rfl
      obtain ⟨rfl, rfl, rfl⟩ := HA.out.1 hb
      clear hb hc
      go_wp2_with fail
      go_meet
      exact Lib.hid H9.out
  case rest =>
  have H12 := hcut
  clear hcut H9
  obtain ⟨k00, k01, k10, k11, k20, k21⟩ := HX.out _ (H8.out.ext H12.out)
  obtain ⟨y0, y1, y2, y3⟩ := HXY.out _ H12.out
  go_upto_region 14 with fail
  go_cut [83] (fun s ww => s = .bool (badM a1 a2 || badM b1 b2 || !timeB n d) ∧ Hid (Ext w8 ww))
  case first =>
    cases hb : badM a1 a2
    · rw [hb] at HM1
      have HB := Lib.hid hb
      clear hb
      cases hb : badM b1 b2
      · rw [hb] at HM2
        have HB2 := Lib.hid hb
        clear hb
        go_wp2_with fail
        refine (HM1.out _).mono ?_
        rintro e w13 ⟨rfl, hw13⟩
        have H13 := Lib.hid (H12.out.ext hw13)
        clear hw13 y0 y1 y2 y3
        obtain ⟨y0, y1, y2, y3⟩ := HXY.out _ H13.out
        clear k00 k01 k10 k11 k20 k21
        obtain ⟨k00, k01, k10, k11, k20, k21⟩ := HX.out _ (H8.out.ext H13.out)
        go_wp2_with fail
        refine (HM2.out _).mono ?_
        rintro e w14 ⟨rfl, hw14⟩
        have H14 := Lib.hid (H13.out.ext hw14)
        clear hw14 y0 y1 y2 y3
        obtain ⟨y0, y1, y2, y3⟩ := HXY.out _ H14.out
        clear k00 k01 k10 k11 k20 k21
        obtain ⟨k00, k01, k10, k11, k20, k21⟩ := HX.out _ (H8.out.ext H14.out)
        go_wp2_with fail
        refine (HRT.out _).mono ?_
        rintro e w15 ⟨rfl, hw15⟩
        have H15 := Lib.hid (H14.out.ext hw15)
        clear hw15 y0 y1 y2 y3
        obtain ⟨y0, y1, y2, y3⟩ := HXY.out _ H15.out
        clear k00 k01 k10 k11 k20 k21
        obtain ⟨k00, k01, k10, k11, k20, k21⟩ := HX.out _ (H8.out.ext H15.out)
        go_wp2_with fail
        go_meet
        exact ⟨by rw [HB.out, HB2.out]; rfl, Lib.hid H15.out⟩
      · rw [hb] at HM2
        have HB2 := Lib.hid hb
        clear hb
        go_wp2_with fail
        refine (HM1.out _).mono ?_
        rintro e w13 ⟨rfl, hw13⟩
        have H13 := Lib.hid (H12.out.ext hw13)
        clear hw13 y0 y1 y2 y3
        obtain ⟨y0, y1, y2, y3⟩ := HXY.out _ H13.out
        clear k00 k01 k10 k11 k20 k21
        obtain ⟨k00, k01, k10, k11, k20, k21⟩ := HX.out _ (H8.out.ext H13.out)
        go_wp2_with fail
        refine (HM2.out _).mono ?_
        rintro e w14 ⟨rfl, hw14⟩
        have H14 := Lib.hid (H13.out.ext hw14)
        clear hw14 y0 y1 y2 y3
        obtain ⟨y0, y1, y2, y3⟩ := HXY.out _ H14.out
        clear k00 k01 k10 k11 k20 k21
        obtain ⟨k00, k01, k10, k11, k20, k21⟩ := HX.out _ (H8.out.ext H14.out)
        go_wp2_with fail
        go_meet
        exact ⟨by rw [HB.out, HB2.out]; rfl, Lib.hid H14.out⟩
    · rw [hb] at HM1
      have HB := Lib.hid hb
      clear hb
      go_wp2_with fail
      refine (HM1.out _).mono ?_
      rintro e w13 ⟨rfl, hw13⟩
      have H13 := Lib.hid (H12.out.ext hw13)
      clear hw13 y0 y1 y2 y3
      obtain ⟨y0, y1, y2, y3⟩ := HXY.out _ H13.out
      clear k00 k01 k10 k11 k20 k21
      obtain ⟨k00, k01, k10, k11, k20, k21⟩ := HX.out _ (H8.out.ext H13.out)
      go_wp2_with fail
      go_meet
      exact ⟨by rw [HB.out]; rfl, Lib.hid H13.out⟩
  case rest =>
  obtain ⟨rfl, H16⟩ := hcut
  clear k00 k01 k10 k11 k20 k21 y0 y1 y2 y3 H12
  go_upto_if 83 with fail
  go_cut [] (fun ww => Hid (Ext w8 ww))
  case first =>
    obtain ⟨k00, k01, k10, k11, k20, k21⟩ := HX.out _ (H8.out.ext H16.out)
    obtain ⟨y0, y1, y2, y3⟩ := HXY.out _ H16.out
    cases hc : (badM a1 a2 || badM b1 b2 || !timeB n d)
    · have h1 : badM a1 a2 = false := by cases h : badM a1 a2; rfl; rw [h] at hc; cases hc
      have h2 : badM b1 b2 = false := by cases h : badM b1 b2; rfl; rw [h1, h] at hc; cases hc
      have ht : timeB n d = true := by rw [h1, h2] at hc; simpa using hc
      obtain ⟨e1, e2, e3⟩ := HM.out.2 h1 h2 ht
      have HRE2 := Lib.hid (fun W => HRE.out W h1 h2 ((timeB_iff _ _).1 ht).1)
      rw [← e1, ← e2, ← e3] at HRE2
      clear h1 h2 ht e1 e2 e3 hc
      go_wp2_with fail
      refine (HRE2.out _).mono ?_
      rintro e w17 ⟨rfl, hw17⟩
      have H17 := Lib.hid ((H16.out.ext hw17).alloc (.cells #[.int .i64 X2, .int .i64 Y2] 25))
      have hbz := alloc0 w17 (.cells #[.int .i64 X2, .int .i64 Y2] 25)
      have zz0 := cellRow hbz 0 (.int .i64 X2) rfl
      have zz1 := cellRow hbz 1 (.int .i64 Y2) rfl
      clear hw17 hbz y0 y1 y2 y3
      obtain ⟨y0, y1, y2, y3⟩ := HXY.out _ H17.out
      go_wp2_with fail
      go_meet
      exact Lib.hid H17.out
    · have hb : badM a1 a2 = true ∨ badM b1 b2 = true ∨ timeB n d = false := by
        cases h : badM a1 a2
        · rw [h] at hc
          cases h2 : badM b1 b2
          · rw [h2] at hc
            right; right; simpa using hc
          · right; left; rfl
        · exact .inl rfl
      obtain ⟨rfl, rfl, rfl⟩ := HM.out.1 hb
      clear hb hc
      go_wp2_with fail
      go_meet
      exact Lib.hid H16.out
  case rest =>
  have H18 := hcut
  clear hcut H16 HXY
  obtain ⟨k00, k01, k10, k11, k20, k21⟩ := HX.out _ (H8.out.ext H18.out)
  have HW18 := Lib.hid (HZ.out.ext (H8.out.ext H18.out))
  have HMS := Lib.hid (HRS.out _ HW18.out)
  have HFN : Hid (∀ W, Ext wc W → Ext w W) := Lib.hid (fun W h => HW18.out.ext h)
  cases hm : mB l
  · rw [hm] at HMS
    obtain ⟨rfl, rfl⟩ := HO.out.1 (.inl hm)
    clear hm
    go_wp2_with fail
    refine HMS.out.mono ?_
    rintro e w19 ⟨rfl, hw19⟩
    have HF := Lib.hid (HFN.out _ hw19)
    clear hw19
    go_wp2_with fail
    go_ret
    exact ⟨rfl, HF.out⟩
  rw [hm] at HMS
  cases ht : timeB n d
  · rw [ht] at HRT
    obtain ⟨rfl, rfl⟩ := HO.out.1 (.inr ht)
    clear hm ht
    go_wp2_with fail
    refine HMS.out.mono ?_
    rintro e w19 ⟨rfl, hw19⟩
    have H19 := Lib.hid (H18.out.ext hw19)
    clear hw19
    clear k00 k01 k10 k11 k20 k21
    obtain ⟨k00, k01, k10, k11, k20, k21⟩ := HX.out _ (H8.out.ext H19.out)
    go_wp2_with fail
    refine (HRT.out _).mono ?_
    rintro e w20 ⟨rfl, hw20⟩
    have HF := Lib.hid (HZ.out.ext (H8.out.ext (H19.out.ext hw20)))
    clear hw20
    go_wp2_with fail
    go_ret
    exact ⟨rfl, HF.out⟩
  rw [ht] at HRT
  by_cases hl : l.length ≤ 64
  · have HRO2 := Lib.hid (fun W (hW : Ext w W) => HRO.out W hW (by omega) hm ((timeB_iff _ _).1 ht).1)
    obtain ⟨rfl, hL⟩ := HO.out.2.2 hm ht hl
    rw [← hL] at HRO2
    have HLL : Hid (L.length = l.length) := Lib.hid (by rw [hL, ordF_len])
    have t1 : decide ((64 : Int) < (l.length : Int)) = false := decide_eq_false (by omega)
    clear hm ht hL
    go_wp2_with fail
    refine HMS.out.mono ?_
    rintro e w19 ⟨rfl, hw19⟩
    have H19 := Lib.hid (H18.out.ext hw19)
    clear hw19
    clear k00 k01 k10 k11 k20 k21
    obtain ⟨k00, k01, k10, k11, k20, k21⟩ := HX.out _ (H8.out.ext H19.out)
    go_wp2_with fail
    refine (HRT.out _).mono ?_
    rintro e w20 ⟨rfl, hw20⟩
    have H20 := Lib.hid (H19.out.ext hw20)
    clear hw20
    clear k00 k01 k10 k11 k20 k21
    obtain ⟨k00, k01, k10, k11, k20, k21⟩ := HX.out _ (H8.out.ext H20.out)
    go_wp2_with fail
    refine (HRO2.out _ (HZ.out.ext (H8.out.ext H20.out))).mono ?_
    rintro e w21 ⟨r, rfl, hO, hw21⟩
    have H21 := Lib.hid (H20.out.ext hw21)
    obtain ⟨a21, c21, rfl⟩ := own_shape hO
    have HEQ := Lib.hid (eqi_x L L _ _ (.slice a8 L.length c8) (.slice a21 l.length c21) w21 (IR.own rfl (own_kept HO8.out H21.out (fun _ _ h => h))) (IR.own HLL.out hO) (by rw [HLL.out]; omega) (by rw [HLL.out]; omega))
    rw [decide_eq_true rfl] at HEQ
    clear hO hw21 k00 k01 k10 k11 k20 k21
    go_wp2_with fail
    refine HEQ.out.mono ?_
    rintro e w22 ⟨rfl, hw22⟩
    have HF := Lib.hid (HZ.out.ext (H8.out.ext (H21.out.ext hw22)))
    clear hw22
    go_wp2_with fail
    go_ret
    exact ⟨rfl, HF.out⟩
  · obtain ⟨rfl, rfl⟩ := HO.out.2.1 hm ht (by omega)
    have t1 : decide ((64 : Int) < (l.length : Int)) = true := decide_eq_true (by omega)
    clear hm ht
    go_wp2_with fail
    refine HMS.out.mono ?_
    rintro e w19 ⟨rfl, hw19⟩
    have H19 := Lib.hid (H18.out.ext hw19)
    clear hw19
    clear k00 k01 k10 k11 k20 k21
    obtain ⟨k00, k01, k10, k11, k20, k21⟩ := HX.out _ (H8.out.ext H19.out)
    go_wp2_with fail
    refine (HRT.out _).mono ?_
    rintro e w20 ⟨rfl, hw20⟩
    have HF := Lib.hid (HZ.out.ext (H8.out.ext (H19.out.ext hw20)))
    clear hw20
    go_wp2_with fail
    go_ret
    exact ⟨rfl, HF.out⟩
set_option maxRecDepth 100000 in
set_option maxHeartbeats 2000000 in
theorem forms_long (a1 a2 b1 b2 n d : Int) (a : Option Addr) (N cap : Nat) (w : World) (h : longB N = true) :
    Calls Try.prog 3 #[.agg #[.int .i64 a1, .int .i64 a2], .agg #[.int .i64 b1, .int .i64 b2], .agg #[.int .i64 n, .int .i64 d], .slice a N cap] w fun e w' => e = .returned (.bool true) ∧ Ext w w' := by
  have HAW := Lib.hid awake_x
  have HLG := Lib.hid (fun w => long_x a N cap w)
  rw [h] at HLG
  have HZ := Lib.hid ((((Upd.refl (fun _ => False) w).alloc (.cells #[.int .i64 a1, .int .i64 a2] 23)).alloc (.cells #[.int .i64 b1, .int .i64 b2] 23)).alloc (.cells #[.int .i64 n, .int .i64 d] 25))
  have hb0 := allocOld (allocOld (alloc0 w (.cells #[.int .i64 a1, .int .i64 a2] 23)) (.cells #[.int .i64 b1, .int .i64 b2] 23)) (.cells #[.int .i64 n, .int .i64 d] 25)
  have hb1 := allocOld (alloc_at (w.alloc (.cells #[.int .i64 a1, .int .i64 a2] 23)) (.cells #[.int .i64 b1, .int .i64 b2] 23) (n := w.heap.size + 1) (by simp)) (.cells #[.int .i64 n, .int .i64 d] 25)
  have hb2 := alloc_at ((w.alloc (.cells #[.int .i64 a1, .int .i64 a2] 23)).alloc (.cells #[.int .i64 b1, .int .i64 b2] 23)) (.cells #[.int .i64 n, .int .i64 d] 25) (n := w.heap.size + 2) (by simp)
  have HL : Hid ((((w.alloc (.cells #[.int .i64 a1, .int .i64 a2] 23)).alloc (.cells #[.int .i64 b1, .int .i64 b2] 23)).alloc (.cells #[.int .i64 n, .int .i64 d] 25)).heap.size = w.heap.size + 3) := Lib.hid (by simp)
  have HX : Hid (∀ W, Ext (((w.alloc (.cells #[.int .i64 a1, .int .i64 a2] 23)).alloc (.cells #[.int .i64 b1, .int .i64 b2] 23)).alloc (.cells #[.int .i64 n, .int .i64 d] 25)) W → W.cell? ⟨w.heap.size, 0, none⟩ = some (.int .i64 a1) ∧ W.cell? ⟨w.heap.size, 1, none⟩ = some (.int .i64 a2) ∧ W.cell? ⟨w.heap.size + 1, 0, none⟩ = some (.int .i64 b1) ∧ W.cell? ⟨w.heap.size + 1, 1, none⟩ = some (.int .i64 b2) ∧ W.cell? ⟨w.heap.size + 2, 0, none⟩ = some (.int .i64 n) ∧ W.cell? ⟨w.heap.size + 2, 1, none⟩ = some (.int .i64 d)) := Lib.hid (fun W hW => ⟨cellRow (hW.heap hb0 (fun h => h)) 0 _ rfl, cellRow (hW.heap hb0 (fun h => h)) 1 _ rfl, cellRow (hW.heap hb1 (fun h => h)) 0 _ rfl, cellRow (hW.heap hb1 (fun h => h)) 1 _ rfl, cellRow (hW.heap hb2 (fun h => h)) 0 _ rfl, cellRow (hW.heap hb2 (fun h => h)) 1 _ rfl⟩)
  clear hb0 hb1 hb2
  have hle1 : w.heap.size ≤ w.heap.size + 1 := by omega
  have hle2 : w.heap.size ≤ w.heap.size + 1 + 1 := by omega
  obtain ⟨k00, k01, k10, k11, k20, k21⟩ := HX.out _ (Upd.refl _ _)
  go_enter Try.func3, Try.ntmps3
  go_wp2_with fail
  refine (HAW.out _).mono ?_
  rintro e w4 ⟨rfl, hw4⟩
  have H4 := Lib.hid hw4
  clear hw4 k00 k01 k10 k11 k20 k21
  go_wp2_with fail
  refine (HLG.out _).mono ?_
  rintro e w5 ⟨rfl, rfl⟩
  go_wp2_with fail
  go_ret
  exact ⟨rfl, HZ.out.ext H4.out⟩
theorem forms_law (a1 a2 b1 b2 n d : Int) (n0 : -9223372036854775808 ≤ n) (n1 : n ≤ 9223372036854775807) (d0 : -9223372036854775808 ≤ d) (d1 : d ≤ 9223372036854775807) (l : List Mo) (S : Nat → Prop) (v : Value) (w : World) (hR : MoR S w v l) (hS : ∀ k, S k → k < w.heap.size) :
    Calls Try.prog 3 #[.agg #[.int .i64 a1, .int .i64 a2], .agg #[.int .i64 b1, .int .i64 b2], .agg #[.int .i64 n, .int .i64 d], v] w fun e w' => e = .returned (.bool true) ∧ Ext w w' := by
  cases h : longB l.length
  · refine forms_x a1 a2 b1 b2 n d n0 n1 d0 d1 l S v w ?_ hR hS
    unfold longB at h
    simp at h
    omega
  · obtain ⟨a, cap, rfl⟩ := hR.shape
    exact forms_long a1 a2 b1 b2 n d a l.length cap w h

end Go.Proofs.Ytncnojhbdkhcjaa

/- Motions, fractions as they come in. -/
namespace Go.Proofs.Ytncnojhbdkhcjaa
open Go.RowKit Go.Hw
set_option linter.unusedVariables false
set_option linter.unusedSimpArgs false

set_option maxRecDepth 100000
open Go.ChangeShapes Go.WideShapes Go.Deep Go.Joins Go.ChangeAt
theorem Try.own : ownKnob Try.prog.godebug = none := by kernel_rfl
theorem Try.laidOut : laidOutB Try.prog = true := by kernel_rfl
theorem cells23 : Try.prog.cellsOf 23 = 2 := by kernel_rfl
theorem cells25 : Try.prog.cellsOf 25 = 2 := by kernel_rfl
theorem cells3 : Try.prog.cellsOf 3 = 1 := by kernel_rfl
def intOf : Value → Int
  | .int _ n => n
  | _ => 0
theorem add_plain (b o k : Nat) : (⟨b, o, none⟩ : Addr).add k = ⟨b, o + k, none⟩ := by
  unfold Addr.add
  split
  · rename_i h; subst h; rfl
  · rfl
section
variable {H : Type} {enc : TypeId × Value → H} {W : World}
theorem open_two {t : TypeId} {f0 f1 : Field} {r : Reach} {b0 : Nat} {v : Value} {d : DataW H} {ps : List MemPlace} (hs : Try.prog.underlying t = some (.struct #[f0, f1])) (hone : oneCellFields Try.prog #[f0, f1] = true) (hC : Try.prog.cellsOf t = 2) (e0 : f0.type = 3) (e1 : f1.type = 3)
    (hv : Value.okWide Try.prog W r b0 t v) (h : DataW.Trod enc Try.prog W 0 (fun _ => true) true t v d ps) :
    ∃ (a b : Int), v = .agg #[.int .i64 a, .int .i64 b] ∧ (-9223372036854775808 ≤ a ∧ a ≤ 9223372036854775807) ∧ (-9223372036854775808 ≤ b ∧ b ≤ 9223372036854775807) := by
  obtain ⟨v0, v1, y0, y1, n, rfl, _, _, h0, h1⟩ := open_agg2 hs hone hC hv h
  rw [e0] at h0
  rw [e1] at h1
  obtain ⟨x0, e0, _, w0⟩ := DataW.trod_int Try.underlying3 h0
  obtain ⟨x1, e1, _, w1⟩ := DataW.trod_int Try.underlying3 h1
  simp only [List.cons.injEq, and_true] at e0 e1
  subst e0; subst e1
  exact ⟨x0, x1, rfl, bounds_i64 w0, bounds_i64 w1⟩
def toMo (V0 V1 : Nat → Value) (n : Nat) : List Mo := (List.range n).map fun i => (intOf (V0 i), intOf (V1 i))
theorem open_twos {t e : TypeId} {f0 f1 : Field} {v : Value} {d : DataW H} {ps : List MemPlace} (ht : Try.prog.underlying t = some (.slice e)) (he : Try.prog.underlying e = some (.struct #[f0, f1])) (ce : Try.prog.cellsOf e = 2) (o0 : f0.offset = 0) (o1 : f1.offset = 1) (e0 : f0.type = 3) (e1 : f1.type = 3)
    (h : DataW.Trod enc Try.prog W 0 (fun _ => true) true t v d ps) (hs : ∃ a len cap, v = .slice a len cap) : ∃ l : List Mo, MoR (fun k => k < W.heap.size) W v l ∧ l.length ≤ maxLen ∧ ∀ i, i < l.length → (-9223372036854775808 ≤ (mg l i).1 ∧ (mg l i).1 ≤ 9223372036854775807) ∧ (-9223372036854775808 ≤ (mg l i).2 ∧ (mg l i).2 ≤ 9223372036854775807) := by
  obtain ⟨a0, len, cap, rfl⟩ := hs
  obtain ⟨fuel, hf⟩ := h
  rcases open_slice_pairs ht he ce o0 o1 (by rw [e0]; exact cells3) (by rw [e1]; exact cells3) hf with ⟨hcs, hx⟩ | ⟨a, len', cap', m, n, V0, V1, D0, D1, P0, P1, hcs, _, hl, hm, hmm, hx, hall⟩
  · simp [Value.cells] at hcs
    obtain ⟨rfl, rfl, rfl⟩ := hcs
    exact ⟨[], SlR.nil _ _ _, by simp, fun i hi => by simp at hi⟩
  · simp [Value.cells] at hcs
    obtain ⟨rfl, rfl, rfl⟩ := hcs
    simp only [if_true] at hmm
    subst hmm
    have hlen : (toMo V0 V1 len).length = len := by simp [toMo]
    have hsp : 0 < len → a.spot = none := fun h0 => by
      have := World.cell?_spot (hall 0 (by omega)).1
      simpa [Addr.add] using this
    have hint : ∀ i, i < m → V0 i = .int .i64 (intOf (V0 i)) ∧ V1 i = .int .i64 (intOf (V1 i)) ∧ (-9223372036854775808 ≤ intOf (V0 i) ∧ intOf (V0 i) ≤ 9223372036854775807) ∧ (-9223372036854775808 ≤ intOf (V1 i) ∧ intOf (V1 i) ≤ 9223372036854775807) := fun i hi => by
      obtain ⟨_, _, t0, t1⟩ := hall i hi
      rw [e0] at t0
      rw [e1] at t1
      obtain ⟨x, hx0, _, w0⟩ := DataW.trod_int Try.underlying3 t0
      obtain ⟨y, hy0, _, w1⟩ := DataW.trod_int Try.underlying3 t1
      simp only [List.cons.injEq, and_true] at hx0 hy0
      rw [hx0, hy0]
      exact ⟨rfl, rfl, bounds_i64 w0, bounds_i64 w1⟩
    have hget : ∀ i, i < len → mg (toMo V0 V1 len) i = (intOf (V0 i), intOf (V1 i)) := fun i hi => by
      unfold mg toMo
      simp [List.getD_eq_getElem?_getD, hi]
    refine ⟨toMo V0 V1 len, ?_, by rw [hlen]; omega, fun i hi => by
      rw [hlen] at hi
      rw [hget i hi]
      exact (hint i (by omega)).2.2⟩
    unfold MoR
    rw [hlen]
    refine ⟨by rw [mCells_len, hlen], .inr ⟨a, m, rfl, hl, fun h0 => ⟨hsp h0, ?_⟩, fun j hj => ?_⟩⟩
    · have := World.block_lt_of_cell? W _ (hall 0 (by omega)).1
      simpa [Addr.add] using this
    · obtain ⟨q, r, hq, hr⟩ : ∃ q r, j = q * 2 + r ∧ r < 2 := ⟨j / 2, j % 2, by omega, by omega⟩
      subst hq
      have hqn : q < len := by omega
      obtain ⟨c0, c1, _, _⟩ := hall q (by omega)
      obtain ⟨i0, i1, _⟩ := hint q (by omega)
      obtain ⟨m0, m1⟩ := mCells_at (toMo V0 V1 len) q (by rw [hlen]; exact hqn)
      rw [hget q hqn] at m0 m1
      have h2 := hsp (by omega)
      obtain ⟨ab, ao, asp⟩ := a
      simp only at h2
      subst h2
      rw [add_plain] at c0 c1
      rw [i0] at c0
      rw [i1] at c1
      match r, hr with
      | 0, _ => rw [Nat.add_zero, c0, m0]
      | 1, _ => rw [← Nat.add_assoc] at c1 ⊢; rw [c1, m1]
theorem open_mo {r : Reach} {b0 : Nat} {v : Value} {d : DataW H} {ps : List MemPlace} (hv : Value.okWide Try.prog W r b0 23 v) (h : DataW.Trod enc Try.prog W 0 (fun _ => true) true 23 v d ps) :
    ∃ (a b : Int), v = .agg #[.int .i64 a, .int .i64 b] ∧ (-9223372036854775808 ≤ a ∧ a ≤ 9223372036854775807) ∧ (-9223372036854775808 ≤ b ∧ b ≤ 9223372036854775807) := open_two Try.underlying23 (by kernel_rfl) cells23 rfl rfl hv h
theorem open_fr {r : Reach} {b0 : Nat} {v : Value} {d : DataW H} {ps : List MemPlace} (hv : Value.okWide Try.prog W r b0 25 v) (h : DataW.Trod enc Try.prog W 0 (fun _ => true) true 25 v d ps) :
    ∃ (a b : Int), v = .agg #[.int .i64 a, .int .i64 b] ∧ (-9223372036854775808 ≤ a ∧ a ≤ 9223372036854775807) ∧ (-9223372036854775808 ≤ b ∧ b ≤ 9223372036854775807) := open_two Try.underlying25 (by kernel_rfl) cells25 rfl rfl hv h
theorem open_mots {v : Value} {d : DataW H} {ps : List MemPlace} (h : DataW.Trod enc Try.prog W 0 (fun _ => true) true 26 v d ps) (hs : ∃ a len cap, v = .slice a len cap) : ∃ l : List Mo, MoR (fun k => k < W.heap.size) W v l ∧ l.length ≤ maxLen ∧ ∀ i, i < l.length → (-9223372036854775808 ≤ (mg l i).1 ∧ (mg l i).1 ≤ 9223372036854775807) ∧ (-9223372036854775808 ≤ (mg l i).2 ∧ (mg l i).2 ≤ 9223372036854775807) :=
  open_twos Try.underlying26 Try.underlying23 cells23 rfl rfl rfl rfl h hs
end

end Go.Proofs.Ytncnojhbdkhcjaa
