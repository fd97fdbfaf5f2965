/- Neg, Floor, Ceil, Cmp. -/
import Derived.Test.YtlipjgpfhmkdhaaDoorR7
import Derived.Test.YtlipjgpfhmkdhaaDoorShelf
namespace Go.Proofs.YtlipjgpfhmkdhaaDoor
open Go.RowKit Go.Hw
set_option linter.unusedVariables false
set_option linter.unusedSimpArgs false

theorem vf_neg {n d : Int} (h : vfB n d = true) : vfB (-n) d = true := by
  rw [vfB_iff] at h ⊢
  rw [Int.natAbs_neg]
  omega
theorem floor_t (a b : Int) (hb : 0 < b) : (Int.tmod a b < 0 → a / b = Int.tdiv a b - 1) ∧ (0 ≤ Int.tmod a b → a / b = Int.tdiv a b) ∧ -b < Int.tmod a b ∧ Int.tmod a b < b := by
  have h1 := Int.mul_tdiv_add_tmod a b
  have h2 := Int.tmod_lt_of_pos a hb
  have h3 : -b < Int.tmod a b := by
    have := Int.tmod_lt_of_pos (-a) hb
    rw [Int.neg_tmod] at this; omega
  have h4 : a / b = Int.tmod a b / b + Int.tdiv a b := by
    have : (Int.tmod a b + b * Int.tdiv a b) / b = Int.tmod a b / b + Int.tdiv a b := Int.add_mul_ediv_left _ _ (by omega)
    rw [show Int.tmod a b + b * Int.tdiv a b = a by omega] at this
    exact this
  generalize Int.tmod a b = R at *
  generalize Int.tdiv a b = Q at *
  refine ⟨fun h => ?_, fun h => ?_, h3, h2⟩
  · have h5 : (R + b * 1) / b = R / b + 1 := Int.add_mul_ediv_left _ _ (by omega)
    have h6 : (R + b * 1) / b = 0 := Int.ediv_eq_zero_of_lt (by omega) (by omega)
    omega
  · have h6 : R / b = 0 := Int.ediv_eq_zero_of_lt h h2
    omega
theorem tdiv_bd (a b : Int) (hb : 0 < b) (h : -1073741824 ≤ a ∧ a ≤ 1073741824) : -1073741824 ≤ Int.tdiv a b ∧ Int.tdiv a b ≤ 1073741824 := by
  have := Int.natAbs_tdiv a b
  have h2 : a.natAbs / b.natAbs ≤ a.natAbs := Nat.div_le_self _ _
  have h3 : (Int.tdiv a b).natAbs ≤ a.natAbs := by rw [this]; exact h2
  omega

set_option maxRecDepth 100000 in
set_option maxHeartbeats 1000000 in
theorem neg_x (a b : Int) (w : World) (h : -1073741824 ≤ a ∧ a ≤ 1073741824) : Calls Tryd.prog 19 #[.agg #[.int .i64 a, .int .i64 b]] w fun e w' => e = .returned (.agg #[.int .i64 (-a), .int .i64 b]) ∧ Ext w w' := by
  have hE : Ext w ((w.alloc (.cells #[.int .i64 a, .int .i64 b] 24)).alloc (.cells #[.int .i64 0, .int .i64 0] 24)) := ((Upd.refl _ w).alloc _).alloc _
  have hA := allocOld (alloc0 w (.cells #[.int .i64 a, .int .i64 b] 24)) (.cells #[.int .i64 0, .int .i64 0] 24)
  have hZ := alloc_at (w.alloc (.cells #[.int .i64 a, .int .i64 b] 24)) (.cells #[.int .i64 0, .int .i64 0] 24) (n := w.heap.size + 1) (by simp)
  have k0 := cellRow hA 0 _ rfl
  have k1 := cellRow hA 1 _ rfl
  have z0 := cellRow hZ 0 _ rfl
  have z1 := cellRow hZ 1 _ rfl
  have m0 := frozenRow hZ 0
  have m1 := frozenRow hZ 1
  have hfin := setBlock (setBlock hZ 0 (.int .i64 (-a))) 1 (.int .i64 b)
  have y0 := cellRow hfin 0 _ rfl
  have y1 := cellRow hfin 1 _ rfl
  clear hA hZ hfin
  simp at y0 y1
  go_enter Tryd.func19, Tryd.ntmps19
  go_wp2_with fail
  refine bodyPost_ret (v := .agg #[.int .i64 (-a), .int .i64 b]) (by simp [results, Tryd.results19, go_sem, z0, z1, y0, y1]) rfl ⟨rfl, ?_⟩
  first | exact (hE.setNew (by omega) _).setNew (by omega) _ | exact ((Upd.refl _ w).alloc _).alloc _

end Go.Proofs.YtlipjgpfhmkdhaaDoor
