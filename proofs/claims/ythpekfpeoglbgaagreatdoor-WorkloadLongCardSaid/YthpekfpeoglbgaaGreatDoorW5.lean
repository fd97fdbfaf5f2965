/- The reference's tables. -/
import Derived.Test.YthpekfpeoglbgaaGreatDoorA
import Derived.Outline
namespace Go.Proofs.YthpekfpeoglbgaaGreatDoor
open Go.RowKit Go.Hw
set_option linter.unusedVariables false
set_option linter.unusedSimpArgs false

set_option maxHeartbeats 1000000 in
/-- heartwoodref03.Words -/
theorem rwords_any (kind : Int) (w : World) : Calls Tryz.prog 53 #[.int .i64 kind] w fun e w' => ∃ a, e = .returned (.slice a (nW kind) (nW kind)) ∧ Ext w w' := by
  by_cases hk : 1 ≤ kind ∧ kind ≤ 6
  · have : kind = 1 ∨ kind = 2 ∨ kind = 3 ∨ kind = 4 ∨ kind = 5 ∨ kind = 6 := by omega
    rcases this with rfl | rfl | rfl | rfl | rfl | rfl
    all_goals
      go_enter Tryz.func53, Tryz.ntmps53
      go_wp2_with fail
      go_ret
      exact ⟨_, rfl, (Upd.refl _ w).alloc _⟩
  · have h1 : (kind == 1) = false := by simp; omega
    have h2 : (kind == 2) = false := by simp; omega
    have h3 : (kind == 3) = false := by simp; omega
    have h4 : (kind == 4) = false := by simp; omega
    have h5 : (kind == 5) = false := by simp; omega
    have h6 : (kind == 6) = false := by simp; omega
    have hn : nW kind = 0 := by have := nW_known kind; omega
    rw [hn]
    clear hn
    go_enter Tryz.func53, Tryz.ntmps53
    go_wp2_with fail
    go_ret
    exact ⟨_, rfl, Upd.refl _ w⟩

set_option maxHeartbeats 1000000 in
theorem rarity_1 (j : Nat) (w : World) (hj : j < 8) : Calls Tryz.prog 76 #[.int .i64 1, .int .i64 ((j : Int) + 1)] w fun e w' => e = .returned (.int .i64 ((arL 1).getD j 0)) ∧ Ext w w' := by
  have hc : (w.alloc (.cells #[.int .i64 2, .int .i64 1, .int .i64 1, .int .i64 1, .int .i64 1, .int .i64 1, .int .i64 1, .int .i64 0] 3)).cell? ⟨w.heap.size, j, none⟩ = some (.int .i64 ((arL 1).getD j 0)) := by
    rw [cell_of_row _ _ _ _ _ _ (alloc0 _ _)]
    rcases j with _ | _ | _ | _ | _ | _ | _ | _ | j <;> first | rfl | omega
  have hd : (#[.int .i64 2, .int .i64 1, .int .i64 1, .int .i64 1, .int .i64 1, .int .i64 1, .int .i64 1, .int .i64 0] : Array Value)[j]? = some (.int .i64 ((arL 1).getD j 0)) := by
    rcases j with _ | _ | _ | _ | _ | _ | _ | _ | j <;> first | rfl | omega
  generalize (arL 1).getD j 0 = q at *
  have hx : Hid (Ext w (w.alloc (.cells #[.int .i64 2, .int .i64 1, .int .i64 1, .int .i64 1, .int .i64 1, .int .i64 1, .int .i64 1, .int .i64 0] 3))) := (Upd.refl _ w).alloc _
  go_enter Tryz.func76, Tryz.ntmps76
  go_wp2_with fail
  go_ret
  exact ⟨rfl, hx.out⟩
set_option maxHeartbeats 1000000 in
theorem rarity_2 (j : Nat) (w : World) (hj : j < 4) : Calls Tryz.prog 76 #[.int .i64 2, .int .i64 ((j : Int) + 1)] w fun e w' => e = .returned (.int .i64 ((arL 2).getD j 0)) ∧ Ext w w' := by
  have hc : (w.alloc (.cells #[.int .i64 1, .int .i64 0, .int .i64 0, .int .i64 0] 3)).cell? ⟨w.heap.size, j, none⟩ = some (.int .i64 ((arL 2).getD j 0)) := by
    rw [cell_of_row _ _ _ _ _ _ (alloc0 _ _)]
    rcases j with _ | _ | _ | _ | j <;> first | rfl | omega
  have hd : (#[.int .i64 1, .int .i64 0, .int .i64 0, .int .i64 0] : Array Value)[j]? = some (.int .i64 ((arL 2).getD j 0)) := by
    rcases j with _ | _ | _ | _ | j <;> first | rfl | omega
  generalize (arL 2).getD j 0 = q at *
  have hx : Hid (Ext w (w.alloc (.cells #[.int .i64 1, .int .i64 0, .int .i64 0, .int .i64 0] 3))) := (Upd.refl _ w).alloc _
  go_enter Tryz.func76, Tryz.ntmps76
  go_wp2_with fail
  go_ret
  exact ⟨rfl, hx.out⟩
set_option maxHeartbeats 1000000 in
theorem rarity_3 (j : Nat) (w : World) (hj : j < 7) : Calls Tryz.prog 76 #[.int .i64 3, .int .i64 ((j : Int) + 1)] w fun e w' => e = .returned (.int .i64 ((arL 3).getD j 0)) ∧ Ext w w' := by
  have hc : (w.alloc (.cells #[.int .i64 2, .int .i64 1, .int .i64 1, .int .i64 2, .int .i64 2, .int .i64 2, .int .i64 0] 3)).cell? ⟨w.heap.size, j, none⟩ = some (.int .i64 ((arL 3).getD j 0)) := by
    rw [cell_of_row _ _ _ _ _ _ (alloc0 _ _)]
    rcases j with _ | _ | _ | _ | _ | _ | _ | j <;> first | rfl | omega
  have hd : (#[.int .i64 2, .int .i64 1, .int .i64 1, .int .i64 2, .int .i64 2, .int .i64 2, .int .i64 0] : Array Value)[j]? = some (.int .i64 ((arL 3).getD j 0)) := by
    rcases j with _ | _ | _ | _ | _ | _ | _ | j <;> first | rfl | omega
  generalize (arL 3).getD j 0 = q at *
  have hx : Hid (Ext w (w.alloc (.cells #[.int .i64 2, .int .i64 1, .int .i64 1, .int .i64 2, .int .i64 2, .int .i64 2, .int .i64 0] 3))) := (Upd.refl _ w).alloc _
  go_enter Tryz.func76, Tryz.ntmps76
  go_wp2_with fail
  go_ret
  exact ⟨rfl, hx.out⟩
set_option maxHeartbeats 1000000 in
theorem rarity_4 (j : Nat) (w : World) (hj : j < 5) : Calls Tryz.prog 76 #[.int .i64 4, .int .i64 ((j : Int) + 1)] w fun e w' => e = .returned (.int .i64 ((arL 4).getD j 0)) ∧ Ext w w' := by
  have hc : (w.alloc (.cells #[.int .i64 0, .int .i64 2, .int .i64 2, .int .i64 1, .int .i64 0] 3)).cell? ⟨w.heap.size, j, none⟩ = some (.int .i64 ((arL 4).getD j 0)) := by
    rw [cell_of_row _ _ _ _ _ _ (alloc0 _ _)]
    rcases j with _ | _ | _ | _ | _ | j <;> first | rfl | omega
  have hd : (#[.int .i64 0, .int .i64 2, .int .i64 2, .int .i64 1, .int .i64 0] : Array Value)[j]? = some (.int .i64 ((arL 4).getD j 0)) := by
    rcases j with _ | _ | _ | _ | _ | j <;> first | rfl | omega
  generalize (arL 4).getD j 0 = q at *
  have hx : Hid (Ext w (w.alloc (.cells #[.int .i64 0, .int .i64 2, .int .i64 2, .int .i64 1, .int .i64 0] 3))) := (Upd.refl _ w).alloc _
  go_enter Tryz.func76, Tryz.ntmps76
  go_wp2_with fail
  go_ret
  exact ⟨rfl, hx.out⟩
set_option maxHeartbeats 1000000 in
theorem rarity_5 (j : Nat) (w : World) (hj : j < 5) : Calls Tryz.prog 76 #[.int .i64 5, .int .i64 ((j : Int) + 1)] w fun e w' => e = .returned (.int .i64 ((arL 5).getD j 0)) ∧ Ext w w' := by
  have hc : (w.alloc (.cells #[.int .i64 3, .int .i64 2, .int .i64 4, .int .i64 4, .int .i64 0] 3)).cell? ⟨w.heap.size, j, none⟩ = some (.int .i64 ((arL 5).getD j 0)) := by
    rw [cell_of_row _ _ _ _ _ _ (alloc0 _ _)]
    rcases j with _ | _ | _ | _ | _ | j <;> first | rfl | omega
  have hd : (#[.int .i64 3, .int .i64 2, .int .i64 4, .int .i64 4, .int .i64 0] : Array Value)[j]? = some (.int .i64 ((arL 5).getD j 0)) := by
    rcases j with _ | _ | _ | _ | _ | j <;> first | rfl | omega
  generalize (arL 5).getD j 0 = q at *
  have hx : Hid (Ext w (w.alloc (.cells #[.int .i64 3, .int .i64 2, .int .i64 4, .int .i64 4, .int .i64 0] 3))) := (Upd.refl _ w).alloc _
  go_enter Tryz.func76, Tryz.ntmps76
  go_wp2_with fail
  go_ret
  exact ⟨rfl, hx.out⟩
set_option maxHeartbeats 1000000 in
theorem rarity_6 (j : Nat) (w : World) (hj : j < 4) : Calls Tryz.prog 76 #[.int .i64 6, .int .i64 ((j : Int) + 1)] w fun e w' => e = .returned (.int .i64 ((arL 6).getD j 0)) ∧ Ext w w' := by
  have hc : (w.alloc (.cells #[.int .i64 (-1), .int .i64 (-1), .int .i64 (-1), .int .i64 0] 3)).cell? ⟨w.heap.size, j, none⟩ = some (.int .i64 ((arL 6).getD j 0)) := by
    rw [cell_of_row _ _ _ _ _ _ (alloc0 _ _)]
    rcases j with _ | _ | _ | _ | j <;> first | rfl | omega
  have hd : (#[.int .i64 (-1), .int .i64 (-1), .int .i64 (-1), .int .i64 0] : Array Value)[j]? = some (.int .i64 ((arL 6).getD j 0)) := by
    rcases j with _ | _ | _ | _ | j <;> first | rfl | omega
  generalize (arL 6).getD j 0 = q at *
  have hx : Hid (Ext w (w.alloc (.cells #[.int .i64 (-1), .int .i64 (-1), .int .i64 (-1), .int .i64 0] 3))) := (Upd.refl _ w).alloc _
  go_enter Tryz.func76, Tryz.ntmps76
  go_wp2_with fail
  go_ret
  exact ⟨rfl, hx.out⟩

/-- heartwoodref03.Arity -/
theorem rarity_any (kind code : Int) (w : World) (hc : 1 ≤ code) (hc2 : code ≤ nW kind) : Calls Tryz.prog 76 #[.int .i64 kind, .int .i64 code] w fun e w' => e = .returned (.int .i64 (ar kind code)) ∧ Ext w w' := by
  have hk := (nW_known kind).1 (by omega)
  obtain ⟨j, hj⟩ := Int.eq_ofNat_of_zero_le (show 0 ≤ code - 1 by omega)
  obtain rfl : code = (j : Int) + 1 := by omega
  have har : ar kind ((j : Int) + 1) = (arL kind).getD j 0 := by unfold ar; simp
  rw [har]
  have : kind = 1 ∨ kind = 2 ∨ kind = 3 ∨ kind = 4 ∨ kind = 5 ∨ kind = 6 := by omega
  rcases this with rfl | rfl | rfl | rfl | rfl | rfl
  · exact rarity_1 j w (by simp [nW] at hc2; omega)
  · exact rarity_2 j w (by simp [nW] at hc2; omega)
  · exact rarity_3 j w (by simp [nW] at hc2; omega)
  · exact rarity_4 j w (by simp [nW] at hc2; omega)
  · exact rarity_5 j w (by simp [nW] at hc2; omega)
  · exact rarity_6 j w (by simp [nW] at hc2; omega)
theorem rkey_any (x : Int) (w : World) : Calls Tryz.prog 77 #[.int .i64 x] w fun e w' => e = .returned (.bool (keyB x)) ∧ w = w' := by
  by_cases h1 : -1048576 ≤ x <;> by_cases h2 : x ≤ 1048576
  all_goals
    go_enter Tryz.func77, Tryz.ntmps77
    go_wp2
    go_ret
    exact ⟨by simp [keyB, h1, h2], rfl⟩

end Go.Proofs.YthpekfpeoglbgaaGreatDoor
