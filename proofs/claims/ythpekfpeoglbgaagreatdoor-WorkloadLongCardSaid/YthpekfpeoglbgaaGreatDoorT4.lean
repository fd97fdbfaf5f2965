/- heartwoodref03.Decimal. -/
import Derived.Test.YthpekfpeoglbgaaGreatDoorT3
import Derived.Test.YthpekfpeoglbgaaGreatDoorL4
import Derived.Laws.BytesArg
namespace Go.Proofs.YthpekfpeoglbgaaGreatDoor
open Go.RowKit Go.Hw
set_option linter.unusedVariables false
set_option linter.unusedSimpArgs false

theorem enc1 (k : Nat) (W : World) (g : Nat) (h : W.heap[g]? = some (.cells #[.int .u8 (48 + (k : Int))] 5 (0, 0))) :
    (convert 34 9 (.slice (some ⟨g, 0, none⟩) 1 1)).run Tryz.prog W = .ok (.string (bs [UInt8.ofNat (48 + k)])) W := by
  have h2 := run_convert_bytes_arg (P := Tryz.prog) W 34 5 Tryz.underlying34 Tryz.underlying5 g 0 1 1 [48 + (k : Int)] rfl (fun i hi => by
    obtain rfl : i = 0 := by omega
    rw [cell_of_row W g 0 _ 5 _ h]
    rfl) 9 Tryz.underlying9
  rw [h2]
  unfold strOfNums bs
  have : (48 + (k : Int)).toNat = 48 + k := by omega
  simp [this]
theorem dec_lt (m : Nat) (h : m < 10) : Lib.itoa (m : Int) = [UInt8.ofNat (48 + m)] := by
  unfold Lib.itoa
  rw [if_neg (by omega), show ((m : Int)).toNat = m by omega, Lib.decDigits, dif_pos h]
theorem dec_ge (m : Nat) (h : ¬ m < 10) : Lib.itoa (m : Int) = Lib.itoa ((m / 10 : Nat) : Int) ++ [UInt8.ofNat (48 + m % 10)] := by
  unfold Lib.itoa
  rw [if_neg (by omega), if_neg (by omega), show ((m : Int)).toNat = m by omega, show (((m / 10 : Nat) : Int)).toNat = m / 10 by omega, Lib.decDigits, dif_neg h]
theorem dec_ng (m : Nat) (h : 0 < m) : Lib.itoa (-(m : Int)) = 45 :: Lib.itoa (m : Int) := by
  unfold Lib.itoa
  rw [if_pos (by omega), if_neg (by omega), show (-(m : Int)).natAbs = m by omega, show ((m : Int)).toNat = m by omega]
set_option maxHeartbeats 1000000 in
set_option maxRecDepth 100000 in
theorem dec_small (m : Nat) (w : World) (h : m < 10) : Calls Tryz.prog 78 #[.int .i64 (m : Int)] w fun e w' => e = .returned (.string (bs (Lib.itoa (m : Int)))) ∧ Ext w w' := by
  rw [dec_lt m h]
  have t1 : decide ((m : Int) < 0) = false := decide_eq_false (by omega)
  have t2 : decide ((m : Int) < 10) = true := decide_eq_true (by omega)
  have t3 : decide (m < 10) = true := decide_eq_true (by omega)
  have hk := enc1 m (w.alloc (.cells #[.int .u8 (48 + (m : Int))] 5)) w.heap.size (alloc0 _ _)
  generalize bs [UInt8.ofNat (48 + m)] = R at *
  go_enter Tryz.func78, Tryz.ntmps78
  go_wp2_with fail
  go_ret
  exact ⟨rfl, (Upd.refl _ w).alloc _⟩
set_option maxHeartbeats 1000000 in
set_option maxRecDepth 100000 in
theorem dec_big (m q k : Nat) (S K R : ByteArray) (w : World) (h : ¬ m < 10) (hm : m ≤ 1000000000000) (eq : m / 10 = q) (ek : m % 10 = k) (hS : ∀ W, Calls Tryz.prog 78 #[.int .i64 (q : Int)] W fun e w' => e = .returned (.string S) ∧ Ext W w') (hK : ∀ (W : World) (g : Nat), W.heap[g]? = some (.cells #[.int .u8 (48 + (k : Int))] 5 (0, 0)) → (convert 34 9 (.slice (some ⟨g, 0, none⟩) 1 1)).run Tryz.prog W = .ok (.string K) W) (hs : K.size ≤ 1) (hs2 : S.size ≤ 21) (hR : S ++ K = R) : Calls Tryz.prog 78 #[.int .i64 (m : Int)] w fun e w' => e = .returned (.string R) ∧ Ext w w' := by
  have t1 : decide ((m : Int) < 0) = false := decide_eq_false (by omega)
  have t2 : decide ((m : Int) < 10) = false := decide_eq_false (by omega)
  have t3 : decide (m < 10) = false := decide_eq_false (by omega)
  have s1 : ¬ (9223372036854775807 < S.size + K.size) := by omega
  have q1 : (m : Int) / 10 = (q : Int) := by omega
  have q2 : (m : Int) % 10 = (k : Int) := by omega
  have q3 : Int.tdiv (m : Int) 10 = (q : Int) := by rw [Int.tdiv_eq_ediv_of_nonneg (by omega)]; omega
  have q4 : Int.tmod (m : Int) 10 = (k : Int) := by rw [Int.tmod_eq_emod_of_nonneg (by omega)]; omega
  have k9 : k ≤ 9 := by omega
  have u1 : IntKind.i64.wrap (q : Int) = (q : Int) := IntWalk.i64_in _ (by omega)
  have u2 : IntKind.i64.wrap (48 + (k : Int)) = 48 + (k : Int) := IntWalk.i64_in _ (by omega)
  have u3 : IntKind.u8.wrap (48 + (k : Int)) = 48 + (k : Int) := by
    have : ∀ j : Fin 10, IntKind.u8.wrap (48 + ((j : Nat) : Int)) = 48 + ((j : Nat) : Int) := by decide +kernel
    exact this ⟨k, by omega⟩
  have u4 : IntKind.i64.wrap (k : Int) = (k : Int) := IntWalk.i64_in _ (by omega)
  have C := Lib.hid hS
  have HK := Lib.hid hK
  have HR := Lib.hid hR
  clear hS hK hR h hm eq ek k9
  go_enter Tryz.func78, Tryz.ntmps78
  go_wp2_with fail
  refine wp_region_par (α := Nat) 11 [] [[], [0], [0, 1], [], [3], [3, 4], [3, 4, 5], [3, 4, 5, 6], [3, 4, 5, 6, 7], [0, 1, 2, 3, 4, 5, 6, 7, 8], [0, 1, 2, 3, 4, 5, 6, 7, 8, 9]]
    [none, none, some (annVal (.string S)), none, none, none, none, some (annBlk (fun g => .slice (some ⟨g, 0, none⟩) 1 1) (fun g => g) 0 (.cells #[.int .u8 (48 + (k : Int))] 5)), none, none, none]
    [false, false, true, false, false, false, false, true, false, false, false] (by kernel_rfl) (by kernel_rfl) rfl (fun _ _ d _ _ h => by cases d <;> exact h) ?_
  simp only [List.take_succ_cons, List.take_zero, pickO, List.getElem?_cons_zero, List.getElem?_cons_succ]
  iterate 2 (refine can_pure0 rfl (fun K hK => ?_); go_simp; refine hK _ ?_; clear hK K)
  refine can_mem _ rfl (by go_simp) (fun W hW hG K hK => ?_) (fun K x2 hK => ?_)
  · go_simp
    refine (C.out W).mono ?_
    rintro e w' ⟨rfl, h⟩
    exact hK default w' h trivial
  refine hK _ ?_; clear hK K
  dsimp only [annVal]
  iterate 4 (refine can_pure0 rfl (fun K hK => ?_); go_simp; refine hK _ ?_; clear hK K)
  refine can_mem _ rfl (by go_simp) (fun W hW hG K hK => ?_) (fun K g hK => ?_)
  · go_simp
    exact hK W.heap.size _ ((Upd.refl _ W).alloc _) ⟨Nat.zero_le _, alloc0 _ _⟩
  refine hK _ ?_; clear hK K
  dsimp only [annBlk]
  refine can_pure rfl (fun K' hK => ?_)
  go_simp
  refine ⟨.string K, fun W hW hG => ?_, ?_⟩
  · have h2 := HK.out W g hG
    go_simp
  refine hK _ ?_; clear hK K'
  iterate 2 (refine can_pure0 rfl (fun K hK => ?_); go_simp; refine hK _ ?_; clear hK K)
  refine can_end (fun W hW hG => ?_)
  clear hG
  have HW := Lib.hid hW
  clear hW
  simp only [wpMix]
  go_wp2_with fail
  go_ret
  exact ⟨by rw [← HR.out]; rfl, HW.out⟩
set_option maxHeartbeats 1000000 in
set_option maxRecDepth 100000 in
theorem dec_neg (m : Nat) (S R : ByteArray) (w : World) (h : 0 < m) (hm : m ≤ 1000000000000) (hS : ∀ W, Calls Tryz.prog 78 #[.int .i64 (m : Int)] W fun e w' => e = .returned (.string S) ∧ Ext W w') (hs2 : S.size ≤ 21) (hR : (⟨#[45]⟩ : ByteArray) ++ S = R) : Calls Tryz.prog 78 #[.int .i64 (-(m : Int))] w fun e w' => e = .returned (.string R) ∧ Ext w w' := by
  have t1 : decide (-(m : Int) < 0) = true := decide_eq_true (by omega)
  have t4 : (0 : Int) - -(m : Int) = (m : Int) := by omega
  have t5 : decide (0 < m) = true := decide_eq_true (by omega)
  have s1 : ¬ (9223372036854775807 < 1 + S.size) := by omega
  have C := Lib.hid hS
  have HR := Lib.hid hR
  clear hS hR
  go_enter Tryz.func78, Tryz.ntmps78
  go_wp2_with fail
  refine (C.out _).mono ?_
  rintro e w4 ⟨rfl, h4⟩
  have H4 := Lib.hid h4
  clear h4
  go_wp2_with fail
  go_ret
  exact ⟨by rw [← HR.out]; rfl, H4.out⟩
theorem dec_pos : ∀ (m : Nat) (w : World), m ≤ 1000000000000 → Calls Tryz.prog 78 #[.int .i64 (m : Int)] w fun e w' => e = .returned (.string (bs (Lib.itoa (m : Int)))) ∧ Ext w w' := by
  intro m
  induction m using Nat.strongRecOn with
  | _ m ih =>
    intro w hm
    by_cases h : m < 10
    · exact dec_small m w h
    · refine dec_big m _ _ _ (bs [UInt8.ofNat (48 + m % 10)]) _ w h hm rfl rfl (fun W => ih (m / 10) (by omega) W (by omega)) (fun W g hg => enc1 _ W g hg) (Nat.le_refl 1) ?_ ?_
      · rw [bs_size]; exact Lib.itoa_length_le _ (by omega) (by omega)
      · rw [bs_app, ← dec_ge m h]
theorem dec_x (n : Int) (w : World) (h0 : -1000000000000 ≤ n) (h1 : n ≤ 1000000000000) : Calls Tryz.prog 78 #[.int .i64 n] w fun e w' => e = .returned (.string (bs (Lib.itoa n))) ∧ Ext w w' := by
  by_cases h : n < 0
  · obtain ⟨m, rfl⟩ : ∃ m : Nat, n = -(m : Int) := ⟨n.natAbs, by omega⟩
    refine dec_neg m _ _ w (by omega) (by omega) (fun W => dec_pos m W (by omega)) ?_ ?_
    · rw [bs_size]; exact Lib.itoa_length_le _ (by omega) (by omega)
    · rw [dec_ng m (by omega)]
      exact bs_app [45] _
  · obtain ⟨m, rfl⟩ : ∃ m : Nat, n = (m : Int) := ⟨n.toNat, by omega⟩
    exact dec_pos m w (by omega)

end Go.Proofs.YthpekfpeoglbgaaGreatDoor
