/- ref.Parse. -/
import Derived.Test.YtlipjgpfhmkdhaaDoorR30
namespace Go.Proofs.YtlipjgpfhmkdhaaDoor
open Go.RowKit Go.Hw
set_option linter.unusedVariables false
set_option linter.unusedSimpArgs false

set_option maxRecDepth 100000 in
set_option maxHeartbeats 1000000 in
theorem rp_msk (s : ByteArray) (w : World) (n d k k2 : Int) (hn : 0 ≤ n ∧ n ≤ 1000000000000) (hk : 0 ≤ k ∧ k ≤ 100000) (c1 : ∀ W, Calls Tryd.prog 50 #[.string s, .int .i64 1] W fun e w' => e = .returned (.tuple #[.int .i64 n, .int .i64 k]) ∧ W = w') (c2 : ∀ W, Calls Tryd.prog 50 #[.string s, .int .i64 (k + 1)] W fun e w' => e = .returned (.tuple #[.int .i64 d, .int .i64 k2]) ∧ W = w') (h0 : 0 < s.size) (hb : ((s[0]'h0).toNat = 45) ) (kk : Nat) (hkk : k = (kk : Int)) (h1 : kk < s.size) (hb2 : ((s[kk]'h1).toNat = 47) ) (h2 : k2 ≠ s.size) : Calls Tryd.prog 39 #[.string s] w fun e w' => e = .returned (.tuple #[.agg #[.int .i64 0, .int .i64 0], .bool false]) ∧ Ext w w' := by
  have C1 := Lib.hid c1
  have C2 := Lib.hid c2
  clear c1 c2
  obtain ⟨hn0, hn1⟩ := hn
  obtain ⟨hk0, hk1⟩ := hk
  have g1 : decide (0 < (s.size : Int)) = true := decide_eq_true (by omega)
  have g2 : decide (0 < s.size) = true := decide_eq_true h0
  have g3 : (0 : Int) < (s.size : Int) := by omega
  have g4 : (((s[0]'h0).toNat : Int) == 45) = true := beq_iff_eq.2 (by omega)
  subst hkk
  have g5 : decide ((kk : Int) < (s.size : Int)) = true := decide_eq_true (by omega)
  have g6 : decide (kk < s.size) = true := decide_eq_true h1
  have g7 : (kk : Int) < (s.size : Int) := by omega
  have g8 : (((s[kk]'h1).toNat : Int) == 47) = true := beq_iff_eq.2 (by omega)
  have g9 : (k2 != (s.size : Int)) = true := bne_iff_ne.2 h2
  have g10 : (k2 == (s.size : Int)) = false := beq_eq_false_iff_ne.2 h2
  have HZ : Hid (Ext w (w.alloc (.cells #[.int .i64 0, .int .i64 0] 24))) := (Upd.refl _ w).alloc _
  have HO : Hid (Ext w ((w.alloc (.cells #[.int .i64 0, .int .i64 0] 24)).alloc (.cells #[.int .i64 (-n), .int .i64 d] 24))) := ((Upd.refl _ w).alloc _).alloc _
  have HBZ : Hid (∀ W, Ext ((w.alloc (.cells #[.int .i64 0, .int .i64 0] 24)).alloc (.cells #[.int .i64 (-n), .int .i64 d] 24)) W → W.heap[w.heap.size]? = some (.cells #[.int .i64 0, .int .i64 0] 24)) := fun W hW => hW.heap (allocOld (alloc0 w _) _) (fun h => h)
  have HBO : Hid (∀ W, Ext ((w.alloc (.cells #[.int .i64 0, .int .i64 0] 24)).alloc (.cells #[.int .i64 (-n), .int .i64 d] 24)) W → W.heap[w.heap.size + 1]? = some (.cells #[.int .i64 (-n), .int .i64 d] 24)) := fun W hW => hW.heap (alloc_at (w.alloc (.cells #[.int .i64 0, .int .i64 0] 24)) _ (n := w.heap.size + 1) (by simp)) (fun h => h)
  have z := HBO.out _ (Upd.refl _ _)
  have k0 := cellRow z 0 _ rfl
  have k1 := cellRow z 1 _ rfl
  clear z
  go_enter Tryd.func39, Tryd.ntmps39
  go_wp2_with fail
  refine (C1.out _).mono ?_
  rintro e w4 ⟨rfl, rfl⟩
  go_wp2_with fail
  refine (C2.out _).mono ?_
  rintro e w4 ⟨rfl, rfl⟩
  have hz6 := HBZ.out _ (Upd.refl _ _)
  have z0 := cellRow hz6 0 _ rfl
  have z1 := cellRow hz6 1 _ rfl
  have m0 := frozenRow hz6 0
  have m1 := frozenRow hz6 1
  have hfin := setBlock (setBlock hz6 0 (.int .i64 0)) 1 (.int .i64 0)
  have y0 := cellRow hfin 0 _ rfl
  have y1 := cellRow hfin 1 _ rfl
  clear hz6 hfin
  simp at y0 y1
  go_wp2_with fail
  refine bodyPost_ret (v := .tuple #[.agg #[.int .i64 0, .int .i64 0], .bool false]) (by simp [results, Tryd.results39, go_sem, z0, z1, y0, y1]) rfl ⟨rfl, ?_⟩
  first | exact ((HO.out.ext (Upd.refl _ _)).setNew (Nat.le_refl _) _).setNew (Nat.le_refl _) _ | exact HO.out.ext (Upd.refl _ _)

set_option maxRecDepth 100000 in
set_option maxHeartbeats 1000000 in
theorem rp_msv (s : ByteArray) (w : World) (n d k k2 : Int) (hn : 0 ≤ n ∧ n ≤ 1000000000000) (hk : 0 ≤ k ∧ k ≤ 100000) (c1 : ∀ W, Calls Tryd.prog 50 #[.string s, .int .i64 1] W fun e w' => e = .returned (.tuple #[.int .i64 n, .int .i64 k]) ∧ W = w') (c2 : ∀ W, Calls Tryd.prog 50 #[.string s, .int .i64 (k + 1)] W fun e w' => e = .returned (.tuple #[.int .i64 d, .int .i64 k2]) ∧ W = w') (c3 : ∀ W, Calls Tryd.prog 16 #[.agg #[.int .i64 (-n), .int .i64 d]] W fun e w' => e = .returned (.bool false) ∧ Ext W w') (h0 : 0 < s.size) (hb : ((s[0]'h0).toNat = 45) ) (kk : Nat) (hkk : k = (kk : Int)) (h1 : kk < s.size) (hb2 : ((s[kk]'h1).toNat = 47) ) (h2 : k2 = s.size) : Calls Tryd.prog 39 #[.string s] w fun e w' => e = .returned (.tuple #[.agg #[.int .i64 0, .int .i64 0], .bool false]) ∧ Ext w w' := by
  have C1 := Lib.hid c1
  have C2 := Lib.hid c2
  have C3 := Lib.hid c3
  clear c1 c2 c3
  obtain ⟨hn0, hn1⟩ := hn
  obtain ⟨hk0, hk1⟩ := hk
  have g1 : decide (0 < (s.size : Int)) = true := decide_eq_true (by omega)
  have g2 : decide (0 < s.size) = true := decide_eq_true h0
  have g3 : (0 : Int) < (s.size : Int) := by omega
  have g4 : (((s[0]'h0).toNat : Int) == 45) = true := beq_iff_eq.2 (by omega)
  subst hkk
  have g5 : decide ((kk : Int) < (s.size : Int)) = true := decide_eq_true (by omega)
  have g6 : decide (kk < s.size) = true := decide_eq_true h1
  have g7 : (kk : Int) < (s.size : Int) := by omega
  have g8 : (((s[kk]'h1).toNat : Int) == 47) = true := beq_iff_eq.2 (by omega)
  have g9 : (k2 != (s.size : Int)) = false := by rw [h2]; simp
  have g10 : (k2 == (s.size : Int)) = true := beq_iff_eq.2 h2
  have HZ : Hid (Ext w (w.alloc (.cells #[.int .i64 0, .int .i64 0] 24))) := (Upd.refl _ w).alloc _
  have HO : Hid (Ext w ((w.alloc (.cells #[.int .i64 0, .int .i64 0] 24)).alloc (.cells #[.int .i64 (-n), .int .i64 d] 24))) := ((Upd.refl _ w).alloc _).alloc _
  have HBZ : Hid (∀ W, Ext ((w.alloc (.cells #[.int .i64 0, .int .i64 0] 24)).alloc (.cells #[.int .i64 (-n), .int .i64 d] 24)) W → W.heap[w.heap.size]? = some (.cells #[.int .i64 0, .int .i64 0] 24)) := fun W hW => hW.heap (allocOld (alloc0 w _) _) (fun h => h)
  have HBO : Hid (∀ W, Ext ((w.alloc (.cells #[.int .i64 0, .int .i64 0] 24)).alloc (.cells #[.int .i64 (-n), .int .i64 d] 24)) W → W.heap[w.heap.size + 1]? = some (.cells #[.int .i64 (-n), .int .i64 d] 24)) := fun W hW => hW.heap (alloc_at (w.alloc (.cells #[.int .i64 0, .int .i64 0] 24)) _ (n := w.heap.size + 1) (by simp)) (fun h => h)
  have z := HBO.out _ (Upd.refl _ _)
  have k0 := cellRow z 0 _ rfl
  have k1 := cellRow z 1 _ rfl
  clear z
  go_enter Tryd.func39, Tryd.ntmps39
  go_wp2_with fail
  refine (C1.out _).mono ?_
  rintro e w4 ⟨rfl, rfl⟩
  go_wp2_with fail
  refine (C2.out _).mono ?_
  rintro e w4 ⟨rfl, rfl⟩
  go_wp2_with fail
  refine (C3.out _).mono ?_
  rintro e w5 ⟨rfl, h5⟩
  have H5 := Lib.hid h5
  clear h5 k0 k1
  have z := HBO.out _ H5.out
  have k0 := cellRow z 0 _ rfl
  have k1 := cellRow z 1 _ rfl
  clear z
  have hz6 := HBZ.out _ H5.out
  have z0 := cellRow hz6 0 _ rfl
  have z1 := cellRow hz6 1 _ rfl
  have m0 := frozenRow hz6 0
  have m1 := frozenRow hz6 1
  have hfin := setBlock (setBlock hz6 0 (.int .i64 0)) 1 (.int .i64 0)
  have y0 := cellRow hfin 0 _ rfl
  have y1 := cellRow hfin 1 _ rfl
  clear hz6 hfin
  simp at y0 y1
  go_wp2_with fail
  refine bodyPost_ret (v := .tuple #[.agg #[.int .i64 0, .int .i64 0], .bool false]) (by simp [results, Tryd.results39, go_sem, z0, z1, y0, y1]) rfl ⟨rfl, ?_⟩
  first | exact ((HO.out.ext H5.out).setNew (Nat.le_refl _) _).setNew (Nat.le_refl _) _ | exact HO.out.ext H5.out

set_option maxRecDepth 100000 in
set_option maxHeartbeats 1000000 in
theorem rp_mst (s : ByteArray) (w : World) (n d k k2 : Int) (hn : 0 ≤ n ∧ n ≤ 1000000000000) (hk : 0 ≤ k ∧ k ≤ 100000) (c1 : ∀ W, Calls Tryd.prog 50 #[.string s, .int .i64 1] W fun e w' => e = .returned (.tuple #[.int .i64 n, .int .i64 k]) ∧ W = w') (c2 : ∀ W, Calls Tryd.prog 50 #[.string s, .int .i64 (k + 1)] W fun e w' => e = .returned (.tuple #[.int .i64 d, .int .i64 k2]) ∧ W = w') (c3 : ∀ W, Calls Tryd.prog 16 #[.agg #[.int .i64 (-n), .int .i64 d]] W fun e w' => e = .returned (.bool true) ∧ Ext W w') (t : ByteArray) (ht : (t.toList == s.toList) = false) (c4 : ∀ W, Calls Tryd.prog 41 #[.agg #[.int .i64 (-n), .int .i64 d]] W fun e w' => e = .returned (.string t) ∧ Ext W w') (h0 : 0 < s.size) (hb : ((s[0]'h0).toNat = 45) ) (kk : Nat) (hkk : k = (kk : Int)) (h1 : kk < s.size) (hb2 : ((s[kk]'h1).toNat = 47) ) (h2 : k2 = s.size) : Calls Tryd.prog 39 #[.string s] w fun e w' => e = .returned (.tuple #[.agg #[.int .i64 0, .int .i64 0], .bool false]) ∧ Ext w w' := by
  have C1 := Lib.hid c1
  have C2 := Lib.hid c2
  have C3 := Lib.hid c3
  have C4 := Lib.hid c4
  clear c1 c2 c3 c4
  obtain ⟨hn0, hn1⟩ := hn
  obtain ⟨hk0, hk1⟩ := hk
  have g1 : decide (0 < (s.size : Int)) = true := decide_eq_true (by omega)
  have g2 : decide (0 < s.size) = true := decide_eq_true h0
  have g3 : (0 : Int) < (s.size : Int) := by omega
  have g4 : (((s[0]'h0).toNat : Int) == 45) = true := beq_iff_eq.2 (by omega)
  subst hkk
  have g5 : decide ((kk : Int) < (s.size : Int)) = true := decide_eq_true (by omega)
  have g6 : decide (kk < s.size) = true := decide_eq_true h1
  have g7 : (kk : Int) < (s.size : Int) := by omega
  have g8 : (((s[kk]'h1).toNat : Int) == 47) = true := beq_iff_eq.2 (by omega)
  have g9 : (k2 != (s.size : Int)) = false := by rw [h2]; simp
  have g10 : (k2 == (s.size : Int)) = true := beq_iff_eq.2 h2
  have HZ : Hid (Ext w (w.alloc (.cells #[.int .i64 0, .int .i64 0] 24))) := (Upd.refl _ w).alloc _
  have HO : Hid (Ext w ((w.alloc (.cells #[.int .i64 0, .int .i64 0] 24)).alloc (.cells #[.int .i64 (-n), .int .i64 d] 24))) := ((Upd.refl _ w).alloc _).alloc _
  have HBZ : Hid (∀ W, Ext ((w.alloc (.cells #[.int .i64 0, .int .i64 0] 24)).alloc (.cells #[.int .i64 (-n), .int .i64 d] 24)) W → W.heap[w.heap.size]? = some (.cells #[.int .i64 0, .int .i64 0] 24)) := fun W hW => hW.heap (allocOld (alloc0 w _) _) (fun h => h)
  have HBO : Hid (∀ W, Ext ((w.alloc (.cells #[.int .i64 0, .int .i64 0] 24)).alloc (.cells #[.int .i64 (-n), .int .i64 d] 24)) W → W.heap[w.heap.size + 1]? = some (.cells #[.int .i64 (-n), .int .i64 d] 24)) := fun W hW => hW.heap (alloc_at (w.alloc (.cells #[.int .i64 0, .int .i64 0] 24)) _ (n := w.heap.size + 1) (by simp)) (fun h => h)
  have z := HBO.out _ (Upd.refl _ _)
  have k0 := cellRow z 0 _ rfl
  have k1 := cellRow z 1 _ rfl
  clear z
  go_enter Tryd.func39, Tryd.ntmps39
  go_wp2_with fail
  refine (C1.out _).mono ?_
  rintro e w4 ⟨rfl, rfl⟩
  go_wp2_with fail
  refine (C2.out _).mono ?_
  rintro e w4 ⟨rfl, rfl⟩
  go_wp2_with fail
  refine (C3.out _).mono ?_
  rintro e w5 ⟨rfl, h5⟩
  have H5 := Lib.hid h5
  clear h5 k0 k1
  have z := HBO.out _ H5.out
  have k0 := cellRow z 0 _ rfl
  have k1 := cellRow z 1 _ rfl
  clear z
  go_wp2_with fail
  refine (C4.out _).mono ?_
  rintro e w6 ⟨rfl, h6⟩
  have H6 := Lib.hid (H5.out.ext h6)
  clear h6 k0 k1
  have z := HBO.out _ H6.out
  have k0 := cellRow z 0 _ rfl
  have k1 := cellRow z 1 _ rfl
  clear z
  have hz6 := HBZ.out _ H6.out
  have z0 := cellRow hz6 0 _ rfl
  have z1 := cellRow hz6 1 _ rfl
  have m0 := frozenRow hz6 0
  have m1 := frozenRow hz6 1
  have hfin := setBlock (setBlock hz6 0 (.int .i64 0)) 1 (.int .i64 0)
  have y0 := cellRow hfin 0 _ rfl
  have y1 := cellRow hfin 1 _ rfl
  clear hz6 hfin
  simp at y0 y1
  go_wp2_with fail
  refine bodyPost_ret (v := .tuple #[.agg #[.int .i64 0, .int .i64 0], .bool false]) (by simp [results, Tryd.results39, go_sem, z0, z1, y0, y1]) rfl ⟨rfl, ?_⟩
  first | exact ((HO.out.ext H6.out).setNew (Nat.le_refl _) _).setNew (Nat.le_refl _) _ | exact HO.out.ext H6.out

set_option maxRecDepth 100000 in
set_option maxHeartbeats 1000000 in
theorem rp_msg (s : ByteArray) (w : World) (n d k k2 : Int) (hn : 0 ≤ n ∧ n ≤ 1000000000000) (hk : 0 ≤ k ∧ k ≤ 100000) (c1 : ∀ W, Calls Tryd.prog 50 #[.string s, .int .i64 1] W fun e w' => e = .returned (.tuple #[.int .i64 n, .int .i64 k]) ∧ W = w') (c2 : ∀ W, Calls Tryd.prog 50 #[.string s, .int .i64 (k + 1)] W fun e w' => e = .returned (.tuple #[.int .i64 d, .int .i64 k2]) ∧ W = w') (c3 : ∀ W, Calls Tryd.prog 16 #[.agg #[.int .i64 (-n), .int .i64 d]] W fun e w' => e = .returned (.bool true) ∧ Ext W w') (c4 : ∀ W, Calls Tryd.prog 41 #[.agg #[.int .i64 (-n), .int .i64 d]] W fun e w' => e = .returned (.string s) ∧ Ext W w') (h0 : 0 < s.size) (hb : ((s[0]'h0).toNat = 45) ) (kk : Nat) (hkk : k = (kk : Int)) (h1 : kk < s.size) (hb2 : ((s[kk]'h1).toNat = 47) ) (h2 : k2 = s.size) : Calls Tryd.prog 39 #[.string s] w fun e w' => e = .returned (.tuple #[.agg #[.int .i64 (-n), .int .i64 d], .bool true]) ∧ Ext w w' := by
  have C1 := Lib.hid c1
  have C2 := Lib.hid c2
  have C3 := Lib.hid c3
  have C4 := Lib.hid c4
  clear c1 c2 c3 c4
  obtain ⟨hn0, hn1⟩ := hn
  obtain ⟨hk0, hk1⟩ := hk
  have g1 : decide (0 < (s.size : Int)) = true := decide_eq_true (by omega)
  have g2 : decide (0 < s.size) = true := decide_eq_true h0
  have g3 : (0 : Int) < (s.size : Int) := by omega
  have g4 : (((s[0]'h0).toNat : Int) == 45) = true := beq_iff_eq.2 (by omega)
  subst hkk
  have g5 : decide ((kk : Int) < (s.size : Int)) = true := decide_eq_true (by omega)
  have g6 : decide (kk < s.size) = true := decide_eq_true h1
  have g7 : (kk : Int) < (s.size : Int) := by omega
  have g8 : (((s[kk]'h1).toNat : Int) == 47) = true := beq_iff_eq.2 (by omega)
  have g9 : (k2 != (s.size : Int)) = false := by rw [h2]; simp
  have g10 : (k2 == (s.size : Int)) = true := beq_iff_eq.2 h2
  have HZ : Hid (Ext w (w.alloc (.cells #[.int .i64 0, .int .i64 0] 24))) := (Upd.refl _ w).alloc _
  have HO : Hid (Ext w ((w.alloc (.cells #[.int .i64 0, .int .i64 0] 24)).alloc (.cells #[.int .i64 (-n), .int .i64 d] 24))) := ((Upd.refl _ w).alloc _).alloc _
  have HBZ : Hid (∀ W, Ext ((w.alloc (.cells #[.int .i64 0, .int .i64 0] 24)).alloc (.cells #[.int .i64 (-n), .int .i64 d] 24)) W → W.heap[w.heap.size]? = some (.cells #[.int .i64 0, .int .i64 0] 24)) := fun W hW => hW.heap (allocOld (alloc0 w _) _) (fun h => h)
  have HBO : Hid (∀ W, Ext ((w.alloc (.cells #[.int .i64 0, .int .i64 0] 24)).alloc (.cells #[.int .i64 (-n), .int .i64 d] 24)) W → W.heap[w.heap.size + 1]? = some (.cells #[.int .i64 (-n), .int .i64 d] 24)) := fun W hW => hW.heap (alloc_at (w.alloc (.cells #[.int .i64 0, .int .i64 0] 24)) _ (n := w.heap.size + 1) (by simp)) (fun h => h)
  have z := HBO.out _ (Upd.refl _ _)
  have k0 := cellRow z 0 _ rfl
  have k1 := cellRow z 1 _ rfl
  clear z
  go_enter Tryd.func39, Tryd.ntmps39
  go_wp2_with fail
  refine (C1.out _).mono ?_
  rintro e w4 ⟨rfl, rfl⟩
  go_wp2_with fail
  refine (C2.out _).mono ?_
  rintro e w4 ⟨rfl, rfl⟩
  go_wp2_with fail
  refine (C3.out _).mono ?_
  rintro e w5 ⟨rfl, h5⟩
  have H5 := Lib.hid h5
  clear h5 k0 k1
  have z := HBO.out _ H5.out
  have k0 := cellRow z 0 _ rfl
  have k1 := cellRow z 1 _ rfl
  clear z
  go_wp2_with fail
  refine (C4.out _).mono ?_
  rintro e w6 ⟨rfl, h6⟩
  have H6 := Lib.hid (H5.out.ext h6)
  clear h6 k0 k1
  have z := HBO.out _ H6.out
  have k0 := cellRow z 0 _ rfl
  have k1 := cellRow z 1 _ rfl
  clear z
  have hz6 := HBZ.out _ H6.out
  have z0 := cellRow hz6 0 _ rfl
  have z1 := cellRow hz6 1 _ rfl
  have m0 := frozenRow hz6 0
  have m1 := frozenRow hz6 1
  have hfin := setBlock (setBlock hz6 0 (.int .i64 (-n))) 1 (.int .i64 d)
  have y0 := cellRow hfin 0 _ rfl
  have y1 := cellRow hfin 1 _ rfl
  clear hz6 hfin
  simp at y0 y1
  go_wp2_with fail
  refine bodyPost_ret (v := .tuple #[.agg #[.int .i64 (-n), .int .i64 d], .bool true]) (by simp [results, Tryd.results39, go_sem, z0, z1, y0, y1]) rfl ⟨rfl, ?_⟩
  first | exact ((HO.out.ext H6.out).setNew (Nat.le_refl _) _).setNew (Nat.le_refl _) _ | exact HO.out.ext H6.out

set_option maxRecDepth 100000 in
set_option maxHeartbeats 1000000 in
theorem rp_mok (s : ByteArray) (w : World) (n d k k2 : Int) (hn : 0 ≤ n ∧ n ≤ 1000000000000) (hk : 0 ≤ k ∧ k ≤ 100000) (c1 : ∀ W, Calls Tryd.prog 50 #[.string s, .int .i64 1] W fun e w' => e = .returned (.tuple #[.int .i64 n, .int .i64 k]) ∧ W = w') (h0 : 0 < s.size) (hb : ((s[0]'h0).toNat = 45) ) (kk : Nat) (hkk : k = (kk : Int)) (h1 : kk < s.size) (hb2 : ((s[kk]'h1).toNat = 47) → False) (h2 : k ≠ s.size) : Calls Tryd.prog 39 #[.string s] w fun e w' => e = .returned (.tuple #[.agg #[.int .i64 0, .int .i64 0], .bool false]) ∧ Ext w w' := by
  have C1 := Lib.hid c1
  clear c1
  obtain ⟨hn0, hn1⟩ := hn
  obtain ⟨hk0, hk1⟩ := hk
  have g1 : decide (0 < (s.size : Int)) = true := decide_eq_true (by omega)
  have g2 : decide (0 < s.size) = true := decide_eq_true h0
  have g3 : (0 : Int) < (s.size : Int) := by omega
  have g4 : (((s[0]'h0).toNat : Int) == 45) = true := beq_iff_eq.2 (by omega)
  subst hkk
  have g5 : decide ((kk : Int) < (s.size : Int)) = true := decide_eq_true (by omega)
  have g6 : decide (kk < s.size) = true := decide_eq_true h1
  have g7 : (kk : Int) < (s.size : Int) := by omega
  have g8 : (((s[kk]'h1).toNat : Int) == 47) = false := beq_eq_false_iff_ne.2 (fun e => hb2 (by omega))
  have g9 : ((kk : Int) != (s.size : Int)) = true := bne_iff_ne.2 h2
  have g10 : ((kk : Int) == (s.size : Int)) = false := beq_eq_false_iff_ne.2 h2
  have HZ : Hid (Ext w (w.alloc (.cells #[.int .i64 0, .int .i64 0] 24))) := (Upd.refl _ w).alloc _
  have HO : Hid (Ext w ((w.alloc (.cells #[.int .i64 0, .int .i64 0] 24)).alloc (.cells #[.int .i64 (-n), .int .i64 1] 24))) := ((Upd.refl _ w).alloc _).alloc _
  have HBZ : Hid (∀ W, Ext ((w.alloc (.cells #[.int .i64 0, .int .i64 0] 24)).alloc (.cells #[.int .i64 (-n), .int .i64 1] 24)) W → W.heap[w.heap.size]? = some (.cells #[.int .i64 0, .int .i64 0] 24)) := fun W hW => hW.heap (allocOld (alloc0 w _) _) (fun h => h)
  have HBO : Hid (∀ W, Ext ((w.alloc (.cells #[.int .i64 0, .int .i64 0] 24)).alloc (.cells #[.int .i64 (-n), .int .i64 1] 24)) W → W.heap[w.heap.size + 1]? = some (.cells #[.int .i64 (-n), .int .i64 1] 24)) := fun W hW => hW.heap (alloc_at (w.alloc (.cells #[.int .i64 0, .int .i64 0] 24)) _ (n := w.heap.size + 1) (by simp)) (fun h => h)
  have z := HBO.out _ (Upd.refl _ _)
  have k0 := cellRow z 0 _ rfl
  have k1 := cellRow z 1 _ rfl
  clear z
  go_enter Tryd.func39, Tryd.ntmps39
  go_wp2_with fail
  refine (C1.out _).mono ?_
  rintro e w4 ⟨rfl, rfl⟩
  have hz6 := HBZ.out _ (Upd.refl _ _)
  have z0 := cellRow hz6 0 _ rfl
  have z1 := cellRow hz6 1 _ rfl
  have m0 := frozenRow hz6 0
  have m1 := frozenRow hz6 1
  have hfin := setBlock (setBlock hz6 0 (.int .i64 0)) 1 (.int .i64 0)
  have y0 := cellRow hfin 0 _ rfl
  have y1 := cellRow hfin 1 _ rfl
  clear hz6 hfin
  simp at y0 y1
  go_wp2_with fail
  refine bodyPost_ret (v := .tuple #[.agg #[.int .i64 0, .int .i64 0], .bool false]) (by simp [results, Tryd.results39, go_sem, z0, z1, y0, y1]) rfl ⟨rfl, ?_⟩
  first | exact ((HO.out.ext (Upd.refl _ _)).setNew (Nat.le_refl _) _).setNew (Nat.le_refl _) _ | exact HO.out.ext (Upd.refl _ _)

set_option maxRecDepth 100000 in
set_option maxHeartbeats 1000000 in
theorem rp_mxv (s : ByteArray) (w : World) (n d k k2 : Int) (hn : 0 ≤ n ∧ n ≤ 1000000000000) (hk : 0 ≤ k ∧ k ≤ 100000) (c1 : ∀ W, Calls Tryd.prog 50 #[.string s, .int .i64 1] W fun e w' => e = .returned (.tuple #[.int .i64 n, .int .i64 k]) ∧ W = w') (c3 : ∀ W, Calls Tryd.prog 16 #[.agg #[.int .i64 (-n), .int .i64 1]] W fun e w' => e = .returned (.bool false) ∧ Ext W w') (h0 : 0 < s.size) (hb : ((s[0]'h0).toNat = 45) ) (h1 : ¬ (k < s.size)) (h2 : k = s.size) : Calls Tryd.prog 39 #[.string s] w fun e w' => e = .returned (.tuple #[.agg #[.int .i64 0, .int .i64 0], .bool false]) ∧ Ext w w' := by
  have C1 := Lib.hid c1
  have C3 := Lib.hid c3
  clear c1 c3
  obtain ⟨hn0, hn1⟩ := hn
  obtain ⟨hk0, hk1⟩ := hk
  have g1 : decide (0 < (s.size : Int)) = true := decide_eq_true (by omega)
  have g2 : decide (0 < s.size) = true := decide_eq_true h0
  have g3 : (0 : Int) < (s.size : Int) := by omega
  have g4 : (((s[0]'h0).toNat : Int) == 45) = true := beq_iff_eq.2 (by omega)
  have g5 : decide (k < (s.size : Int)) = false := decide_eq_false h1
  have g9 : (k != (s.size : Int)) = false := by rw [h2]; simp
  have g10 : (k == (s.size : Int)) = true := beq_iff_eq.2 h2
  have HZ : Hid (Ext w (w.alloc (.cells #[.int .i64 0, .int .i64 0] 24))) := (Upd.refl _ w).alloc _
  have HO : Hid (Ext w ((w.alloc (.cells #[.int .i64 0, .int .i64 0] 24)).alloc (.cells #[.int .i64 (-n), .int .i64 1] 24))) := ((Upd.refl _ w).alloc _).alloc _
  have HBZ : Hid (∀ W, Ext ((w.alloc (.cells #[.int .i64 0, .int .i64 0] 24)).alloc (.cells #[.int .i64 (-n), .int .i64 1] 24)) W → W.heap[w.heap.size]? = some (.cells #[.int .i64 0, .int .i64 0] 24)) := fun W hW => hW.heap (allocOld (alloc0 w _) _) (fun h => h)
  have HBO : Hid (∀ W, Ext ((w.alloc (.cells #[.int .i64 0, .int .i64 0] 24)).alloc (.cells #[.int .i64 (-n), .int .i64 1] 24)) W → W.heap[w.heap.size + 1]? = some (.cells #[.int .i64 (-n), .int .i64 1] 24)) := fun W hW => hW.heap (alloc_at (w.alloc (.cells #[.int .i64 0, .int .i64 0] 24)) _ (n := w.heap.size + 1) (by simp)) (fun h => h)
  have z := HBO.out _ (Upd.refl _ _)
  have k0 := cellRow z 0 _ rfl
  have k1 := cellRow z 1 _ rfl
  clear z
  go_enter Tryd.func39, Tryd.ntmps39
  go_wp2_with fail
  refine (C1.out _).mono ?_
  rintro e w4 ⟨rfl, rfl⟩
  go_wp2_with fail
  refine (C3.out _).mono ?_
  rintro e w5 ⟨rfl, h5⟩
  have H5 := Lib.hid h5
  clear h5 k0 k1
  have z := HBO.out _ H5.out
  have k0 := cellRow z 0 _ rfl
  have k1 := cellRow z 1 _ rfl
  clear z
  have hz6 := HBZ.out _ H5.out
  have z0 := cellRow hz6 0 _ rfl
  have z1 := cellRow hz6 1 _ rfl
  have m0 := frozenRow hz6 0
  have m1 := frozenRow hz6 1
  have hfin := setBlock (setBlock hz6 0 (.int .i64 0)) 1 (.int .i64 0)
  have y0 := cellRow hfin 0 _ rfl
  have y1 := cellRow hfin 1 _ rfl
  clear hz6 hfin
  simp at y0 y1
  go_wp2_with fail
  refine bodyPost_ret (v := .tuple #[.agg #[.int .i64 0, .int .i64 0], .bool false]) (by simp [results, Tryd.results39, go_sem, z0, z1, y0, y1]) rfl ⟨rfl, ?_⟩
  first | exact ((HO.out.ext H5.out).setNew (Nat.le_refl _) _).setNew (Nat.le_refl _) _ | exact HO.out.ext H5.out

set_option maxRecDepth 100000 in
set_option maxHeartbeats 1000000 in
theorem rp_mxt (s : ByteArray) (w : World) (n d k k2 : Int) (hn : 0 ≤ n ∧ n ≤ 1000000000000) (hk : 0 ≤ k ∧ k ≤ 100000) (c1 : ∀ W, Calls Tryd.prog 50 #[.string s, .int .i64 1] W fun e w' => e = .returned (.tuple #[.int .i64 n, .int .i64 k]) ∧ W = w') (c3 : ∀ W, Calls Tryd.prog 16 #[.agg #[.int .i64 (-n), .int .i64 1]] W fun e w' => e = .returned (.bool true) ∧ Ext W w') (t : ByteArray) (ht : (t.toList == s.toList) = false) (c4 : ∀ W, Calls Tryd.prog 41 #[.agg #[.int .i64 (-n), .int .i64 1]] W fun e w' => e = .returned (.string t) ∧ Ext W w') (h0 : 0 < s.size) (hb : ((s[0]'h0).toNat = 45) ) (h1 : ¬ (k < s.size)) (h2 : k = s.size) : Calls Tryd.prog 39 #[.string s] w fun e w' => e = .returned (.tuple #[.agg #[.int .i64 0, .int .i64 0], .bool false]) ∧ Ext w w' := by
  have C1 := Lib.hid c1
  have C3 := Lib.hid c3
  have C4 := Lib.hid c4
  clear c1 c3 c4
  obtain ⟨hn0, hn1⟩ := hn
  obtain ⟨hk0, hk1⟩ := hk
  have g1 : decide (0 < (s.size : Int)) = true := decide_eq_true (by omega)
  have g2 : decide (0 < s.size) = true := decide_eq_true h0
  have g3 : (0 : Int) < (s.size : Int) := by omega
  have g4 : (((s[0]'h0).toNat : Int) == 45) = true := beq_iff_eq.2 (by omega)
  have g5 : decide (k < (s.size : Int)) = false := decide_eq_false h1
  have g9 : (k != (s.size : Int)) = false := by rw [h2]; simp
  have g10 : (k == (s.size : Int)) = true := beq_iff_eq.2 h2
  have HZ : Hid (Ext w (w.alloc (.cells #[.int .i64 0, .int .i64 0] 24))) := (Upd.refl _ w).alloc _
  have HO : Hid (Ext w ((w.alloc (.cells #[.int .i64 0, .int .i64 0] 24)).alloc (.cells #[.int .i64 (-n), .int .i64 1] 24))) := ((Upd.refl _ w).alloc _).alloc _
  have HBZ : Hid (∀ W, Ext ((w.alloc (.cells #[.int .i64 0, .int .i64 0] 24)).alloc (.cells #[.int .i64 (-n), .int .i64 1] 24)) W → W.heap[w.heap.size]? = some (.cells #[.int .i64 0, .int .i64 0] 24)) := fun W hW => hW.heap (allocOld (alloc0 w _) _) (fun h => h)
  have HBO : Hid (∀ W, Ext ((w.alloc (.cells #[.int .i64 0, .int .i64 0] 24)).alloc (.cells #[.int .i64 (-n), .int .i64 1] 24)) W → W.heap[w.heap.size + 1]? = some (.cells #[.int .i64 (-n), .int .i64 1] 24)) := fun W hW => hW.heap (alloc_at (w.alloc (.cells #[.int .i64 0, .int .i64 0] 24)) _ (n := w.heap.size + 1) (by simp)) (fun h => h)
  have z := HBO.out _ (Upd.refl _ _)
  have k0 := cellRow z 0 _ rfl
  have k1 := cellRow z 1 _ rfl
  clear z
  go_enter Tryd.func39, Tryd.ntmps39
  go_wp2_with fail
  refine (C1.out _).mono ?_
  rintro e w4 ⟨rfl, rfl⟩
  go_wp2_with fail
  refine (C3.out _).mono ?_
  rintro e w5 ⟨rfl, h5⟩
  have H5 := Lib.hid h5
  clear h5 k0 k1
  have z := HBO.out _ H5.out
  have k0 := cellRow z 0 _ rfl
  have k1 := cellRow z 1 _ rfl
  clear z
  go_wp2_with fail
  refine (C4.out _).mono ?_
  rintro e w6 ⟨rfl, h6⟩
  have H6 := Lib.hid (H5.out.ext h6)
  clear h6 k0 k1
  have z := HBO.out _ H6.out
  have k0 := cellRow z 0 _ rfl
  have k1 := cellRow z 1 _ rfl
  clear z
  have hz6 := HBZ.out _ H6.out
  have z0 := cellRow hz6 0 _ rfl
  have z1 := cellRow hz6 1 _ rfl
  have m0 := frozenRow hz6 0
  have m1 := frozenRow hz6 1
  have hfin := setBlock (setBlock hz6 0 (.int .i64 0)) 1 (.int .i64 0)
  have y0 := cellRow hfin 0 _ rfl
  have y1 := cellRow hfin 1 _ rfl
  clear hz6 hfin
  simp at y0 y1
  go_wp2_with fail
  refine bodyPost_ret (v := .tuple #[.agg #[.int .i64 0, .int .i64 0], .bool false]) (by simp [results, Tryd.results39, go_sem, z0, z1, y0, y1]) rfl ⟨rfl, ?_⟩
  first | exact ((HO.out.ext H6.out).setNew (Nat.le_refl _) _).setNew (Nat.le_refl _) _ | exact HO.out.ext H6.out

set_option maxRecDepth 100000 in
set_option maxHeartbeats 1000000 in
theorem rp_mxg (s : ByteArray) (w : World) (n d k k2 : Int) (hn : 0 ≤ n ∧ n ≤ 1000000000000) (hk : 0 ≤ k ∧ k ≤ 100000) (c1 : ∀ W, Calls Tryd.prog 50 #[.string s, .int .i64 1] W fun e w' => e = .returned (.tuple #[.int .i64 n, .int .i64 k]) ∧ W = w') (c3 : ∀ W, Calls Tryd.prog 16 #[.agg #[.int .i64 (-n), .int .i64 1]] W fun e w' => e = .returned (.bool true) ∧ Ext W w') (c4 : ∀ W, Calls Tryd.prog 41 #[.agg #[.int .i64 (-n), .int .i64 1]] W fun e w' => e = .returned (.string s) ∧ Ext W w') (h0 : 0 < s.size) (hb : ((s[0]'h0).toNat = 45) ) (h1 : ¬ (k < s.size)) (h2 : k = s.size) : Calls Tryd.prog 39 #[.string s] w fun e w' => e = .returned (.tuple #[.agg #[.int .i64 (-n), .int .i64 1], .bool true]) ∧ Ext w w' := by
  have C1 := Lib.hid c1
  have C3 := Lib.hid c3
  have C4 := Lib.hid c4
  clear c1 c3 c4
  obtain ⟨hn0, hn1⟩ := hn
  obtain ⟨hk0, hk1⟩ := hk
  have g1 : decide (0 < (s.size : Int)) = true := decide_eq_true (by omega)
  have g2 : decide (0 < s.size) = true := decide_eq_true h0
  have g3 : (0 : Int) < (s.size : Int) := by omega
  have g4 : (((s[0]'h0).toNat : Int) == 45) = true := beq_iff_eq.2 (by omega)
  have g5 : decide (k < (s.size : Int)) = false := decide_eq_false h1
  have g9 : (k != (s.size : Int)) = false := by rw [h2]; simp
  have g10 : (k == (s.size : Int)) = true := beq_iff_eq.2 h2
  have HZ : Hid (Ext w (w.alloc (.cells #[.int .i64 0, .int .i64 0] 24))) := (Upd.refl _ w).alloc _
  have HO : Hid (Ext w ((w.alloc (.cells #[.int .i64 0, .int .i64 0] 24)).alloc (.cells #[.int .i64 (-n), .int .i64 1] 24))) := ((Upd.refl _ w).alloc _).alloc _
  have HBZ : Hid (∀ W, Ext ((w.alloc (.cells #[.int .i64 0, .int .i64 0] 24)).alloc (.cells #[.int .i64 (-n), .int .i64 1] 24)) W → W.heap[w.heap.size]? = some (.cells #[.int .i64 0, .int .i64 0] 24)) := fun W hW => hW.heap (allocOld (alloc0 w _) _) (fun h => h)
  have HBO : Hid (∀ W, Ext ((w.alloc (.cells #[.int .i64 0, .int .i64 0] 24)).alloc (.cells #[.int .i64 (-n), .int .i64 1] 24)) W → W.heap[w.heap.size + 1]? = some (.cells #[.int .i64 (-n), .int .i64 1] 24)) := fun W hW => hW.heap (alloc_at (w.alloc (.cells #[.int .i64 0, .int .i64 0] 24)) _ (n := w.heap.size + 1) (by simp)) (fun h => h)
  have z := HBO.out _ (Upd.refl _ _)
  have k0 := cellRow z 0 _ rfl
  have k1 := cellRow z 1 _ rfl
  clear z
  go_enter Tryd.func39, Tryd.ntmps39
  go_wp2_with fail
  refine (C1.out _).mono ?_
  rintro e w4 ⟨rfl, rfl⟩
  go_wp2_with fail
  refine (C3.out _).mono ?_
  rintro e w5 ⟨rfl, h5⟩
  have H5 := Lib.hid h5
  clear h5 k0 k1
  have z := HBO.out _ H5.out
  have k0 := cellRow z 0 _ rfl
  have k1 := cellRow z 1 _ rfl
  clear z
  go_wp2_with fail
  refine (C4.out _).mono ?_
  rintro e w6 ⟨rfl, h6⟩
  have H6 := Lib.hid (H5.out.ext h6)
  clear h6 k0 k1
  have z := HBO.out _ H6.out
  have k0 := cellRow z 0 _ rfl
  have k1 := cellRow z 1 _ rfl
  clear z
  have hz6 := HBZ.out _ H6.out
  have z0 := cellRow hz6 0 _ rfl
  have z1 := cellRow hz6 1 _ rfl
  have m0 := frozenRow hz6 0
  have m1 := frozenRow hz6 1
  have hfin := setBlock (setBlock hz6 0 (.int .i64 (-n))) 1 (.int .i64 1)
  have y0 := cellRow hfin 0 _ rfl
  have y1 := cellRow hfin 1 _ rfl
  clear hz6 hfin
  simp at y0 y1
  go_wp2_with fail
  refine bodyPost_ret (v := .tuple #[.agg #[.int .i64 (-n), .int .i64 1], .bool true]) (by simp [results, Tryd.results39, go_sem, z0, z1, y0, y1]) rfl ⟨rfl, ?_⟩
  first | exact ((HO.out.ext H6.out).setNew (Nat.le_refl _) _).setNew (Nat.le_refl _) _ | exact HO.out.ext H6.out

end Go.Proofs.YtlipjgpfhmkdhaaDoor
