/- workload.Parse: what is no script at once. -/
import Derived.Test.YthpekfpeoglbgaaGreatDoorQ6
import Derived.Test.YthpekfpeoglbgaaGreatDoorW16
namespace Go.Proofs.YthpekfpeoglbgaaGreatDoor
open Go.RowKit Go.Hw
set_option linter.unusedVariables false
set_option linter.unusedSimpArgs false

/-- what workload.Parse leaves -/
def PPost (R : PR) (w : World) (e : Ending) (w' : World) : Prop :=
  ∃ v L2, e = .returned (.tuple #[.int .i64 R.kind, v, .agg #[.int .i64 R.line, .int .i64 (if 0 < R.line then 1 else 0)], .int .i64 R.err]) ∧ OpsR (fun k => k < w'.heap.size) w' v L2 ∧ opsL L2 = R.ops ∧ Ext w w'
theorem kws_cells {w : World} {g : Nat} (h : ∀ i : Nat, i < 6 → w.cell? ⟨g, i, none⟩ = some (.string (bs (kWd ((i : Int) + 1))))) : ∀ j, j < kws.length → w.cell? ⟨g, 0 + j, none⟩ = some (.string (kws.getD j ByteArray.empty)) := by
  intro j hj
  rw [Nat.zero_add]
  have hj6 : j < 6 := hj
  rw [h j hj6]
  rcases j with _ | _ | _ | _ | _ | _ | j <;> first | rfl | omega
theorem kws_bd (p : ByteArray) : 0 ≤ 1 + Lib.idxOfS kws p ∧ 1 + Lib.idxOfS kws p ≤ 6 := by
  have h := idxFrom_bd p kws 0
  have e : kws.length = 6 := rfl
  unfold Lib.idxOfS
  omega
set_option maxHeartbeats 1000000 in
set_option maxRecDepth 100000 in
theorem wparse_big (L : List UInt8) (w : World) (hs : L.length ≤ 1000000) (hb : 65536 < L.length) : Calls Tryz.prog 7 #[.string (bs L)] w (PPost (parseT L) w) := by
  have hR : parseT L = ⟨0, [], 0, 4⟩ := by unfold parseT; rw [if_pos hb]
  have HR := Lib.hid hR
  have hsz := bs_size L
  have t1 : decide ((65536 : Int) < ((bs L).size : Int)) = true := decide_eq_true (by omega)
  have t1' : decide (65536 < (bs L).size) = true := decide_eq_true (by omega)
  have HW1 : Hid (Ext w (w.alloc (.cells #[.int .i64 0, .int .i64 0] 25))) := (Upd.refl _ w).alloc _
  have HZ1 := Lib.hid (alloc0 w (.cells #[.int .i64 0, .int .i64 0] 25))
  clear hR
  generalize parseT L = RES at *
  clear hsz
  generalize bs L = t at *
  go_enter Tryz.func7, Tryz.ntmps7
  have hz6 := HZ1.out
  have z0 := cellRow hz6 0 _ rfl
  have z1 := cellRow hz6 1 _ rfl
  have m0 := frozenRow hz6 0
  have m1 := frozenRow hz6 1
  have hfin := setBlock (setBlock hz6 0 (.int .i64 0)) 1 (.int .i64 0)
  have y0 := cellRow hfin 0 _ rfl
  have y1 := cellRow hfin 1 _ rfl
  clear hz6 hfin
  simp at y0 y1
  go_wp2_with fail
  refine bodyPost_ret (v := .tuple #[.int .i64 0, .slice none 0 0, .agg #[.int .i64 0, .int .i64 0], .int .i64 4]) (by simp [results, Tryz.results7, go_sem, z0, z1, y0, y1]) rfl ⟨_, [], by rw [HR.out]; rfl, ?_, by rw [HR.out]; rfl, ?_⟩
  · exact ⟨SlR.nil _ _ _, fun o ho => by cases ho⟩
  · first | exact ((HW1.out).setNew (Nat.le_refl _) _).setNew (Nat.le_refl _) _ | exact HW1.out

set_option maxHeartbeats 1000000 in
set_option maxRecDepth 100000 in
theorem wparse_b1 (L : List UInt8) (w : World) (hE : Env w) (hs : L.length ≤ 1000000) (hb : ¬ 65536 < L.length) (A1 A2 : List UInt8) (fine : Bool) (hcut : Lib.cut L [10] = (A1, A2, false)) (hfine : Lib.hasPrefix A1 [115, 99, 114, 105, 112, 116, 32] = fine) (HR : Hid (parseT L = ⟨0, [], 1, 7⟩)) : Calls Tryz.prog 7 #[.string (bs L)] w (PPost (parseT L) w) := by
  have hsz := bs_size L
  have t1 : decide ((65536 : Int) < ((bs L).size : Int)) = false := decide_eq_false (by omega)
  have t1' : decide (65536 < (bs L).size) = false := decide_eq_false (by omega)
  have HW1 : Hid (Ext w (w.alloc (.cells #[.int .i64 0, .int .i64 0] 25))) := (Upd.refl _ w).alloc _
  have HZ1 : Hid (∀ W, Ext (w.alloc (.cells #[.int .i64 0, .int .i64 0] 25)) W → W.heap[w.heap.size]? = some (.cells #[.int .i64 0, .int .i64 0] 25)) := fun W hW => hW.heap (alloc0 w _) (fun h => h)
  have hlt1 : w.heap.size < (w.alloc (.cells #[.int .i64 0, .int .i64 0] 25)).heap.size := by simp
  have CC : Hid (∀ (R : List UInt8) (W : World), Ext w W → R.length ≤ 1000000 → Calls Tryz.prog 19 #[.string (bs R), .string ⟨#[10]⟩] W fun e w' => e = .returned (.tuple #[.string (bs (Lib.cut R [10]).1), .string (bs (Lib.cut R [10]).2.1), .bool (Lib.cut R [10]).2.2]) ∧ Ext W w') := fun R W hW hR => cut_x R 10 W (hE.ext hW) hR
  have CC1 := Lib.hid (fun (W : World) (hW : Ext w W) => CC.out L W hW hs)
  have CK : Hid (∀ W : World, Calls Tryz.prog 22 #[] W fun e w' => ∃ g, e = .returned (.slice (some ⟨g, 0, none⟩) 6 6) ∧ Ext W w' ∧ ∀ i : Nat, i < 6 → w'.cell? ⟨g, i, none⟩ = some (.string (bs (kWd ((i : Int) + 1))))) := fun W => kwords_any W
  rw [hcut] at CC1
  dsimp only at CC1
  have CP : Hid (∀ W : World, Calls Tryz.prog 20 #[.string (bs A1), .string ⟨#[115, 99, 114, 105, 112, 116, 32]⟩] W fun e w' => e = .returned (.tuple #[.string (bs (Lib.trimPrefix A1 [115, 99, 114, 105, 112, 116, 32])), .bool fine]) ∧ W = w') := fun W => by
    have := cutp_x A1 [115, 99, 114, 105, 112, 116, 32] W
    rw [hfine] at this
    exact this
  have CI : Hid (∀ (g : Nat) (W : World), (∀ i : Nat, i < 6 → W.cell? ⟨g, i, none⟩ = some (.string (bs (kWd ((i : Int) + 1))))) → Calls Tryz.prog 21 #[.slice (some ⟨g, 0, none⟩) 6 6, .string (bs (Lib.trimPrefix A1 [115, 99, 114, 105, 112, 116, 32]))] W fun e w' => e = .returned (.int .i64 (Lib.idxOfS kws (bs (Lib.trimPrefix A1 [115, 99, 114, 105, 112, 116, 32])))) ∧ W = w') := fun g W hc => (Tryz.slices_Index_string g 0 6 6 kws (bs (Lib.trimPrefix A1 [115, 99, 114, 105, 112, 116, 32])) W (by decide) (by decide) (kws_cells hc)).mono fun e w' ⟨h1, h2⟩ => ⟨h1, h2.symm⟩
  have hkb := kws_bd (bs (Lib.trimPrefix A1 [115, 99, 114, 105, 112, 116, 32]))
  clear hcut hfine CC hE hsz
  generalize parseT L = RES at *
  generalize bs L = t at *
  generalize Lib.idxOfS kws (bs (Lib.trimPrefix A1 [115, 99, 114, 105, 112, 116, 32])) = X at *
  generalize bs (Lib.trimPrefix A1 [115, 99, 114, 105, 112, 116, 32]) = WD at *
  go_enter Tryz.func7, Tryz.ntmps7
  go_wp2_with fail
  generalize w.alloc (.cells #[.int .i64 0, .int .i64 0] 25) = w1 at *
  refine (CC1.out _ HW1.out).mono ?_
  rintro e w2 ⟨rfl, h2⟩
  have HE2 := Lib.hid h2
  clear h2
  go_wp2_with fail
  refine (CP.out _).mono ?_
  rintro e w3 ⟨rfl, rfl⟩
  go_wp2_with fail
  refine (CK.out _).mono ?_
  rintro e w3 ⟨g, rfl, h3, hg⟩
  have HE3 := Lib.hid (HE2.out.ext h3)
  have CI2 := Lib.hid (CI.out g w3 hg)
  clear h3 hg
  go_wp2_with fail
  refine CI2.out.mono ?_
  rintro e w4 ⟨rfl, rfl⟩
  have hz6 := HZ1.out _ HE3.out
  have z0 := cellRow hz6 0 _ rfl
  have z1 := cellRow hz6 1 _ rfl
  have m0 := frozenRow hz6 0
  have m1 := frozenRow hz6 1
  have hfin := setBlock (setBlock hz6 0 (.int .i64 1)) 1 (.int .i64 1)
  have y0 := cellRow hfin 0 _ rfl
  have y1 := cellRow hfin 1 _ rfl
  clear hz6 hfin
  simp at y0 y1
  go_wp2_with fail
  refine bodyPost_ret (v := .tuple #[.int .i64 0, .slice none 0 0, .agg #[.int .i64 1, .int .i64 1], .int .i64 7]) (by simp [results, Tryz.results7, go_sem, z0, z1, y0, y1]) rfl ⟨_, [], by rw [HR.out]; rfl, ?_, by rw [HR.out]; rfl, ?_⟩
  · exact ⟨SlR.nil _ _ _, fun o ho => by cases ho⟩
  · first | exact ((HW1.out.ext HE3.out).setNew (Nat.le_refl _) _).setNew (Nat.le_refl _) _ | exact HW1.out.ext HE3.out
set_option maxHeartbeats 1000000 in
set_option maxRecDepth 100000 in
theorem wparse_b2 (L : List UInt8) (w : World) (hE : Env w) (hs : L.length ≤ 1000000) (hb : ¬ 65536 < L.length) (A1 A2 : List UInt8) (hcut : Lib.cut L [10] = (A1, A2, true)) (hfine : Lib.hasPrefix A1 [115, 99, 114, 105, 112, 116, 32] = false)  (HR : Hid (parseT L = ⟨0, [], 1, 7⟩)) : Calls Tryz.prog 7 #[.string (bs L)] w (PPost (parseT L) w) := by
  have hsz := bs_size L
  have t1 : decide ((65536 : Int) < ((bs L).size : Int)) = false := decide_eq_false (by omega)
  have t1' : decide (65536 < (bs L).size) = false := decide_eq_false (by omega)
  have HW1 : Hid (Ext w (w.alloc (.cells #[.int .i64 0, .int .i64 0] 25))) := (Upd.refl _ w).alloc _
  have HZ1 : Hid (∀ W, Ext (w.alloc (.cells #[.int .i64 0, .int .i64 0] 25)) W → W.heap[w.heap.size]? = some (.cells #[.int .i64 0, .int .i64 0] 25)) := fun W hW => hW.heap (alloc0 w _) (fun h => h)
  have hlt1 : w.heap.size < (w.alloc (.cells #[.int .i64 0, .int .i64 0] 25)).heap.size := by simp
  have CC : Hid (∀ (R : List UInt8) (W : World), Ext w W → R.length ≤ 1000000 → Calls Tryz.prog 19 #[.string (bs R), .string ⟨#[10]⟩] W fun e w' => e = .returned (.tuple #[.string (bs (Lib.cut R [10]).1), .string (bs (Lib.cut R [10]).2.1), .bool (Lib.cut R [10]).2.2]) ∧ Ext W w') := fun R W hW hR => cut_x R 10 W (hE.ext hW) hR
  have CC1 := Lib.hid (fun (W : World) (hW : Ext w W) => CC.out L W hW hs)
  have CK : Hid (∀ W : World, Calls Tryz.prog 22 #[] W fun e w' => ∃ g, e = .returned (.slice (some ⟨g, 0, none⟩) 6 6) ∧ Ext W w' ∧ ∀ i : Nat, i < 6 → w'.cell? ⟨g, i, none⟩ = some (.string (bs (kWd ((i : Int) + 1))))) := fun W => kwords_any W
  rw [hcut] at CC1
  dsimp only at CC1
  have CP : Hid (∀ W : World, Calls Tryz.prog 20 #[.string (bs A1), .string ⟨#[115, 99, 114, 105, 112, 116, 32]⟩] W fun e w' => e = .returned (.tuple #[.string (bs (Lib.trimPrefix A1 [115, 99, 114, 105, 112, 116, 32])), .bool false]) ∧ W = w') := fun W => by
    have := cutp_x A1 [115, 99, 114, 105, 112, 116, 32] W
    rw [hfine] at this
    exact this
  have CI : Hid (∀ (g : Nat) (W : World), (∀ i : Nat, i < 6 → W.cell? ⟨g, i, none⟩ = some (.string (bs (kWd ((i : Int) + 1))))) → Calls Tryz.prog 21 #[.slice (some ⟨g, 0, none⟩) 6 6, .string (bs (Lib.trimPrefix A1 [115, 99, 114, 105, 112, 116, 32]))] W fun e w' => e = .returned (.int .i64 (Lib.idxOfS kws (bs (Lib.trimPrefix A1 [115, 99, 114, 105, 112, 116, 32])))) ∧ W = w') := fun g W hc => (Tryz.slices_Index_string g 0 6 6 kws (bs (Lib.trimPrefix A1 [115, 99, 114, 105, 112, 116, 32])) W (by decide) (by decide) (kws_cells hc)).mono fun e w' ⟨h1, h2⟩ => ⟨h1, h2.symm⟩
  have hkb := kws_bd (bs (Lib.trimPrefix A1 [115, 99, 114, 105, 112, 116, 32]))
  clear hcut hfine CC hE hsz
  generalize parseT L = RES at *
  generalize bs L = t at *
  generalize Lib.idxOfS kws (bs (Lib.trimPrefix A1 [115, 99, 114, 105, 112, 116, 32])) = X at *
  generalize bs (Lib.trimPrefix A1 [115, 99, 114, 105, 112, 116, 32]) = WD at *
  go_enter Tryz.func7, Tryz.ntmps7
  go_wp2_with fail
  generalize w.alloc (.cells #[.int .i64 0, .int .i64 0] 25) = w1 at *
  refine (CC1.out _ HW1.out).mono ?_
  rintro e w2 ⟨rfl, h2⟩
  have HE2 := Lib.hid h2
  clear h2
  go_wp2_with fail
  refine (CP.out _).mono ?_
  rintro e w3 ⟨rfl, rfl⟩
  go_wp2_with fail
  refine (CK.out _).mono ?_
  rintro e w3 ⟨g, rfl, h3, hg⟩
  have HE3 := Lib.hid (HE2.out.ext h3)
  have CI2 := Lib.hid (CI.out g w3 hg)
  clear h3 hg
  go_wp2_with fail
  refine CI2.out.mono ?_
  rintro e w4 ⟨rfl, rfl⟩
  have hz6 := HZ1.out _ HE3.out
  have z0 := cellRow hz6 0 _ rfl
  have z1 := cellRow hz6 1 _ rfl
  have m0 := frozenRow hz6 0
  have m1 := frozenRow hz6 1
  have hfin := setBlock (setBlock hz6 0 (.int .i64 1)) 1 (.int .i64 1)
  have y0 := cellRow hfin 0 _ rfl
  have y1 := cellRow hfin 1 _ rfl
  clear hz6 hfin
  simp at y0 y1
  go_wp2_with fail
  refine bodyPost_ret (v := .tuple #[.int .i64 0, .slice none 0 0, .agg #[.int .i64 1, .int .i64 1], .int .i64 7]) (by simp [results, Tryz.results7, go_sem, z0, z1, y0, y1]) rfl ⟨_, [], by rw [HR.out]; rfl, ?_, by rw [HR.out]; rfl, ?_⟩
  · exact ⟨SlR.nil _ _ _, fun o ho => by cases ho⟩
  · first | exact ((HW1.out.ext HE3.out).setNew (Nat.le_refl _) _).setNew (Nat.le_refl _) _ | exact HW1.out.ext HE3.out
set_option maxHeartbeats 1000000 in
set_option maxRecDepth 100000 in
theorem wparse_b3 (L : List UInt8) (w : World) (hE : Env w) (hs : L.length ≤ 1000000) (hb : ¬ 65536 < L.length) (A1 A2 : List UInt8) (hcut : Lib.cut L [10] = (A1, A2, true)) (hfine : Lib.hasPrefix A1 [115, 99, 114, 105, 112, 116, 32] = true) (hk : 1 + Lib.idxOfS kws (bs (Lib.trimPrefix A1 [115, 99, 114, 105, 112, 116, 32])) = 0) (HR : Hid (parseT L = ⟨0, [], 1, 7⟩)) : Calls Tryz.prog 7 #[.string (bs L)] w (PPost (parseT L) w) := by
  have hsz := bs_size L
  have t1 : decide ((65536 : Int) < ((bs L).size : Int)) = false := decide_eq_false (by omega)
  have t1' : decide (65536 < (bs L).size) = false := decide_eq_false (by omega)
  have HW1 : Hid (Ext w (w.alloc (.cells #[.int .i64 0, .int .i64 0] 25))) := (Upd.refl _ w).alloc _
  have HZ1 : Hid (∀ W, Ext (w.alloc (.cells #[.int .i64 0, .int .i64 0] 25)) W → W.heap[w.heap.size]? = some (.cells #[.int .i64 0, .int .i64 0] 25)) := fun W hW => hW.heap (alloc0 w _) (fun h => h)
  have hlt1 : w.heap.size < (w.alloc (.cells #[.int .i64 0, .int .i64 0] 25)).heap.size := by simp
  have CC : Hid (∀ (R : List UInt8) (W : World), Ext w W → R.length ≤ 1000000 → Calls Tryz.prog 19 #[.string (bs R), .string ⟨#[10]⟩] W fun e w' => e = .returned (.tuple #[.string (bs (Lib.cut R [10]).1), .string (bs (Lib.cut R [10]).2.1), .bool (Lib.cut R [10]).2.2]) ∧ Ext W w') := fun R W hW hR => cut_x R 10 W (hE.ext hW) hR
  have CC1 := Lib.hid (fun (W : World) (hW : Ext w W) => CC.out L W hW hs)
  have CK : Hid (∀ W : World, Calls Tryz.prog 22 #[] W fun e w' => ∃ g, e = .returned (.slice (some ⟨g, 0, none⟩) 6 6) ∧ Ext W w' ∧ ∀ i : Nat, i < 6 → w'.cell? ⟨g, i, none⟩ = some (.string (bs (kWd ((i : Int) + 1))))) := fun W => kwords_any W
  rw [hcut] at CC1
  dsimp only at CC1
  have CP : Hid (∀ W : World, Calls Tryz.prog 20 #[.string (bs A1), .string ⟨#[115, 99, 114, 105, 112, 116, 32]⟩] W fun e w' => e = .returned (.tuple #[.string (bs (Lib.trimPrefix A1 [115, 99, 114, 105, 112, 116, 32])), .bool true]) ∧ W = w') := fun W => by
    have := cutp_x A1 [115, 99, 114, 105, 112, 116, 32] W
    rw [hfine] at this
    exact this
  have CI : Hid (∀ (g : Nat) (W : World), (∀ i : Nat, i < 6 → W.cell? ⟨g, i, none⟩ = some (.string (bs (kWd ((i : Int) + 1))))) → Calls Tryz.prog 21 #[.slice (some ⟨g, 0, none⟩) 6 6, .string (bs (Lib.trimPrefix A1 [115, 99, 114, 105, 112, 116, 32]))] W fun e w' => e = .returned (.int .i64 (Lib.idxOfS kws (bs (Lib.trimPrefix A1 [115, 99, 114, 105, 112, 116, 32])))) ∧ W = w') := fun g W hc => (Tryz.slices_Index_string g 0 6 6 kws (bs (Lib.trimPrefix A1 [115, 99, 114, 105, 112, 116, 32])) W (by decide) (by decide) (kws_cells hc)).mono fun e w' ⟨h1, h2⟩ => ⟨h1, h2.symm⟩
  have hkb := kws_bd (bs (Lib.trimPrefix A1 [115, 99, 114, 105, 112, 116, 32]))
  clear hcut hfine CC hE hsz
  generalize parseT L = RES at *
  generalize bs L = t at *
  generalize Lib.idxOfS kws (bs (Lib.trimPrefix A1 [115, 99, 114, 105, 112, 116, 32])) = X at *
  generalize bs (Lib.trimPrefix A1 [115, 99, 114, 105, 112, 116, 32]) = WD at *
  go_enter Tryz.func7, Tryz.ntmps7
  go_wp2_with fail
  generalize w.alloc (.cells #[.int .i64 0, .int .i64 0] 25) = w1 at *
  refine (CC1.out _ HW1.out).mono ?_
  rintro e w2 ⟨rfl, h2⟩
  have HE2 := Lib.hid h2
  clear h2
  go_wp2_with fail
  refine (CP.out _).mono ?_
  rintro e w3 ⟨rfl, rfl⟩
  go_wp2_with fail
  refine (CK.out _).mono ?_
  rintro e w3 ⟨g, rfl, h3, hg⟩
  have HE3 := Lib.hid (HE2.out.ext h3)
  have CI2 := Lib.hid (CI.out g w3 hg)
  clear h3 hg
  go_wp2_with fail
  refine CI2.out.mono ?_
  rintro e w4 ⟨rfl, rfl⟩
  have hz6 := HZ1.out _ HE3.out
  have z0 := cellRow hz6 0 _ rfl
  have z1 := cellRow hz6 1 _ rfl
  have m0 := frozenRow hz6 0
  have m1 := frozenRow hz6 1
  have hfin := setBlock (setBlock hz6 0 (.int .i64 1)) 1 (.int .i64 1)
  have y0 := cellRow hfin 0 _ rfl
  have y1 := cellRow hfin 1 _ rfl
  clear hz6 hfin
  simp at y0 y1
  go_wp2_with fail
  refine bodyPost_ret (v := .tuple #[.int .i64 0, .slice none 0 0, .agg #[.int .i64 1, .int .i64 1], .int .i64 7]) (by simp [results, Tryz.results7, go_sem, z0, z1, y0, y1]) rfl ⟨_, [], by rw [HR.out]; rfl, ?_, by rw [HR.out]; rfl, ?_⟩
  · exact ⟨SlR.nil _ _ _, fun o ho => by cases ho⟩
  · first | exact ((HW1.out.ext HE3.out).setNew (Nat.le_refl _) _).setNew (Nat.le_refl _) _ | exact HW1.out.ext HE3.out

end Go.Proofs.YthpekfpeoglbgaaGreatDoor
