/- The law Field, the walk. -/
import Derived.Test.YtlipjgpfhmkdhaaDoorP3
import Derived.Deep.DeepCutAuto
namespace Go.Proofs.YtlipjgpfhmkdhaaDoor
open Go.RowKit Go.Hw
set_option linter.unusedVariables false
set_option linter.unusedSimpArgs false

set_option maxRecDepth 100000 in
set_option maxHeartbeats 4000000 in
theorem fld_ok (a b c d e f : Int) (w : World) (htab : Lib.TabIs Tryd.prog w "internal/strconv.uint64pow10" .u64 Lib.pow10Tab) (xN xD xE lN lD lE mN mD mE rN rD rE XN XD XE LN LD LE MN MD ME RN RD RE pN pD pE yN yD yE sN sD sE dN dD dE kN kD kE qN qD qE tN tD tE : Int) (cA : ∀ W, Calls Tryd.prog 16 #[.agg #[.int .i64 a, .int .i64 b]] W fun e w' => e = .returned (.bool true) ∧ Ext W w') (cB : ∀ W, Calls Tryd.prog 16 #[.agg #[.int .i64 c, .int .i64 d]] W fun e w' => e = .returned (.bool true) ∧ Ext W w') (cC : ∀ W, Calls Tryd.prog 16 #[.agg #[.int .i64 e, .int .i64 f]] W fun e w' => e = .returned (.bool true) ∧ Ext W w') (cab20 : ∀ W, Calls Tryd.prog 20 #[.agg #[.int .i64 a, .int .i64 b], .agg #[.int .i64 c, .int .i64 d]] W fun e w' => e = .returned (.tuple #[.agg #[.int .i64 xN, .int .i64 xD], .int .i64 xE]) ∧ Ext W w') (cba20 : ∀ W, Calls Tryd.prog 20 #[.agg #[.int .i64 c, .int .i64 d], .agg #[.int .i64 a, .int .i64 b]] W fun e w' => e = .returned (.tuple #[.agg #[.int .i64 xN, .int .i64 xD], .int .i64 xE]) ∧ Ext W w') (cxc20 : ∀ W, Calls Tryd.prog 20 #[.agg #[.int .i64 xN, .int .i64 xD], .agg #[.int .i64 e, .int .i64 f]] W fun e w' => e = .returned (.tuple #[.agg #[.int .i64 lN, .int .i64 lD], .int .i64 lE]) ∧ Ext W w') (cbc20 : ∀ W, Calls Tryd.prog 20 #[.agg #[.int .i64 c, .int .i64 d], .agg #[.int .i64 e, .int .i64 f]] W fun e w' => e = .returned (.tuple #[.agg #[.int .i64 mN, .int .i64 mD], .int .i64 mE]) ∧ Ext W w') (cam20 : ∀ W, Calls Tryd.prog 20 #[.agg #[.int .i64 a, .int .i64 b], .agg #[.int .i64 mN, .int .i64 mD]] W fun e w' => e = .returned (.tuple #[.agg #[.int .i64 rN, .int .i64 rD], .int .i64 rE]) ∧ Ext W w') (cab22 : ∀ W, Calls Tryd.prog 22 #[.agg #[.int .i64 a, .int .i64 b], .agg #[.int .i64 c, .int .i64 d]] W fun e w' => e = .returned (.tuple #[.agg #[.int .i64 XN, .int .i64 XD], .int .i64 XE]) ∧ Ext W w') (cba22 : ∀ W, Calls Tryd.prog 22 #[.agg #[.int .i64 c, .int .i64 d], .agg #[.int .i64 a, .int .i64 b]] W fun e w' => e = .returned (.tuple #[.agg #[.int .i64 XN, .int .i64 XD], .int .i64 XE]) ∧ Ext W w') (cxc22 : ∀ W, Calls Tryd.prog 22 #[.agg #[.int .i64 XN, .int .i64 XD], .agg #[.int .i64 e, .int .i64 f]] W fun e w' => e = .returned (.tuple #[.agg #[.int .i64 LN, .int .i64 LD], .int .i64 LE]) ∧ Ext W w') (cbc22 : ∀ W, Calls Tryd.prog 22 #[.agg #[.int .i64 c, .int .i64 d], .agg #[.int .i64 e, .int .i64 f]] W fun e w' => e = .returned (.tuple #[.agg #[.int .i64 MN, .int .i64 MD], .int .i64 ME]) ∧ Ext W w') (cam22 : ∀ W, Calls Tryd.prog 22 #[.agg #[.int .i64 a, .int .i64 b], .agg #[.int .i64 MN, .int .i64 MD]] W fun e w' => e = .returned (.tuple #[.agg #[.int .i64 RN, .int .i64 RD], .int .i64 RE]) ∧ Ext W w') (cp : ∀ W, Calls Tryd.prog 22 #[.agg #[.int .i64 a, .int .i64 b], .agg #[.int .i64 mN, .int .i64 mD]] W fun e w' => e = .returned (.tuple #[.agg #[.int .i64 pN, .int .i64 pD], .int .i64 pE]) ∧ Ext W w') (cy : ∀ W, Calls Tryd.prog 22 #[.agg #[.int .i64 a, .int .i64 b], .agg #[.int .i64 e, .int .i64 f]] W fun e w' => e = .returned (.tuple #[.agg #[.int .i64 yN, .int .i64 yD], .int .i64 yE]) ∧ Ext W w') (cs : ∀ W, Calls Tryd.prog 20 #[.agg #[.int .i64 XN, .int .i64 XD], .agg #[.int .i64 yN, .int .i64 yD]] W fun e w' => e = .returned (.tuple #[.agg #[.int .i64 sN, .int .i64 sD], .int .i64 sE]) ∧ Ext W w') (cd : ∀ W, Calls Tryd.prog 21 #[.agg #[.int .i64 a, .int .i64 b], .agg #[.int .i64 c, .int .i64 d]] W fun e w' => e = .returned (.tuple #[.agg #[.int .i64 dN, .int .i64 dD], .int .i64 dE]) ∧ Ext W w') (ck : ∀ W, Calls Tryd.prog 20 #[.agg #[.int .i64 dN, .int .i64 dD], .agg #[.int .i64 c, .int .i64 d]] W fun e w' => e = .returned (.tuple #[.agg #[.int .i64 kN, .int .i64 kD], .int .i64 kE]) ∧ Ext W w') (cq : ∀ W, Calls Tryd.prog 23 #[.agg #[.int .i64 a, .int .i64 b], .agg #[.int .i64 c, .int .i64 d]] W fun e w' => e = .returned (.tuple #[.agg #[.int .i64 qN, .int .i64 qD], .int .i64 qE]) ∧ Ext W w') (ct : ∀ W, Calls Tryd.prog 22 #[.agg #[.int .i64 qN, .int .i64 qD], .agg #[.int .i64 c, .int .i64 d]] W fun e w' => e = .returned (.tuple #[.agg #[.int .i64 tN, .int .i64 tD], .int .i64 tE]) ∧ Ext W w') (i1 : xE = 0 → mE = 0 → lE = 0 → rE = 0 → lN = rN ∧ lD = rD) (i2 : XE = 0 → ME = 0 → LE = 0 → RE = 0 → LN = RN ∧ LD = RD) (i3 : mE = 0 → XE = 0 → yE = 0 → pE = 0 → sE = 0 → pN = sN ∧ pD = sD) (i4 : dE = 0 → kN = a ∧ kD = b ∧ kE = 0) (i5 : c = 0 → qE = 18) (i6 : c ≠ 0 → qE = 0 → tN = a ∧ tD = b ∧ tE = 0) : Calls Tryd.prog 6 #[.agg #[.int .i64 a, .int .i64 b], .agg #[.int .i64 c, .int .i64 d], .agg #[.int .i64 e, .int .i64 f]] w fun e w' => e = .returned (.bool true) ∧ Ext w w' := by
  have CA := Lib.hid (awake_x (((w.alloc (.cells #[.int .i64 a, .int .i64 b] 24)).alloc (.cells #[.int .i64 c, .int .i64 d] 24)).alloc (.cells #[.int .i64 e, .int .i64 f] 24)) (tab_ext htab ((((Upd.refl _ w).alloc _).alloc _).alloc _)))
  clear htab
  have C_A := Lib.hid cA
  have C_B := Lib.hid cB
  have C_C := Lib.hid cC
  have C_ab20 := Lib.hid cab20
  have C_ba20 := Lib.hid cba20
  have C_xc20 := Lib.hid cxc20
  have C_bc20 := Lib.hid cbc20
  have C_am20 := Lib.hid cam20
  have C_ab22 := Lib.hid cab22
  have C_ba22 := Lib.hid cba22
  have C_xc22 := Lib.hid cxc22
  have C_bc22 := Lib.hid cbc22
  have C_am22 := Lib.hid cam22
  have C_p := Lib.hid cp
  have C_y := Lib.hid cy
  have C_s := Lib.hid cs
  have C_d := Lib.hid cd
  have C_k := Lib.hid ck
  have C_q := Lib.hid cq
  have C_t := Lib.hid ct
  have J1 := Lib.hid i1
  have J2 := Lib.hid i2
  have J3 := Lib.hid i3
  have J4 := Lib.hid i4
  have J5 := Lib.hid i5
  have J6 := Lib.hid i6
  clear cA cB cC cab20 cba20 cxc20 cbc20 cam20 cab22 cba22 cxc22 cbc22 cam22 cp cy cs cd ck cq ct i1 i2 i3 i4 i5 i6
  have heq := fun (a b c d : Int) (W : World) => eq24 a b c d W
  have HE0 : Hid (Ext w (((w.alloc (.cells #[.int .i64 a, .int .i64 b] 24)).alloc (.cells #[.int .i64 c, .int .i64 d] 24)).alloc (.cells #[.int .i64 e, .int .i64 f] 24))) := (((Upd.refl _ w).alloc _).alloc _).alloc _
  have hbA := allocOld (allocOld (alloc0 w (.cells #[.int .i64 a, .int .i64 b] 24)) (.cells #[.int .i64 c, .int .i64 d] 24)) (.cells #[.int .i64 e, .int .i64 f] 24)
  have hbB := allocOld (alloc_at (w.alloc (.cells #[.int .i64 a, .int .i64 b] 24)) (.cells #[.int .i64 c, .int .i64 d] 24) (n := w.heap.size + 1) (by simp)) (.cells #[.int .i64 e, .int .i64 f] 24)
  have hbC := alloc_at ((w.alloc (.cells #[.int .i64 a, .int .i64 b] 24)).alloc (.cells #[.int .i64 c, .int .i64 d] 24)) (.cells #[.int .i64 e, .int .i64 f] 24) (n := w.heap.size + 1 + 1) (by simp)
  have HX : Hid (∀ W, Ext (((w.alloc (.cells #[.int .i64 a, .int .i64 b] 24)).alloc (.cells #[.int .i64 c, .int .i64 d] 24)).alloc (.cells #[.int .i64 e, .int .i64 f] 24)) W → (W.cell? ⟨w.heap.size, 0, none⟩ = some (.int .i64 a) ∧ W.cell? ⟨w.heap.size, 1, none⟩ = some (.int .i64 b) ∧ W.cell? ⟨w.heap.size + 1, 0, none⟩ = some (.int .i64 c) ∧ W.cell? ⟨w.heap.size + 1, 1, none⟩ = some (.int .i64 d) ∧ W.cell? ⟨w.heap.size + 1 + 1, 0, none⟩ = some (.int .i64 e) ∧ W.cell? ⟨w.heap.size + 1 + 1, 1, none⟩ = some (.int .i64 f))) := fun W hW =>
    ⟨cellRow (hW.heap hbA (fun h => h)) 0 _ rfl, cellRow (hW.heap hbA (fun h => h)) 1 _ rfl, cellRow (hW.heap hbB (fun h => h)) 0 _ rfl, cellRow (hW.heap hbB (fun h => h)) 1 _ rfl, cellRow (hW.heap hbC (fun h => h)) 0 _ rfl, cellRow (hW.heap hbC (fun h => h)) 1 _ rfl⟩
  clear hbA hbB hbC
  have E0 : Hid (Ext (((w.alloc (.cells #[.int .i64 a, .int .i64 b] 24)).alloc (.cells #[.int .i64 c, .int .i64 d] 24)).alloc (.cells #[.int .i64 e, .int .i64 f] 24)) (((w.alloc (.cells #[.int .i64 a, .int .i64 b] 24)).alloc (.cells #[.int .i64 c, .int .i64 d] 24)).alloc (.cells #[.int .i64 e, .int .i64 f] 24))) := Upd.refl _ _
  obtain ⟨k0, k1, k2, k3, k4, k5⟩ := HX.out _ E0.out
  go_enter Tryd.func6, Tryd.ntmps6
  go_wp2_with fail
  refine (CA.out).mono ?_
  rintro ee w1 ⟨rfl, h1⟩
  have E1 := Lib.hid (E0.out.ext h1)
  clear h1 k0 k1 k2 k3 k4 k5
  obtain ⟨k0, k1, k2, k3, k4, k5⟩ := HX.out _ E1.out
  go_wp2_with fail
  refine (C_A.out _).mono ?_
  rintro ee w2 ⟨rfl, h2⟩
  have E2 := Lib.hid (E1.out.ext h2)
  clear h2 k0 k1 k2 k3 k4 k5
  obtain ⟨k0, k1, k2, k3, k4, k5⟩ := HX.out _ E2.out
  go_wp2_with fail
  refine (C_B.out _).mono ?_
  rintro ee w3 ⟨rfl, h3⟩
  have E3 := Lib.hid (E2.out.ext h3)
  clear h3 k0 k1 k2 k3 k4 k5
  obtain ⟨k0, k1, k2, k3, k4, k5⟩ := HX.out _ E3.out
  go_wp2_with fail
  refine (C_C.out _).mono ?_
  rintro ee w4 ⟨rfl, h4⟩
  have E4 := Lib.hid (E3.out.ext h4)
  clear h4 k0 k1 k2 k3 k4 k5
  obtain ⟨k0, k1, k2, k3, k4, k5⟩ := HX.out _ E4.out
  go_wp2_with fail
  have HV0 := Lib.hid (E4.out.alloc (.cells #[.func (Fn.func 20) #[] #[], .func (Fn.func 22) #[] #[]] 35))
  have HF : Hid (∀ W, Ext (w4.alloc (.cells #[.func (Fn.func 20) #[] #[], .func (Fn.func 22) #[] #[]] 35)) W → W.cell? ⟨w4.heap.size, 0, none⟩ = some (.func (Fn.func 20) #[] #[]) ∧ W.cell? ⟨w4.heap.size, 1, none⟩ = some (.func (Fn.func 22) #[] #[])) := fun W hW =>
    ⟨cellRow (hW.heap (alloc0 w4 (.cells #[.func (Fn.func 20) #[] #[], .func (Fn.func 22) #[] #[]] 35)) (fun h => h)) 0 _ rfl, cellRow (hW.heap (alloc0 w4 (.cells #[.func (Fn.func 20) #[] #[], .func (Fn.func 22) #[] #[]] 35)) (fun h => h)) 1 _ rfl⟩
  clear k0 k1 k2 k3 k4 k5
  go_loopg [53] 2 (fun gk iv wr => ∃ i : Nat, iv = .int .i64 i ∧ i + gk = 2 ∧ Hid (Ext (w4.alloc (.cells #[.func (Fn.func 20) #[] #[], .func (Fn.func 22) #[] #[]] 35)) wr))
  case atStart => exact ⟨0, rfl, rfl, Upd.refl _ _⟩
  case round =>
    obtain ⟨i, rfl, hi, HW⟩ := hrel
    obtain ⟨g0, g1⟩ := HF.out _ HW.out
    obtain ⟨k0, k1, k2, k3, k4, k5⟩ := HX.out _ (HV0.out.ext HW.out)
    rcases (show i = 0 ∨ i = 1 ∨ i = 2 by omega) with rfl | rfl | rfl
    · obtain rfl : gk = 2 := by omega
      clear hi
      go_wp2_with fail
      refine (C_ab20.out _).mono ?_
      rintro ee u1 ⟨rfl, h⟩
      have S1 : (w4.alloc (.cells #[.func (Fn.func 20) #[] #[], .func (Fn.func 22) #[] #[]] 35)).heap.size ≤ u1.heap.size := (HW.out.ext h).size
      have G1 := Lib.hid ((HW.out.ext h).alloc (.cells #[.int .i64 xN, .int .i64 xD] 24))
      have H1 := Lib.hid (h.alloc (.cells #[.int .i64 xN, .int .i64 xD] 24))
      have BK1 : Hid (∀ W, Ext (u1.alloc (.cells #[.int .i64 xN, .int .i64 xD] 24)) W → W.heap[u1.heap.size]? = some (.cells #[.int .i64 xN, .int .i64 xD] 24)) := fun W hW => hW.heap (alloc0 u1 (.cells #[.int .i64 xN, .int .i64 xD] 24)) (fun h => h)
      clear h k0 k1 k2 k3 k4 k5 
      obtain ⟨k0, k1, k2, k3, k4, k5⟩ := HX.out _ (HV0.out.ext G1.out)
      go_wp2_with fail
      refine (C_ba20.out _).mono ?_
      rintro ee u2 ⟨rfl, h⟩
      have S2 : (w4.alloc (.cells #[.func (Fn.func 20) #[] #[], .func (Fn.func 22) #[] #[]] 35)).heap.size ≤ u2.heap.size := (G1.out.ext h).size
      have G2 := Lib.hid ((G1.out.ext h).alloc (.cells #[.int .i64 xN, .int .i64 xD] 24))
      have H2 := Lib.hid (h.alloc (.cells #[.int .i64 xN, .int .i64 xD] 24))
      have BK2 : Hid (∀ W, Ext (u2.alloc (.cells #[.int .i64 xN, .int .i64 xD] 24)) W → W.heap[u2.heap.size]? = some (.cells #[.int .i64 xN, .int .i64 xD] 24)) := fun W hW => hW.heap (alloc0 u2 (.cells #[.int .i64 xN, .int .i64 xD] 24)) (fun h => h)
      clear h k0 k1 k2 k3 k4 k5 
      obtain ⟨k0, k1, k2, k3, k4, k5⟩ := HX.out _ (HV0.out.ext G2.out)
      have z := BK1.out _ H2.out
      have p0 := cellRow z 0 _ rfl
      have p1 := cellRow z 1 _ rfl
      clear z
      have z := BK2.out _ (Upd.refl _ _)
      have q0 := cellRow z 0 _ rfl
      have q1 := cellRow z 1 _ rfl
      clear z
      go_wp2_with fail
      refine (C_xc20.out _).mono ?_
      rintro ee u3 ⟨rfl, h⟩
      have S3 : (w4.alloc (.cells #[.func (Fn.func 20) #[] #[], .func (Fn.func 22) #[] #[]] 35)).heap.size ≤ u3.heap.size := (G2.out.ext h).size
      have G3 := Lib.hid ((G2.out.ext h).alloc (.cells #[.int .i64 lN, .int .i64 lD] 24))
      have H3 := Lib.hid (h.alloc (.cells #[.int .i64 lN, .int .i64 lD] 24))
      have BK3 : Hid (∀ W, Ext (u3.alloc (.cells #[.int .i64 lN, .int .i64 lD] 24)) W → W.heap[u3.heap.size]? = some (.cells #[.int .i64 lN, .int .i64 lD] 24)) := fun W hW => hW.heap (alloc0 u3 (.cells #[.int .i64 lN, .int .i64 lD] 24)) (fun h => h)
      clear h k0 k1 k2 k3 k4 k5 p0 p1 q0 q1
      obtain ⟨k0, k1, k2, k3, k4, k5⟩ := HX.out _ (HV0.out.ext G3.out)
      go_wp2_with fail
      refine (C_bc20.out _).mono ?_
      rintro ee u4 ⟨rfl, h⟩
      have S4 : (w4.alloc (.cells #[.func (Fn.func 20) #[] #[], .func (Fn.func 22) #[] #[]] 35)).heap.size ≤ u4.heap.size := (G3.out.ext h).size
      have G4 := Lib.hid ((G3.out.ext h).alloc (.cells #[.int .i64 mN, .int .i64 mD] 24))
      have H4 := Lib.hid (h.alloc (.cells #[.int .i64 mN, .int .i64 mD] 24))
      have BK4 : Hid (∀ W, Ext (u4.alloc (.cells #[.int .i64 mN, .int .i64 mD] 24)) W → W.heap[u4.heap.size]? = some (.cells #[.int .i64 mN, .int .i64 mD] 24)) := fun W hW => hW.heap (alloc0 u4 (.cells #[.int .i64 mN, .int .i64 mD] 24)) (fun h => h)
      clear h k0 k1 k2 k3 k4 k5 
      obtain ⟨k0, k1, k2, k3, k4, k5⟩ := HX.out _ (HV0.out.ext G4.out)
      have z := BK4.out _ (Upd.refl _ _)
      have p0 := cellRow z 0 _ rfl
      have p1 := cellRow z 1 _ rfl
      clear z
      go_wp2_with fail
      refine (C_am20.out _).mono ?_
      rintro ee u5 ⟨rfl, h⟩
      have S5 : (w4.alloc (.cells #[.func (Fn.func 20) #[] #[], .func (Fn.func 22) #[] #[]] 35)).heap.size ≤ u5.heap.size := (G4.out.ext h).size
      have G5 := Lib.hid ((G4.out.ext h).alloc (.cells #[.int .i64 rN, .int .i64 rD] 24))
      have H5 := Lib.hid (h.alloc (.cells #[.int .i64 rN, .int .i64 rD] 24))
      have BK5 : Hid (∀ W, Ext (u5.alloc (.cells #[.int .i64 rN, .int .i64 rD] 24)) W → W.heap[u5.heap.size]? = some (.cells #[.int .i64 rN, .int .i64 rD] 24)) := fun W hW => hW.heap (alloc0 u5 (.cells #[.int .i64 rN, .int .i64 rD] 24)) (fun h => h)
      clear h k0 k1 k2 k3 k4 k5 p0 p1
      obtain ⟨k0, k1, k2, k3, k4, k5⟩ := HX.out _ (HV0.out.ext G5.out)
      have z := BK3.out _ (H4.out.ext H5.out)
      have p0 := cellRow z 0 _ rfl
      have p1 := cellRow z 1 _ rfl
      clear z
      have z := BK5.out _ (Upd.refl _ _)
      have q0 := cellRow z 0 _ rfl
      have q1 := cellRow z 1 _ rfl
      clear z
      go_upto_region 15 with fail
      go_cut [118] (fun s ww => s = .bool false ∧ ww = (u5.alloc (.cells #[.int .i64 rN, .int .i64 rD] 24)))
      case first =>
        by_cases e0 : xE = 0
        rotate_left
        · have t1 : (xE == 0) = false := beq_eq_false_iff_ne.2 e0
          have t2 : (xE != 0) = true := bne_iff_ne.2 e0
          go_wp2_with fail
          go_meet
          exact ⟨rfl, rfl⟩
        · subst e0
          by_cases e1 : lE = 0
          rotate_left
          · have t1 : (lE == 0) = false := beq_eq_false_iff_ne.2 e1
            have t2 : (lE != 0) = true := bne_iff_ne.2 e1
            go_wp2_with fail
            go_meet
            exact ⟨rfl, rfl⟩
          · subst e1
            by_cases e2 : mE = 0
            rotate_left
            · have t1 : (mE == 0) = false := beq_eq_false_iff_ne.2 e2
              have t2 : (mE != 0) = true := bne_iff_ne.2 e2
              go_wp2_with fail
              go_meet
              exact ⟨rfl, rfl⟩
            · subst e2
              by_cases e3 : rE = 0
              rotate_left
              · have t1 : (rE == 0) = false := beq_eq_false_iff_ne.2 e3
                have t2 : (rE != 0) = true := bne_iff_ne.2 e3
                go_wp2_with fail
                go_meet
                exact ⟨rfl, rfl⟩
              · subst e3
                obtain ⟨rfl, rfl⟩ := J1.out rfl rfl rfl rfl
                go_wp2_with fail
                go_meet
                exact ⟨rfl, rfl⟩
      case rest =>
        obtain ⟨rfl, rfl⟩ := hcut
        go_wp2_with fail
        go_roundg 1
        case measure => omega
        case rel => exact ⟨1, by go_num, rfl, G5.out⟩
    · obtain rfl : gk = 1 := by omega
      clear hi
      go_wp2_with fail
      refine (C_ab22.out _).mono ?_
      rintro ee u1 ⟨rfl, h⟩
      have S1 : (w4.alloc (.cells #[.func (Fn.func 20) #[] #[], .func (Fn.func 22) #[] #[]] 35)).heap.size ≤ u1.heap.size := (HW.out.ext h).size
      have G1 := Lib.hid ((HW.out.ext h).alloc (.cells #[.int .i64 XN, .int .i64 XD] 24))
      have H1 := Lib.hid (h.alloc (.cells #[.int .i64 XN, .int .i64 XD] 24))
      have BK1 : Hid (∀ W, Ext (u1.alloc (.cells #[.int .i64 XN, .int .i64 XD] 24)) W → W.heap[u1.heap.size]? = some (.cells #[.int .i64 XN, .int .i64 XD] 24)) := fun W hW => hW.heap (alloc0 u1 (.cells #[.int .i64 XN, .int .i64 XD] 24)) (fun h => h)
      clear h k0 k1 k2 k3 k4 k5 
      obtain ⟨k0, k1, k2, k3, k4, k5⟩ := HX.out _ (HV0.out.ext G1.out)
      go_wp2_with fail
      refine (C_ba22.out _).mono ?_
      rintro ee u2 ⟨rfl, h⟩
      have S2 : (w4.alloc (.cells #[.func (Fn.func 20) #[] #[], .func (Fn.func 22) #[] #[]] 35)).heap.size ≤ u2.heap.size := (G1.out.ext h).size
      have G2 := Lib.hid ((G1.out.ext h).alloc (.cells #[.int .i64 XN, .int .i64 XD] 24))
      have H2 := Lib.hid (h.alloc (.cells #[.int .i64 XN, .int .i64 XD] 24))
      have BK2 : Hid (∀ W, Ext (u2.alloc (.cells #[.int .i64 XN, .int .i64 XD] 24)) W → W.heap[u2.heap.size]? = some (.cells #[.int .i64 XN, .int .i64 XD] 24)) := fun W hW => hW.heap (alloc0 u2 (.cells #[.int .i64 XN, .int .i64 XD] 24)) (fun h => h)
      clear h k0 k1 k2 k3 k4 k5 
      obtain ⟨k0, k1, k2, k3, k4, k5⟩ := HX.out _ (HV0.out.ext G2.out)
      have z := BK1.out _ H2.out
      have p0 := cellRow z 0 _ rfl
      have p1 := cellRow z 1 _ rfl
      clear z
      have z := BK2.out _ (Upd.refl _ _)
      have q0 := cellRow z 0 _ rfl
      have q1 := cellRow z 1 _ rfl
      clear z
      go_wp2_with fail
      refine (C_xc22.out _).mono ?_
      rintro ee u3 ⟨rfl, h⟩
      have S3 : (w4.alloc (.cells #[.func (Fn.func 20) #[] #[], .func (Fn.func 22) #[] #[]] 35)).heap.size ≤ u3.heap.size := (G2.out.ext h).size
      have G3 := Lib.hid ((G2.out.ext h).alloc (.cells #[.int .i64 LN, .int .i64 LD] 24))
      have H3 := Lib.hid (h.alloc (.cells #[.int .i64 LN, .int .i64 LD] 24))
      have BK3 : Hid (∀ W, Ext (u3.alloc (.cells #[.int .i64 LN, .int .i64 LD] 24)) W → W.heap[u3.heap.size]? = some (.cells #[.int .i64 LN, .int .i64 LD] 24)) := fun W hW => hW.heap (alloc0 u3 (.cells #[.int .i64 LN, .int .i64 LD] 24)) (fun h => h)
      clear h k0 k1 k2 k3 k4 k5 p0 p1 q0 q1
      obtain ⟨k0, k1, k2, k3, k4, k5⟩ := HX.out _ (HV0.out.ext G3.out)
      go_wp2_with fail
      refine (C_bc22.out _).mono ?_
      rintro ee u4 ⟨rfl, h⟩
      have S4 : (w4.alloc (.cells #[.func (Fn.func 20) #[] #[], .func (Fn.func 22) #[] #[]] 35)).heap.size ≤ u4.heap.size := (G3.out.ext h).size
      have G4 := Lib.hid ((G3.out.ext h).alloc (.cells #[.int .i64 MN, .int .i64 MD] 24))
      have H4 := Lib.hid (h.alloc (.cells #[.int .i64 MN, .int .i64 MD] 24))
      have BK4 : Hid (∀ W, Ext (u4.alloc (.cells #[.int .i64 MN, .int .i64 MD] 24)) W → W.heap[u4.heap.size]? = some (.cells #[.int .i64 MN, .int .i64 MD] 24)) := fun W hW => hW.heap (alloc0 u4 (.cells #[.int .i64 MN, .int .i64 MD] 24)) (fun h => h)
      clear h k0 k1 k2 k3 k4 k5 
      obtain ⟨k0, k1, k2, k3, k4, k5⟩ := HX.out _ (HV0.out.ext G4.out)
      have z := BK4.out _ (Upd.refl _ _)
      have p0 := cellRow z 0 _ rfl
      have p1 := cellRow z 1 _ rfl
      clear z
      go_wp2_with fail
      refine (C_am22.out _).mono ?_
      rintro ee u5 ⟨rfl, h⟩
      have S5 : (w4.alloc (.cells #[.func (Fn.func 20) #[] #[], .func (Fn.func 22) #[] #[]] 35)).heap.size ≤ u5.heap.size := (G4.out.ext h).size
      have G5 := Lib.hid ((G4.out.ext h).alloc (.cells #[.int .i64 RN, .int .i64 RD] 24))
      have H5 := Lib.hid (h.alloc (.cells #[.int .i64 RN, .int .i64 RD] 24))
      have BK5 : Hid (∀ W, Ext (u5.alloc (.cells #[.int .i64 RN, .int .i64 RD] 24)) W → W.heap[u5.heap.size]? = some (.cells #[.int .i64 RN, .int .i64 RD] 24)) := fun W hW => hW.heap (alloc0 u5 (.cells #[.int .i64 RN, .int .i64 RD] 24)) (fun h => h)
      clear h k0 k1 k2 k3 k4 k5 p0 p1
      obtain ⟨k0, k1, k2, k3, k4, k5⟩ := HX.out _ (HV0.out.ext G5.out)
      have z := BK3.out _ (H4.out.ext H5.out)
      have p0 := cellRow z 0 _ rfl
      have p1 := cellRow z 1 _ rfl
      clear z
      have z := BK5.out _ (Upd.refl _ _)
      have q0 := cellRow z 0 _ rfl
      have q1 := cellRow z 1 _ rfl
      clear z
      go_upto_region 15 with fail
      go_cut [118] (fun s ww => s = .bool false ∧ ww = (u5.alloc (.cells #[.int .i64 RN, .int .i64 RD] 24)))
      case first =>
        by_cases e0 : XE = 0
        rotate_left
        · have t1 : (XE == 0) = false := beq_eq_false_iff_ne.2 e0
          have t2 : (XE != 0) = true := bne_iff_ne.2 e0
          go_wp2_with fail
          go_meet
          exact ⟨rfl, rfl⟩
        · subst e0
          by_cases e1 : LE = 0
          rotate_left
          · have t1 : (LE == 0) = false := beq_eq_false_iff_ne.2 e1
            have t2 : (LE != 0) = true := bne_iff_ne.2 e1
            go_wp2_with fail
            go_meet
            exact ⟨rfl, rfl⟩
          · subst e1
            by_cases e2 : ME = 0
            rotate_left
            · have t1 : (ME == 0) = false := beq_eq_false_iff_ne.2 e2
              have t2 : (ME != 0) = true := bne_iff_ne.2 e2
              go_wp2_with fail
              go_meet
              exact ⟨rfl, rfl⟩
            · subst e2
              by_cases e3 : RE = 0
              rotate_left
              · have t1 : (RE == 0) = false := beq_eq_false_iff_ne.2 e3
                have t2 : (RE != 0) = true := bne_iff_ne.2 e3
                go_wp2_with fail
                go_meet
                exact ⟨rfl, rfl⟩
              · subst e3
                obtain ⟨rfl, rfl⟩ := J2.out rfl rfl rfl rfl
                go_wp2_with fail
                go_meet
                exact ⟨rfl, rfl⟩
      case rest =>
        obtain ⟨rfl, rfl⟩ := hcut
        go_wp2_with fail
        go_roundg 0
        case measure => omega
        case rel => exact ⟨2, by go_num, rfl, G5.out⟩
    · clear hi
      go_wp2_with fail
      refine (C_bc20.out _).mono ?_
      rintro ee u1 ⟨rfl, h⟩
      have S1 : (w4.alloc (.cells #[.func (Fn.func 20) #[] #[], .func (Fn.func 22) #[] #[]] 35)).heap.size ≤ u1.heap.size := (HW.out.ext h).size
      have G1 := Lib.hid ((HW.out.ext h).alloc (.cells #[.int .i64 mN, .int .i64 mD] 24))
      have H1 := Lib.hid (h.alloc (.cells #[.int .i64 mN, .int .i64 mD] 24))
      have BK1 : Hid (∀ W, Ext (u1.alloc (.cells #[.int .i64 mN, .int .i64 mD] 24)) W → W.heap[u1.heap.size]? = some (.cells #[.int .i64 mN, .int .i64 mD] 24)) := fun W hW => hW.heap (alloc0 u1 (.cells #[.int .i64 mN, .int .i64 mD] 24)) (fun h => h)
      clear h k0 k1 k2 k3 k4 k5 
      obtain ⟨k0, k1, k2, k3, k4, k5⟩ := HX.out _ (HV0.out.ext G1.out)
      have z := BK1.out _ (Upd.refl _ _)
      have p0 := cellRow z 0 _ rfl
      have p1 := cellRow z 1 _ rfl
      clear z
      go_wp2_with fail
      refine (C_p.out _).mono ?_
      rintro ee u2 ⟨rfl, h⟩
      have S2 : (w4.alloc (.cells #[.func (Fn.func 20) #[] #[], .func (Fn.func 22) #[] #[]] 35)).heap.size ≤ u2.heap.size := (G1.out.ext h).size
      have G2 := Lib.hid ((G1.out.ext h).alloc (.cells #[.int .i64 pN, .int .i64 pD] 24))
      have H2 := Lib.hid (h.alloc (.cells #[.int .i64 pN, .int .i64 pD] 24))
      have BK2 : Hid (∀ W, Ext (u2.alloc (.cells #[.int .i64 pN, .int .i64 pD] 24)) W → W.heap[u2.heap.size]? = some (.cells #[.int .i64 pN, .int .i64 pD] 24)) := fun W hW => hW.heap (alloc0 u2 (.cells #[.int .i64 pN, .int .i64 pD] 24)) (fun h => h)
      clear h k0 k1 k2 k3 k4 k5 p0 p1
      obtain ⟨k0, k1, k2, k3, k4, k5⟩ := HX.out _ (HV0.out.ext G2.out)
      go_wp2_with fail
      refine (C_ab22.out _).mono ?_
      rintro ee u3 ⟨rfl, h⟩
      have S3 : (w4.alloc (.cells #[.func (Fn.func 20) #[] #[], .func (Fn.func 22) #[] #[]] 35)).heap.size ≤ u3.heap.size := (G2.out.ext h).size
      have G3 := Lib.hid ((G2.out.ext h).alloc (.cells #[.int .i64 XN, .int .i64 XD] 24))
      have H3 := Lib.hid (h.alloc (.cells #[.int .i64 XN, .int .i64 XD] 24))
      have BK3 : Hid (∀ W, Ext (u3.alloc (.cells #[.int .i64 XN, .int .i64 XD] 24)) W → W.heap[u3.heap.size]? = some (.cells #[.int .i64 XN, .int .i64 XD] 24)) := fun W hW => hW.heap (alloc0 u3 (.cells #[.int .i64 XN, .int .i64 XD] 24)) (fun h => h)
      clear h k0 k1 k2 k3 k4 k5 
      obtain ⟨k0, k1, k2, k3, k4, k5⟩ := HX.out _ (HV0.out.ext G3.out)
      go_wp2_with fail
      refine (C_y.out _).mono ?_
      rintro ee u4 ⟨rfl, h⟩
      have S4 : (w4.alloc (.cells #[.func (Fn.func 20) #[] #[], .func (Fn.func 22) #[] #[]] 35)).heap.size ≤ u4.heap.size := (G3.out.ext h).size
      have G4 := Lib.hid ((G3.out.ext h).alloc (.cells #[.int .i64 yN, .int .i64 yD] 24))
      have H4 := Lib.hid (h.alloc (.cells #[.int .i64 yN, .int .i64 yD] 24))
      have BK4 : Hid (∀ W, Ext (u4.alloc (.cells #[.int .i64 yN, .int .i64 yD] 24)) W → W.heap[u4.heap.size]? = some (.cells #[.int .i64 yN, .int .i64 yD] 24)) := fun W hW => hW.heap (alloc0 u4 (.cells #[.int .i64 yN, .int .i64 yD] 24)) (fun h => h)
      clear h k0 k1 k2 k3 k4 k5 
      obtain ⟨k0, k1, k2, k3, k4, k5⟩ := HX.out _ (HV0.out.ext G4.out)
      have z := BK3.out _ H4.out
      have p0 := cellRow z 0 _ rfl
      have p1 := cellRow z 1 _ rfl
      clear z
      have z := BK4.out _ (Upd.refl _ _)
      have q0 := cellRow z 0 _ rfl
      have q1 := cellRow z 1 _ rfl
      clear z
      go_wp2_with fail
      refine (C_s.out _).mono ?_
      rintro ee u5 ⟨rfl, h⟩
      have S5 : (w4.alloc (.cells #[.func (Fn.func 20) #[] #[], .func (Fn.func 22) #[] #[]] 35)).heap.size ≤ u5.heap.size := (G4.out.ext h).size
      have G5 := Lib.hid ((G4.out.ext h).alloc (.cells #[.int .i64 sN, .int .i64 sD] 24))
      have H5 := Lib.hid (h.alloc (.cells #[.int .i64 sN, .int .i64 sD] 24))
      have BK5 : Hid (∀ W, Ext (u5.alloc (.cells #[.int .i64 sN, .int .i64 sD] 24)) W → W.heap[u5.heap.size]? = some (.cells #[.int .i64 sN, .int .i64 sD] 24)) := fun W hW => hW.heap (alloc0 u5 (.cells #[.int .i64 sN, .int .i64 sD] 24)) (fun h => h)
      clear h k0 k1 k2 k3 k4 k5 p0 p1 q0 q1
      obtain ⟨k0, k1, k2, k3, k4, k5⟩ := HX.out _ (HV0.out.ext G5.out)
      have z := BK2.out _ ((H3.out.ext H4.out).ext H5.out)
      have p0 := cellRow z 0 _ rfl
      have p1 := cellRow z 1 _ rfl
      clear z
      have z := BK5.out _ (Upd.refl _ _)
      have q0 := cellRow z 0 _ rfl
      have q1 := cellRow z 1 _ rfl
      clear z
      go_upto_region 23 with fail
      go_cut [172] (fun s ww => s = .bool false ∧ ww = (u5.alloc (.cells #[.int .i64 sN, .int .i64 sD] 24)))
      case first =>
        by_cases e0 : mE = 0
        rotate_left
        · have t1 : (mE == 0) = false := beq_eq_false_iff_ne.2 e0
          have t2 : (mE != 0) = true := bne_iff_ne.2 e0
          go_wp2_with fail
          go_meet
          exact ⟨rfl, rfl⟩
        · subst e0
          by_cases e1 : pE = 0
          rotate_left
          · have t1 : (pE == 0) = false := beq_eq_false_iff_ne.2 e1
            have t2 : (pE != 0) = true := bne_iff_ne.2 e1
            go_wp2_with fail
            go_meet
            exact ⟨rfl, rfl⟩
          · subst e1
            by_cases e2 : XE = 0
            rotate_left
            · have t1 : (XE == 0) = false := beq_eq_false_iff_ne.2 e2
              have t2 : (XE != 0) = true := bne_iff_ne.2 e2
              go_wp2_with fail
              go_meet
              exact ⟨rfl, rfl⟩
            · subst e2
              by_cases e3 : yE = 0
              rotate_left
              · have t1 : (yE == 0) = false := beq_eq_false_iff_ne.2 e3
                have t2 : (yE != 0) = true := bne_iff_ne.2 e3
                go_wp2_with fail
                go_meet
                exact ⟨rfl, rfl⟩
              · subst e3
                by_cases e4 : sE = 0
                rotate_left
                · have t1 : (sE == 0) = false := beq_eq_false_iff_ne.2 e4
                  have t2 : (sE != 0) = true := bne_iff_ne.2 e4
                  go_wp2_with fail
                  go_meet
                  exact ⟨rfl, rfl⟩
                · subst e4
                  obtain ⟨rfl, rfl⟩ := J3.out rfl rfl rfl rfl rfl
                  go_wp2_with fail
                  go_meet
                  exact ⟨rfl, rfl⟩
      case rest =>
      obtain ⟨rfl, rfl⟩ := hcut
      clear p0 p1 q0 q1
      go_wp2_with fail
      refine (C_d.out _).mono ?_
      rintro ee u6 ⟨rfl, h⟩
      have S6 : (w4.alloc (.cells #[.func (Fn.func 20) #[] #[], .func (Fn.func 22) #[] #[]] 35)).heap.size ≤ u6.heap.size := (G5.out.ext h).size
      have G6 := Lib.hid ((G5.out.ext h).alloc (.cells #[.int .i64 dN, .int .i64 dD] 24))
      have H6 := Lib.hid (h.alloc (.cells #[.int .i64 dN, .int .i64 dD] 24))
      have BK6 : Hid (∀ W, Ext (u6.alloc (.cells #[.int .i64 dN, .int .i64 dD] 24)) W → W.heap[u6.heap.size]? = some (.cells #[.int .i64 dN, .int .i64 dD] 24)) := fun W hW => hW.heap (alloc0 u6 (.cells #[.int .i64 dN, .int .i64 dD] 24)) (fun h => h)
      clear h k0 k1 k2 k3 k4 k5 
      obtain ⟨k0, k1, k2, k3, k4, k5⟩ := HX.out _ (HV0.out.ext G6.out)
      have z := BK6.out _ (Upd.refl _ _)
      have p0 := cellRow z 0 _ rfl
      have p1 := cellRow z 1 _ rfl
      clear z
      go_wp2_with fail
      refine (C_k.out _).mono ?_
      rintro ee u7 ⟨rfl, h⟩
      have S7 : (w4.alloc (.cells #[.func (Fn.func 20) #[] #[], .func (Fn.func 22) #[] #[]] 35)).heap.size ≤ u7.heap.size := (G6.out.ext h).size
      have G7 := Lib.hid ((G6.out.ext h).alloc (.cells #[.int .i64 kN, .int .i64 kD] 24))
      have H7 := Lib.hid (h.alloc (.cells #[.int .i64 kN, .int .i64 kD] 24))
      have BK7 : Hid (∀ W, Ext (u7.alloc (.cells #[.int .i64 kN, .int .i64 kD] 24)) W → W.heap[u7.heap.size]? = some (.cells #[.int .i64 kN, .int .i64 kD] 24)) := fun W hW => hW.heap (alloc0 u7 (.cells #[.int .i64 kN, .int .i64 kD] 24)) (fun h => h)
      clear h k0 k1 k2 k3 k4 k5 p0 p1
      obtain ⟨k0, k1, k2, k3, k4, k5⟩ := HX.out _ (HV0.out.ext G7.out)
      have z := BK7.out _ (Upd.refl _ _)
      have p0 := cellRow z 0 _ rfl
      have p1 := cellRow z 1 _ rfl
      clear z
      go_upto_region 27 with fail
      go_cut [195] (fun s ww => s = .bool false ∧ ww = (u7.alloc (.cells #[.int .i64 kN, .int .i64 kD] 24)))
      case first =>
        by_cases e0 : dE = 0
        rotate_left
        · have t1 : (dE == 0) = false := beq_eq_false_iff_ne.2 e0
          have t2 : (dE != 0) = true := bne_iff_ne.2 e0
          go_wp2_with fail
          go_meet
          exact ⟨rfl, rfl⟩
        · subst e0
          obtain ⟨rfl, rfl, rfl⟩ := J4.out rfl
          go_wp2_with fail
          go_meet
          exact ⟨rfl, rfl⟩
      case rest =>
      obtain ⟨rfl, rfl⟩ := hcut
      clear p0 p1
      go_wp2_with fail
      refine (C_q.out _).mono ?_
      rintro ee u8 ⟨rfl, h⟩
      have S8 : (w4.alloc (.cells #[.func (Fn.func 20) #[] #[], .func (Fn.func 22) #[] #[]] 35)).heap.size ≤ u8.heap.size := (G7.out.ext h).size
      have G8 := Lib.hid ((G7.out.ext h).alloc (.cells #[.int .i64 qN, .int .i64 qD] 24))
      have H8 := Lib.hid (h.alloc (.cells #[.int .i64 qN, .int .i64 qD] 24))
      have BK8 : Hid (∀ W, Ext (u8.alloc (.cells #[.int .i64 qN, .int .i64 qD] 24)) W → W.heap[u8.heap.size]? = some (.cells #[.int .i64 qN, .int .i64 qD] 24)) := fun W hW => hW.heap (alloc0 u8 (.cells #[.int .i64 qN, .int .i64 qD] 24)) (fun h => h)
      clear h k0 k1 k2 k3 k4 k5 
      obtain ⟨k0, k1, k2, k3, k4, k5⟩ := HX.out _ (HV0.out.ext G8.out)
      have z := BK8.out _ (Upd.refl _ _)
      have p0 := cellRow z 0 _ rfl
      have p1 := cellRow z 1 _ rfl
      clear z
      go_wp2_with fail
      refine (C_t.out _).mono ?_
      rintro ee u9 ⟨rfl, h⟩
      have z := BK7.out _ (H8.out.ext h)
      have z2 := setBlock (setBlock z 0 (.int .i64 tN)) 1 (.int .i64 tD)
      have G9 := Lib.hid (((G8.out.ext h).setNew S7 (j := 0) (.int .i64 tN)).setNew S7 (j := 1) (.int .i64 tD))
      clear h k0 k1 k2 k3 k4 k5 p0 p1
      have x0 := cellRow z 0 _ rfl
      have x1 := cellRow z 1 _ rfl
      have m0 := frozenRow z 0
      have m1 := frozenRow z 1
      clear z
      go_wp2_with (with_reducible (refine stop_at (o := ⟨some 208, _, _, _, _, _⟩) ?_))
      refine Stop.go ?_
      generalize hVV : World.setCell (World.setCell u9 _ _) _ _ = VV at *
      clear hVV x0 x1 m0 m1
      obtain ⟨k0, k1, k2, k3, k4, k5⟩ := HX.out _ (HV0.out.ext G9.out)
      have y0 := cellRow z2 0 _ rfl
      have y1 := cellRow z2 1 _ rfl
      clear z2
      simp at y0 y1
      by_cases hc : c = 0
      · have t1 : (c == 0) = true := beq_iff_eq.2 hc
        obtain rfl := J5.out hc
        go_wp2_with fail
        go_ret
        exact ⟨rfl, HE0.out.ext (HV0.out.ext G9.out)⟩
      · have t1 : (c == 0) = false := beq_eq_false_iff_ne.2 hc
        by_cases hq : qE = 0
        · subst hq
          obtain ⟨rfl, rfl, rfl⟩ := J6.out hc rfl
          go_wp2_with fail
          go_ret
          exact ⟨rfl, HE0.out.ext (HV0.out.ext G9.out)⟩
        · have t2 : (qE == 0) = false := beq_eq_false_iff_ne.2 hq
          have t3 : (qE != 0) = true := bne_iff_ne.2 hq
          go_wp2_with fail
          go_ret
          exact ⟨rfl, HE0.out.ext (HV0.out.ext G9.out)⟩

end Go.Proofs.YtlipjgpfhmkdhaaDoor
