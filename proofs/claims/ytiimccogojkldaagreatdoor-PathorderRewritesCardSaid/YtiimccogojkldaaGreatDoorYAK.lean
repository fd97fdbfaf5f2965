/- The texts I41 I42 I43 I44 I45 TD I47 I48 OT I49 CF VB, one behind the other. -/
import Derived.Test.YtiimccogojkldaaGreatDoorYAJ
import Derived.Test.YtiimccogojkldaaGreatDoorYAA
import Derived.Test.YtiimccogojkldaaGreatDoorRows
import Derived.Lib.SmallJoins
import Derived.OpenShut
import Derived.Deep.SlicePairs
import Derived.ProofKit
import Derived.SizedLaws
import Derived.Test.YtiimccogojkldaaGreatDoorTie
import Derived.Test.YtiimccogojkldaaGreatDoorCards
import Derived.WalkKit
import Derived.Handy
import Derived.Lay
import Derived.MakeChecks
import Derived.LaidSub
import Derived.SevenTiedAt
import Derived.Test.YtiimccogojkldaaGreatDoorYAE
import Derived.Test.YtiimccogojkldaaGreatDoorYAB
import Derived.Shelf.SlSortCmp.NoneTotal
import Derived.Lib.Bytealg
/- first of the rules. -/
namespace Go.Proofs.YtiimccogojkldaaGreatDoor
open Go.RowKit Go.Hw Go
set_option linter.unusedVariables false
set_option linter.unusedSimpArgs false

open Tm
set_option maxRecDepth 100000 in
set_option maxHeartbeats 2000000 in
theorem idxR80_x (c1 : Value) (p : Rl → Bool) (J : Nat → World → Prop) (hJ : ∀ k W W', J k W → Ext W W' → J k W') (L : List Rl) (v : Value) (S : Nat → Prop) (w : World) (hw : J 0 w) (hl : L.length ≤ 1000000)
    (hR : ∀ k W, J k W → RuR S W L v) (hf : ∀ k, k < L.length → ∀ xa xc ya yc W, J k W → TlR S W (rg L k).1.kids (.slice xa (rg L k).1.kids.length xc) → TlR S W (rg L k).2.kids (.slice ya (rg L k).2.kids.length yc) → Calls Tryz.prog 80 #[.agg #[.string (rg L k).1.name, .string (rg L k).1.sort, .slice xa (rg L k).1.kids.length xc, .string (rg L k).2.name, .string (rg L k).2.sort, .slice ya (rg L k).2.kids.length yc], c1] W fun e W' => e = .returned (.bool (p (rg L k))) ∧ J (k + 1) W') :
    Calls Tryz.prog 45 #[v, .func (.func 80) #[] #[c1]] w fun e w' => e = .returned (.int .i64 (if L.findIdx p < L.length then (L.findIdx p : Int) else -1)) ∧ ∃ k, k ≤ L.length ∧ J k w' := by
  obtain ⟨a, cap, rfl⟩ := (hR 0 w hw).shape
  have HW := Lib.hid hw
  have HR := Lib.hid hR
  have HF := Lib.hid hf
  obtain ⟨X, hX⟩ : ∃ X : Int, (if L.findIdx p < L.length then (L.findIdx p : Int) else -1) = X := ⟨_, rfl⟩
  rw [hX]
  have HX := Lib.hid hX
  clear hw hR hf hJ hX
  go_enter Tryz.func45, Tryz.ntmps45
  go_wp2_with fail
  go_loopg [8] L.length (fun gk iv wr => ∃ k : Nat, iv = .int .i64 (k : Int) ∧ gk = L.length - k ∧ k ≤ L.length ∧ Hid (J k wr) ∧ Hid (∀ j, j < k → p (rg L j) = false))
  case atStart => exact ⟨0, rfl, rfl, Nat.zero_le _, HW, Lib.hid (fun j h => absurd h (Nat.not_lt_zero _))⟩
  case round =>
    obtain ⟨k, rfl, rfl, hk, HK, HM⟩ := hrel
    have hgt : ∀ j, (h : j < L.length) → rg L j = L[j] := fun j h => by unfold rg; rw [List.getD_eq_getElem?_getD, List.getElem?_eq_getElem h]; rfl
    by_cases hlt : k < L.length
    · obtain ⟨g, off, hga, _, hat⟩ := (HR.out k wr HK.out).at_ (by omega)
      subst hga
      obtain ⟨xa, xc, ya, yc, q0, q1, q2, q3, q4, q5, hx, hy⟩ := hat k hlt
      have z0 : (0 : Int) ≤ (k : Int) := by omega
      have z1 : (k : Int) < (L.length : Int) := by omega
      have z2 : decide ((k : Int) < (L.length : Int)) = true := decide_eq_true z1
      have z2' : decide (k < L.length) = true := decide_eq_true hlt
      have HFX := Lib.hid (HF.out k hlt _ _ _ _ wr HK.out hx hy)
      have HN : Hid (p (rg L k) = false → ∀ j, j < k + 1 → p (rg L j) = false) := Lib.hid (fun h j hj => by
        rcases Nat.lt_succ_iff_lt_or_eq.1 hj with h5 | h5
        · exact HM.out j h5
        · rw [h5]; exact h)
      have HY : Hid (p (rg L k) = true → L.findIdx p = k) := Lib.hid (fun h => by
        rcases Nat.lt_trichotomy (L.findIdx p) k with e | e | e
        · have h1 : L.findIdx p < L.length := by omega
          have h2 := List.findIdx_getElem (w := h1)
          rw [← hgt _ h1, HM.out _ e] at h2; cases h2
        · exact e
        · have h2 := List.not_of_lt_findIdx e
          rw [← hgt _ hlt] at h2
          rw [h2] at h; cases h)
      obtain ⟨⟨x, y⟩, hxy⟩ : ∃ r, rg L k = r := ⟨_, rfl⟩
      rw [hxy] at q0 q1 q2 q3 q4 q5 HFX HN HY
      dsimp only at q0 q1 q2 q3 q4 q5 HFX HN HY
      obtain ⟨b, hb⟩ : ∃ b, p (x, y) = b := ⟨_, rfl⟩
      rw [hb] at HFX HN HY
      clear hat hx hy hxy hb HM hgt
      go_wp2_with fail
      refine HFX.out.mono ?_
      rintro e w4 ⟨rfl, hw4⟩
      have H4 := Lib.hid hw4
      clear hw4 q0 q1 q2 q3 q4 q5 HFX HK
      cases b
      · have HN2 := Lib.hid (HN.out rfl)
        clear HN HY
        go_wp2_with fail
        go_roundg (L.length - (k + 1))
        case measure => omega
        case rel => exact ⟨k + 1, by go_num, rfl, by omega, H4, HN2⟩
      · have HY2 := Lib.hid (HY.out rfl)
        clear HN HY
        go_wp2_with fail
        go_ret
        exact ⟨by rw [← HX.out, HY2.out, if_pos hlt]; rfl, k + 1, by omega, H4.out⟩
    · obtain rfl : k = L.length := by omega
      have z2 : decide ((L.length : Int) < (L.length : Int)) = false := decide_eq_false (by omega)
      have HV : Hid (¬ L.findIdx p < L.length) := Lib.hid (fun h => by
        have h2 := List.findIdx_getElem (w := h)
        rw [← hgt _ h, HM.out _ h] at h2; cases h2)
      clear hgt
      go_wp2_with fail
      go_ret
      exact ⟨by rw [← HX.out, if_neg HV.out]; rfl, L.length, Nat.le_refl _, HK.out⟩
set_option maxRecDepth 100000 in
set_option maxHeartbeats 2000000 in
theorem idxR15_x (p : Rl → Bool) (J : Nat → World → Prop) (hJ : ∀ k W W', J k W → Ext W W' → J k W') (L : List Rl) (v : Value) (S : Nat → Prop) (w : World) (hw : J 0 w) (hl : L.length ≤ 1000000)
    (hR : ∀ k W, J k W → RuR S W L v) (hf : ∀ k, k < L.length → ∀ xa xc ya yc W, J k W → TlR S W (rg L k).1.kids (.slice xa (rg L k).1.kids.length xc) → TlR S W (rg L k).2.kids (.slice ya (rg L k).2.kids.length yc) → Calls Tryz.prog 15 #[.agg #[.string (rg L k).1.name, .string (rg L k).1.sort, .slice xa (rg L k).1.kids.length xc, .string (rg L k).2.name, .string (rg L k).2.sort, .slice ya (rg L k).2.kids.length yc]] W fun e W' => e = .returned (.bool (p (rg L k))) ∧ J (k + 1) W') :
    Calls Tryz.prog 45 #[v, .func (.func 15) #[] #[]] w fun e w' => e = .returned (.int .i64 (if L.findIdx p < L.length then (L.findIdx p : Int) else -1)) ∧ ∃ k, k ≤ L.length ∧ J k w' := by
  obtain ⟨a, cap, rfl⟩ := (hR 0 w hw).shape
  have HW := Lib.hid hw
  have HR := Lib.hid hR
  have HF := Lib.hid hf
  obtain ⟨X, hX⟩ : ∃ X : Int, (if L.findIdx p < L.length then (L.findIdx p : Int) else -1) = X := ⟨_, rfl⟩
  rw [hX]
  have HX := Lib.hid hX
  clear hw hR hf hJ hX
  go_enter Tryz.func45, Tryz.ntmps45
  go_wp2_with fail
  go_loopg [8] L.length (fun gk iv wr => ∃ k : Nat, iv = .int .i64 (k : Int) ∧ gk = L.length - k ∧ k ≤ L.length ∧ Hid (J k wr) ∧ Hid (∀ j, j < k → p (rg L j) = false))
  case atStart => exact ⟨0, rfl, rfl, Nat.zero_le _, HW, Lib.hid (fun j h => absurd h (Nat.not_lt_zero _))⟩
  case round =>
    obtain ⟨k, rfl, rfl, hk, HK, HM⟩ := hrel
    have hgt : ∀ j, (h : j < L.length) → rg L j = L[j] := fun j h => by unfold rg; rw [List.getD_eq_getElem?_getD, List.getElem?_eq_getElem h]; rfl
    by_cases hlt : k < L.length
    · obtain ⟨g, off, hga, _, hat⟩ := (HR.out k wr HK.out).at_ (by omega)
      subst hga
      obtain ⟨xa, xc, ya, yc, q0, q1, q2, q3, q4, q5, hx, hy⟩ := hat k hlt
      have z0 : (0 : Int) ≤ (k : Int) := by omega
      have z1 : (k : Int) < (L.length : Int) := by omega
      have z2 : decide ((k : Int) < (L.length : Int)) = true := decide_eq_true z1
      have z2' : decide (k < L.length) = true := decide_eq_true hlt
      have HFX := Lib.hid (HF.out k hlt _ _ _ _ wr HK.out hx hy)
      have HN : Hid (p (rg L k) = false → ∀ j, j < k + 1 → p (rg L j) = false) := Lib.hid (fun h j hj => by
        rcases Nat.lt_succ_iff_lt_or_eq.1 hj with h5 | h5
        · exact HM.out j h5
        · rw [h5]; exact h)
      have HY : Hid (p (rg L k) = true → L.findIdx p = k) := Lib.hid (fun h => by
        rcases Nat.lt_trichotomy (L.findIdx p) k with e | e | e
        · have h1 : L.findIdx p < L.length := by omega
          have h2 := List.findIdx_getElem (w := h1)
          rw [← hgt _ h1, HM.out _ e] at h2; cases h2
        · exact e
        · have h2 := List.not_of_lt_findIdx e
          rw [← hgt _ hlt] at h2
          rw [h2] at h; cases h)
      obtain ⟨⟨x, y⟩, hxy⟩ : ∃ r, rg L k = r := ⟨_, rfl⟩
      rw [hxy] at q0 q1 q2 q3 q4 q5 HFX HN HY
      dsimp only at q0 q1 q2 q3 q4 q5 HFX HN HY
      obtain ⟨b, hb⟩ : ∃ b, p (x, y) = b := ⟨_, rfl⟩
      rw [hb] at HFX HN HY
      clear hat hx hy hxy hb HM hgt
      go_wp2_with fail
      refine HFX.out.mono ?_
      rintro e w4 ⟨rfl, hw4⟩
      have H4 := Lib.hid hw4
      clear hw4 q0 q1 q2 q3 q4 q5 HFX HK
      cases b
      · have HN2 := Lib.hid (HN.out rfl)
        clear HN HY
        go_wp2_with fail
        go_roundg (L.length - (k + 1))
        case measure => omega
        case rel => exact ⟨k + 1, by go_num, rfl, by omega, H4, HN2⟩
      · have HY2 := Lib.hid (HY.out rfl)
        clear HN HY
        go_wp2_with fail
        go_ret
        exact ⟨by rw [← HX.out, HY2.out, if_pos hlt]; rfl, k + 1, by omega, H4.out⟩
    · obtain rfl : k = L.length := by omega
      have z2 : decide ((L.length : Int) < (L.length : Int)) = false := decide_eq_false (by omega)
      have HV : Hid (¬ L.findIdx p < L.length) := Lib.hid (fun h => by
        have h2 := List.findIdx_getElem (w := h)
        rw [← hgt _ h, HM.out _ h] at h2; cases h2)
      clear hgt
      go_wp2_with fail
      go_ret
      exact ⟨by rw [← HX.out, if_neg HV.out]; rfl, L.length, Nat.le_refl _, HK.out⟩
set_option maxRecDepth 100000 in
set_option maxHeartbeats 2000000 in
theorem conR15_x (p : Rl → Bool) (J : Nat → World → Prop) (hJ : ∀ k W W', J k W → Ext W W' → J k W') (L : List Rl) (v : Value) (S : Nat → Prop) (w : World) (hw : J 0 w) (hl : L.length ≤ 1000000)
    (hR : ∀ k W, J k W → RuR S W L v) (hf : ∀ k, k < L.length → ∀ xa xc ya yc W, J k W → TlR S W (rg L k).1.kids (.slice xa (rg L k).1.kids.length xc) → TlR S W (rg L k).2.kids (.slice ya (rg L k).2.kids.length yc) → Calls Tryz.prog 15 #[.agg #[.string (rg L k).1.name, .string (rg L k).1.sort, .slice xa (rg L k).1.kids.length xc, .string (rg L k).2.name, .string (rg L k).2.sort, .slice ya (rg L k).2.kids.length yc]] W fun e W' => e = .returned (.bool (p (rg L k))) ∧ J (k + 1) W') :
    Calls Tryz.prog 14 #[v, .func (.func 15) #[] #[]] w fun e w' => e = .returned (.bool (L.any p)) ∧ ∃ k, k ≤ L.length ∧ J k w' := by
  have HI := Lib.hid (idxR15_x  p J hJ L v S w hw hl hR hf)
  have HV : Hid (decide (L.findIdx p < L.length) = L.any p) := Lib.hid (by rw [Bool.eq_iff_iff, decide_eq_true_eq, List.findIdx_lt_length, List.any_eq_true])
  clear hw hR hf hJ
  by_cases h : L.findIdx p < L.length
  · have hv : L.any p = true := by rw [← HV.out]; exact decide_eq_true h
    rw [hv]
    rw [if_pos h] at HI
    have z0 : (0 : Int) ≤ ((L.findIdx p : Nat) : Int) := by omega
    generalize L.findIdx p = X at *
    clear h hv
    go_enter Tryz.func14, Tryz.ntmps14
    go_wp2_with fail
    refine HI.out.mono ?_
    rintro e w4 ⟨rfl, k, hk, hw4⟩
    have H4 := Lib.hid hw4
    clear hw4
    go_wp2_with fail
    go_ret
    exact ⟨by first | rfl | simp, k, hk, H4.out⟩
  · have hv : L.any p = false := by rw [← HV.out]; exact decide_eq_false h
    rw [hv]
    rw [if_neg h] at HI
    clear h hv HV
    go_enter Tryz.func14, Tryz.ntmps14
    go_wp2_with fail
    refine HI.out.mono ?_
    rintro e w4 ⟨rfl, k, hk, hw4⟩
    have H4 := Lib.hid hw4
    clear hw4
    go_wp2_with fail
    go_ret
    exact ⟨by first | rfl | simp, k, hk, H4.out⟩
set_option maxRecDepth 100000 in
set_option maxHeartbeats 2000000 in
theorem clo80_x (x y : Tm) (xa ya : Option Addr) (xc yc b c2 : Nat) (G : Bool) (Q : World → Prop) (w : World) (h2 : w.heap[c2]? = some (.cells #[.pointer (some ⟨b, 0, none⟩)] 81 (0, 0)))
    (hg : ∀ W, Ext w W → Calls Tryz.prog 43 #[.pointer (some ⟨b, 0, none⟩), .agg #[.string x.name, .string x.sort, .slice xa x.kids.length xc], .agg #[.string y.name, .string y.sort, .slice ya y.kids.length yc]] W fun e W' => e = .returned (.bool G) ∧ Q W') :
    Calls Tryz.prog 80 #[.agg #[.string x.name, .string x.sort, .slice xa x.kids.length xc, .string y.name, .string y.sort, .slice ya y.kids.length yc], .pointer (some ⟨c2, 0, none⟩)] w fun e w' => e = .returned (.bool (!G)) ∧ Q w' := by
  have HG := Lib.hid hg
  have HZ : Hid (Ext w (w.alloc (.cells #[.string x.name, .string x.sort, .slice xa x.kids.length xc, .string y.name, .string y.sort, .slice ya y.kids.length yc] 38))) := Lib.hid ((Upd.refl (fun _ => False) w).alloc _)
  have hb := alloc0 w (.cells #[.string x.name, .string x.sort, .slice xa x.kids.length xc, .string y.name, .string y.sort, .slice ya y.kids.length yc] 38)
  have q2 := cellRow (HZ.out.heap h2 (fun h => h)) 0 (.pointer (some ⟨b, 0, none⟩)) rfl
  have r0 := cellRow hb 0 (.string x.name) rfl
  have r1 := cellRow hb 1 (.string x.sort) rfl
  have r2 := cellRow hb 2 (.slice xa x.kids.length xc) rfl
  have r3 := cellRow hb 3 (.string y.name) rfl
  have r4 := cellRow hb 4 (.string y.sort) rfl
  have r5 := cellRow hb 5 (.slice ya y.kids.length yc) rfl
  clear hg h2 hb
  go_enter Tryz.func80, Tryz.ntmps80
  go_wp2_with fail
  refine (HG.out _ HZ.out).mono ?_
  rintro e w4 ⟨rfl, hw4⟩
  have H4 := Lib.hid hw4
  clear hw4 q2 r0 r1 r2 r3 r4 r5
  go_wp2_with fail
  go_ret
  exact ⟨rfl, H4.out⟩
theorem flR_sizes (L : List Rl) (k : Nat) (h : k < L.length) : sizes (flR (L.take (k + 1))) = sizes (flR (L.take k)) + (rg L k).1.size + (rg L k).2.size := by
  rw [rg_snoc L k h, flR_append, sizes_append]
  show _ + (_ + (_ + 0)) = _
  omega
theorem flR_sizes_le (L : List Rl) (k : Nat) : sizes (flR (L.take k)) ≤ sizes (flR L) := by
  have : sizes (flR L) = sizes (flR (L.take k)) + sizes (flR (L.drop k)) := by rw [← sizes_append, ← flR_append, List.take_append_drop]
  omega
/-- what first answers -/
def firstI (ops : List By) (L : List Rl) : Int := if firstP ops L < L.length then (firstP ops L : Int) else -1
theorem firstI_neg (ops : List By) (L : List Rl) : decide (firstI ops L < 0) = allDec ops L := by
  have h := firstP_all ops L
  unfold firstI
  by_cases h1 : firstP ops L < L.length
  · rw [if_pos h1, decide_eq_false (by omega)]
    rw [decide_eq_true h1] at h
    cases h2 : allDec ops L
    · rfl
    · rw [h2] at h; cases h
  · rw [if_neg h1, decide_eq_true (by omega)]
    rw [decide_eq_false h1] at h
    cases h2 : allDec ops L
    · rw [h2] at h; cases h
    · rfl
set_option maxRecDepth 100000 in
set_option maxHeartbeats 2000000 in
theorem first_x (ops : List By) (base b : Nat) (L : List Rl) (v : Value) (B T : Nat → Prop) (w : World) (hO : OrdR 144 114 ops (fun _ => False) B base w b []) (hR : RuR T w L v) (hT : ∀ k, T k → k < base) (hb : base ≤ w.heap.size) (hl : L.length ≤ 1000000) (hsz : sizes (flR L) ≤ 100000)
    (hn : ∀ t ∈ flR L, ∀ x ∈ sbts t, OkN ops x) (hpow : ∀ W, Upd (fun j => base ≤ j) w W → Lib.TabIs Tryz.prog W "internal/strconv.uint64pow10" .u64 Lib.pow10Tab) :
    Calls Tryz.prog 47 #[.pointer (some ⟨b, 0, none⟩), v] w fun e w' => e = .returned (.int .i64 (firstI ops L)) ∧ Upd B w w' := by
  obtain ⟨a, cap, rfl⟩ := hR.shape
  have HZ : Hid (Ext w (w.alloc (.cells #[.pointer (some ⟨b, 0, none⟩)] 81))) := Lib.hid ((Upd.refl (fun _ => False) w).alloc _)
  have HBX : Hid ((w.alloc (.cells #[.pointer (some ⟨b, 0, none⟩)] 81)).heap[w.heap.size]? = some (.cells #[.pointer (some ⟨b, 0, none⟩)] 81 (0, 0))) := Lib.hid (alloc0 w (.cells #[.pointer (some ⟨b, 0, none⟩)] 81))
  have hBl := fun j hj => ord_lt hO j hj
  have HC := Lib.hid (idxR80_x (.pointer (some ⟨w.heap.size, 0, none⟩)) (fun r => !decP ops r) (fun k W => ∃ N B', OrdR 144 114 ops (fun _ => False) B' base W b N ∧ Upd B (w.alloc (.cells #[.pointer (some ⟨b, 0, none⟩)] 81)) W ∧ (∀ j, B' j → B j ∨ (w.alloc (.cells #[.pointer (some ⟨b, 0, none⟩)] 81)).heap.size ≤ j) ∧ N.length ≤ sizes (flR (L.take k))) (fun k W W' ⟨N, B', h1, h2, h3, h4⟩ hE => ⟨N, B', h1.ext hE, h2.ext hE, h3, h4⟩) L (.slice a L.length cap) T (w.alloc (.cells #[.pointer (some ⟨b, 0, none⟩)] 81)) ⟨[], B, hO.ext HZ.out, Upd.refl _ _, fun j h => .inl h, Nat.zero_le _⟩ hl
    (fun k W ⟨N, B', h1, h2, h3, h4⟩ => (hR.ext HZ.out).kept h2 (fun j hj hx => by have h5 := hT j hj; have h6 := (hBl j hx).1; omega)) (fun k hk xa xc ya yc W ⟨N, B', h1, h2, h3, h4⟩ hx hy => by
      have hb1 : ¬ B w.heap.size := fun h => by have := (hBl _ h).2.1; omega
      refine clo80_x (rg L k).1 (rg L k).2 xa ya xc yc b w.heap.size (decP ops (rg L k)) _ W (h2.heap HBX.out hb1) (fun W2 hW2 => ?_)
      have hs1 := flR_sizes L k hk
      have hs2 := flR_sizes_le L (k + 1)
      have hWs : (w.alloc (.cells #[.pointer (some ⟨b, 0, none⟩)] 81)).heap.size ≤ W.heap.size := h2.size
      have hws : w.heap.size ≤ (w.alloc (.cells #[.pointer (some ⟨b, 0, none⟩)] 81)).heap.size := HZ.out.size
      have hW2s := hW2.size
      refine (ocomp_x ops base b N (rg L k).1 (rg L k).2 _ _ B' T W2 (h1.ext hW2) ⟨xa, xc, rfl, hx.ext hW2⟩ ⟨ya, yc, rfl, hy.ext hW2⟩ hT (by omega) (by omega) (hn _ (mem_flR.2 ⟨_, rg_mem hk, .inl rfl⟩)) (hn _ (mem_flR.2 ⟨_, rg_mem hk, .inr rfl⟩))
        (fun W3 h3' => hpow W3 ((((HZ.out.mono (fun _ _ x => x.elim)).trans (h2.mono (fun j _ hj => (hBl j hj).1))).ext hW2).trans h3'))).mono ?_
      rintro e W4 ⟨N', B'', k1, k2, k3, k4, k5⟩
      refine ⟨k1, N', B'', k2, (h2.ext hW2).trans' k3 (fun j hj h => (h3 j h).elim id (fun e => absurd hj (by omega))), fun j h => ?_, by omega⟩
      rcases k4 j h with h5 | h5
      · exact h3 j h5
      · exact .inr (by omega)))
  have hv : (if L.findIdx (fun r => !decP ops r) < L.length then (L.findIdx (fun r => !decP ops r) : Int) else -1) = firstI ops L := rfl
  rw [hv] at HC
  generalize firstI ops L = X at *
  clear hO hR hT hb hsz hn hpow hv
  go_enter Tryz.func47, Tryz.ntmps47
  go_wp2_with fail
  refine HC.out.mono ?_
  rintro e w4 ⟨rfl, k, hk, N, B', h1, h2, h3, h4⟩
  have H4 := Lib.hid h2
  clear h1 h2 h3 h4
  go_wp2_with fail
  go_ret
  exact ⟨rfl, (HZ.out.mono (fun _ _ x => x.elim)).trans H4.out⟩

end Go.Proofs.YtiimccogojkldaaGreatDoor

/- sides. -/
namespace Go.Proofs.YtiimccogojkldaaGreatDoor
open Go.RowKit Go.Hw Go
set_option linter.unusedVariables false
set_option linter.unusedSimpArgs false

open Tm
set_option maxRecDepth 100000 in
set_option maxHeartbeats 2000000 in
theorem sides_x (L : List Rl) (v : Value) (S : Nat → Prop) (w : World) (hR : RuR S w L v) (hS : ∀ k, S k → k < w.heap.size) (hl : L.length ≤ 100000) :
    Calls Tryz.prog 46 #[v] w fun e w' => ∃ r, e = .returned r ∧ TlR (fun k => k < w'.heap.size) w' (flR L) r ∧ Ext w w' := by
  obtain ⟨a, cap, rfl⟩ := hR.shape
  have HR := Lib.hid hR
  clear hR
  have HO0 : Hid (w.ownsRow w.heap.size 25 3 (.slice none 0 0) (2 * 0) (tCells (flR (L.take 0)) [])) := Lib.hid ⟨rfl, .inl ⟨rfl, rfl⟩⟩
  have HK0 : Hid (∀ i, i < 2 * 0 → TlR S w (tg (flR (L.take 0)) i).kids (ug [] i)) := Lib.hid (fun i h => absurd h (by omega))
  have HE0 : Hid (Ext w w) := Lib.hid (Upd.refl _ _)
  go_enter Tryz.func46, Tryz.ntmps46
  go_wp2_with fail
  go_loopg [3, 8] L.length (fun gk lv iv wr => ∃ (k : Nat) (us : List Value), iv = .int .i64 (k : Int) ∧ gk = L.length - k ∧ k ≤ L.length ∧ us.length = 2 * k ∧ Hid (wr.ownsRow w.heap.size 25 3 lv (2 * k) (tCells (flR (L.take k)) us)) ∧ Hid (∀ i, i < 2 * k → TlR S wr (tg (flR (L.take k)) i).kids (ug us i)) ∧ Hid (Ext w wr))
  case atStart => exact ⟨0, [], rfl, rfl, Nat.zero_le _, rfl, HO0, HK0, HE0⟩
  case round =>
    clear HO0 HK0 HE0
    obtain ⟨k, us, rfl, rfl, hk, hus, HOW, HKD, HE⟩ := hrel
    obtain ⟨la, lc, hlv⟩ := own_shape HOW.out
    subst hlv
    by_cases hlt : k < L.length
    · obtain ⟨g, off, hga, _, hat⟩ := (HR.out.ext HE.out).at_ (by omega)
      subst hga
      obtain ⟨xa, xc, ya, yc, q0, q1, q2, q3, q4, q5, hx, hy⟩ := hat k hlt
      have z0 : (0 : Int) ≤ (k : Int) := by omega
      have z1 : (k : Int) < (L.length : Int) := by omega
      have z2 : decide ((k : Int) < (L.length : Int)) = true := decide_eq_true z1
      have z2' : decide (k < L.length) = true := decide_eq_true hlt
      have HXY := Lib.hid (And.intro hx hy)
      have HSN := Lib.hid (rg_snoc L k hlt)
      obtain ⟨⟨x, y⟩, hxy⟩ : ∃ r, rg L k = r := ⟨_, rfl⟩
      rw [hxy] at q0 q1 q2 q3 q4 q5 HXY HSN
      dsimp only at q0 q1 q2 q3 q4 q5 HXY
      have hb := alloc0 wr (.cells #[.string x.name, .string x.sort, .slice xa x.kids.length xc, .string y.name, .string y.sort, .slice ya y.kids.length yc] 38)
      have r0 := cellRow hb 0 (.string x.name) rfl
      have r1 := cellRow hb 1 (.string x.sort) rfl
      have r2 := cellRow hb 2 (.slice xa x.kids.length xc) rfl
      have r3 := cellRow hb 3 (.string y.name) rfl
      have r4 := cellRow hb 4 (.string y.sort) rfl
      have r5 := cellRow hb 5 (.slice ya y.kids.length yc) rfl
      have HA : Hid (Ext wr (wr.alloc (.cells #[.string x.name, .string x.sort, .slice xa x.kids.length xc, .string y.name, .string y.sort, .slice ya y.kids.length yc] 38))) := Lib.hid ((Upd.refl (fun _ => False) wr).alloc _)
      have hs := HE.out.size
      have hfl : (flR (L.take k)).length = 2 * k := by rw [flR_len, List.length_take]; omega
      have HFL := Lib.hid hfl
      clear hat hx hy hxy hb hfl
      obtain ⟨iT, hi, hz0, hz1, hz2⟩ := info_parts infoT
      go_wp2_with (at_builtin; refine wpList_append_at _ rfl (.tmp 12) (.tmp 17) 23 rfl w.heap.size 25 iT (.agg #[.string ⟨#[]⟩, .string ⟨#[]⟩, .slice none 0 0]) 3 56 Tryz.underlying23 hi hz0 hz1 hz2 rfl (by decide) _ _ _ rfl ((own_kept HOW.out HA.out (fun _ _ h => h)).alloc _) _ 2 2 [.string x.name, .string x.sort, .slice xa x.kids.length xc, .string y.name, .string y.sort, .slice ya y.kids.length yc] rfl rfl ?d1 ?d2 ?d3 ?d4 ?d5 ?_)
      case d1 =>
        intro l u hl
        have hl6 : l < 6 := (List.getElem?_eq_some_iff.1 hl).1
        have : l = 0 ∨ l = 1 ∨ l = 2 ∨ l = 3 ∨ l = 4 ∨ l = 5 := by omega
        rcases this with rfl | rfl | rfl | rfl | rfl | rfl <;> (simp at hl; subst hl; simp only [Addr.add]; exact cellRow (alloc_at _ _ (by simp)) _ _ rfl)
      case d2 => intro u hu; simp at hu; rcases hu with h | h | h | h | h | h <;> (subst h; rfl)
      case d3 => unfold maxLen; omega
      case d4 => omega
      case d5 => simp; omega
      intro v8 w8 hG
      obtain ⟨a8, c8, rfl⟩ := own_shape hG.own
      have hlt := fun j hj => HOW.out.lt j hj
      have HU8 : Hid (Upd (fun j => (Value.slice la (2 * k) lc).ownBlock = some j) wr w8) := Lib.hid ((((Upd.refl _ wr).ext HA.out).alloc _).trans' hG.upd (fun _ _ e => e))
      have HE8 : Hid (Ext w w8) := Lib.hid (HE.out.trans' HU8.out (fun j hj e => by have := (hlt j e).1; omega))
      have hlen2 : (us ++ [Value.slice xa x.kids.length xc, Value.slice ya y.kids.length yc]).length = 2 * (k + 1) := by simp [hus]; omega
      have htk : flR (L.take (k + 1)) = flR (L.take k) ++ [x, y] := by rw [HSN.out, flR_append]; rfl
      have hO8 : w8.ownsRow w.heap.size 25 3 (.slice a8 (2 * k + 2) c8) (2 * (k + 1)) (tCells (flR (L.take (k + 1))) (us ++ [Value.slice xa x.kids.length xc, Value.slice ya y.kids.length yc])) := by
        rw [htk, show flR (L.take k) ++ [x, y] = (flR (L.take k) ++ [x]) ++ [y] by simp, show us ++ [Value.slice xa x.kids.length xc, Value.slice ya y.kids.length yc] = (us ++ [Value.slice xa x.kids.length xc]) ++ [Value.slice ya y.kids.length yc] by simp,
          tCells_snoc _ _ _ _ (by simp [hus, HFL.out]), tCells_snoc _ _ _ _ (by rw [hus, HFL.out]), List.append_assoc]
        exact hG.own
      have hK8 : ∀ i, i < 2 * (k + 1) → TlR S w8 (tg (flR (L.take (k + 1))) i).kids (ug (us ++ [Value.slice xa x.kids.length xc, Value.slice ya y.kids.length yc]) i) := fun i hi => by
        have hkp : ∀ j, S j → ¬ (Value.slice la (2 * k) lc).ownBlock = some j := fun j hj e => by have h1 := hS j hj; have h2 := (hlt j e).1; omega
        rw [htk]
        by_cases h1 : i < 2 * k
        · have e1 : tg (flR (L.take k) ++ [x, y]) i = tg (flR (L.take k)) i := by unfold tg; rw [List.getD_eq_getElem?_getD, List.getD_eq_getElem?_getD, List.getElem?_append_left (by rw [HFL.out]; exact h1)]
          have e2 : ug (us ++ [Value.slice xa x.kids.length xc, Value.slice ya y.kids.length yc]) i = ug us i := by unfold ug; rw [List.getD_eq_getElem?_getD, List.getD_eq_getElem?_getD, List.getElem?_append_left (by rw [hus]; exact h1)]
          rw [e1, e2]
          exact (HKD.out i h1).kept HU8.out hkp
        · have h2 : i = 2 * k ∨ i = 2 * k + 1 := by omega
          rcases h2 with rfl | rfl
          · have e1 : tg (flR (L.take k) ++ [x, y]) (2 * k) = x := by unfold tg; rw [List.getD_eq_getElem?_getD, List.getElem?_append_right (by rw [HFL.out]; omega), HFL.out, Nat.sub_self]; rfl
            have e2 : ug (us ++ [Value.slice xa x.kids.length xc, Value.slice ya y.kids.length yc]) (2 * k) = .slice xa x.kids.length xc := by unfold ug; rw [List.getD_eq_getElem?_getD, List.getElem?_append_right (by rw [hus]; omega), hus, Nat.sub_self]; rfl
            rw [e1, e2]
            exact HXY.out.1.kept HU8.out hkp
          · have e1 : tg (flR (L.take k) ++ [x, y]) (2 * k + 1) = y := by unfold tg; rw [List.getD_eq_getElem?_getD, List.getElem?_append_right (by rw [HFL.out]; omega), HFL.out, show 2 * k + 1 - 2 * k = 1 by omega]; rfl
            have e2 : ug (us ++ [Value.slice xa x.kids.length xc, Value.slice ya y.kids.length yc]) (2 * k + 1) = .slice ya y.kids.length yc := by unfold ug; rw [List.getD_eq_getElem?_getD, List.getElem?_append_right (by rw [hus]; omega), hus, show 2 * k + 1 - 2 * k = 1 by omega]; rfl
            rw [e1, e2]
            exact HXY.out.2.kept HU8.out hkp
      have HO8 := Lib.hid hO8
      have HK8 := Lib.hid hK8
      have HL8 := Lib.hid hlen2
      clear hO8 hK8 hlen2 htk hlt hG hi hz0 hz1 hz2 r0 r1 r2 r3 r4 r5 q0 q1 q2 q3 q4 q5
      go_wp2_with fail
      go_roundg (L.length - (k + 1))
      case measure => omega
      case rel => exact ⟨k + 1, _, by go_num, rfl, by omega, HL8.out, HO8, HK8, HE8⟩
    · obtain rfl : k = L.length := by omega
      have z2 : decide ((L.length : Int) < (L.length : Int)) = false := decide_eq_false (by omega)
      have HFIN : Hid (TlR (fun k => k < wr.heap.size) wr (flR L) (.slice la (2 * L.length) lc)) := Lib.hid (by
        have h1 := HOW.out
        have h2 := HKD.out
        rw [List.take_length] at h1 h2
        have h3 := flR_len L
        refine .mk _ us _ (by rw [hus, h3]) ?_ (fun i hi => (h2 i (by omega)).weaken (fun j hj => Nat.lt_of_lt_of_le (hS j hj) HE.out.size))
        rw [h3]
        exact (SlR.of_own h1).weaken (fun j hj => own_lt h1 j hj))
      go_wp2_with fail
      go_ret
      exact ⟨_, rfl, HFIN.out, HE.out⟩

end Go.Proofs.YtiimccogojkldaaGreatDoor

/- Clone and Delete. -/
namespace Go.Proofs.YtiimccogojkldaaGreatDoor
open Go.RowKit Go.Hw Go
set_option linter.unusedVariables false
set_option linter.unusedSimpArgs false

open Tm
theorem ext_below {w w' : World} (h : Below w.heap.size w w') : Ext w w' := ⟨h.os, h.tape, h.output, h.size, fun k hk _ => h.block k hk⟩
theorem clone_x (l : List By) (v : Value) (S : Nat → Prop) (w : World) (hR : StR S w v l) (hl : l.length ≤ 1000000) :
    Calls Tryz.prog 83 #[v] w fun e w' => ∃ r, e = .returned r ∧ w'.ownsRow w.heap.size 9 1 r l.length (l.map Value.string) ∧ Ext w w' := by
  obtain ⟨a, cap, rfl⟩ := SlR.shape hR
  by_cases h0 : 0 < l.length
  · obtain ⟨g, off, hga, _, hat⟩ := SlR.one_at (d := nul) hR h0
    subst hga
    refine (Tryz.slices_Clone_string g off l.length cap l w (Nat.le_refl _) (by omega) (fun j hj => hat j hj)).mono ?_
    rintro e w' ⟨v', rfl, h1, _, h2⟩
    rw [List.take_length] at h1
    exact ⟨v', rfl, h1, ext_below h2⟩
  · have hl0 : l = [] := List.eq_nil_of_length_eq_zero (by omega)
    subst hl0
    cases a with
    | none =>
      refine (Tryz.slices_Clone_string_nil 0 cap w).mono ?_
      rintro e w' ⟨rfl, rfl⟩
      exact ⟨_, rfl, ⟨rfl, .inl ⟨rfl, rfl⟩⟩, Upd.refl _ _⟩
    | some a =>
      refine (Tryz.slices_Clone_string_zero a cap w).mono ?_
      rintro e w' ⟨v', rfl, h1, _, h2⟩
      exact ⟨v', rfl, h1, ext_below h2⟩
theorem put_upd (w : World) (q blk off : Nat) (d : Array By) : Upd (fun k => k = blk) w (Sort.putRow Value.string (Sort.ahead w q) blk off d) := by
  refine ⟨rfl, rfl, rfl, ?_, fun k hk hf => ?_⟩
  · rw [Sort.size_putRow]; exact Nat.le_refl _
  · show ((Sort.ahead w q).heap.modify blk _)[k]? = _
    rw [Array.getElem?_modify, if_neg (fun e => hf e.symm)]
    rfl
theorem del_x (l : List By) (r : Value) (i : Nat) (base : Nat) (w : World) (hO : w.ownsRow base 9 1 r l.length (l.map Value.string)) (hi : i < l.length) (hl : l.length ≤ 1000000) :
    Calls Tryz.prog 84 #[r, natV i, .int .i64 ((i : Int) + 1)] w fun e w' => ∃ r', e = .returned r' ∧ StR (fun k => r.ownBlock = some k) w' r' (l.eraseIdx i) ∧ Upd (fun k => r.ownBlock = some k) w w' := by
  obtain ⟨g, cap, rfl, hb, hgl, hnc, hcell, hfz⟩ := ownAt hO (by omega)
  have hcm : cap ≤ 9223372036854775807 := by
    rcases hO.2 with ⟨h, _⟩ | ⟨g', cap', cur, h, _, _, _, hm, _⟩
    · cases h
    · injection h with h1 h2 h3
      subst h3
      unfold maxLen at hm
      omega
  obtain ⟨i0, hi0, hz0, hz1, hz2⟩ := info_parts infoS
  have hH : Sort.Holds Value.string w g 0 l.toArray := fun j hj => by
    have hj' : j < l.length := by simpa using hj
    refine ⟨?_, hfz _⟩
    rw [Nat.zero_add, hcell j (by omega), List.getElem?_map, List.getElem?_eq_getElem hj']
    simp [hj']
  have hel : l.eraseIdx i = l.take i ++ l.drop (i + 1) := List.eraseIdx_eq_take_drop_succ l i
  have hlen : (l.eraseIdx i).length = l.length - 1 := by rw [List.length_eraseIdx_of_lt hi]
  have h := Tryz.slices_Delete Value.string (fun _ => rfl) (⟨#[]⟩ : By) (fun w => Tryz.zeroValue9 w) i0 hi0 hz1 g 0 cap i (i + 1) l.toArray w hH (by simpa using hnc) hcm (by omega) (by simp; omega)
  simp only [List.size_toArray] at h
  rw [show (((i + 1 : Nat)) : Int) = (i : Int) + 1 by omega] at h
  refine h.mono ?_
  rintro e w' ⟨rfl, q, rfl⟩
  refine ⟨_, rfl, ?_, (put_upd w q g 0 _).mono (fun k _ e => by rw [e]; rfl)⟩
  rw [show i + 1 - i = 1 by omega]
  have hsz : (l.take i ++ l.drop (i + 1) ++ List.replicate 1 (⟨#[]⟩ : By)).toArray.size = l.toArray.size := by simp; omega
  unfold StR
  rw [hlen]
  refine SlR.mk' (by simp [hlen]) rfl (by omega) (fun _ => rfl) (fun j hj => ?_)
  have hj1 : j < l.length - 1 := by omega
  rw [Sort.cell?_putRow Value.string (Sort.ahead w q) g 0 l.toArray _ (fun j hj => hH j hj) hsz j (by rw [hsz]; simp; omega), List.getElem?_map, hel]
  have hja : j < (l.take i ++ l.drop (i + 1)).length := by rw [← hel, hlen]; exact hj1
  rw [List.getElem?_eq_getElem hja]
  simp only [Option.map_some, Option.some.injEq, Value.string.injEq]
  rw [getElem!_pos _ j (by rw [hsz]; simp; omega), List.getElem_toArray, List.getElem_append_left hja]

end Go.Proofs.YtiimccogojkldaaGreatDoor

/- search. -/
namespace Go.Proofs.YtiimccogojkldaaGreatDoor
open Go.RowKit Go.Hw Go
set_option linter.unusedVariables false
set_option linter.unusedSimpArgs false

open Tm
theorem fs_none {β : Type} (f : Nat → Option β) : ∀ (N : Nat), (∀ j, j < N → f j = none) → (List.range N).findSome? f = none
  | 0, _ => rfl
  | N + 1, h => by
    rw [List.range_succ, List.findSome?_append, fs_none f N (fun j hj => h j (by omega))]
    simp [h N (by omega)]
theorem fs_hit {β : Type} (f : Nat → Option β) (o : β) (k : Nat) (h : ∀ j, j < k → f j = none) (h2 : f k = some o) : ∀ (N : Nat), k < N → (List.range N).findSome? f = some o
  | 0, hk => absurd hk (Nat.not_lt_zero _)
  | N + 1, hk => by
    rw [List.range_succ, List.findSome?_append]
    by_cases e : k = N
    · subst e
      rw [fs_none f k h]
      simp [h2]
    · rw [fs_hit f o k h h2 N (by omega)]
      rfl
theorem step_perm (b rest : List By) (k : Nat) (hk : k < rest.length) : ((b ++ [rest.getD k nul]) ++ rest.eraseIdx k).Perm (b ++ rest) := by
  rw [List.append_assoc]
  refine List.Perm.append_left b ?_
  have : rest.getD k nul = rest[k] := by rw [List.getD_eq_getElem?_getD, List.getElem?_eq_getElem hk]; rfl
  rw [this]
  exact erase_perm rest k hk
theorem dif_perm {a b : List By} (h : a.Perm b) (hd : Dif b) : Dif a := (h.pairwise_iff (fun {x y} (e : x ≠ y) => e.symm)).2 hd
theorem okn_mem {a b : List By} {x : Tm} (h : ∀ s, s ∈ a → s ∈ b) (ho : OkN a x) : OkN b x := ⟨ho.1, ho.2.1, fun hs => h _ (ho.2.2.1 hs), ho.2.2.2⟩
set_option maxRecDepth 100000 in
set_option maxHeartbeats 2000000 in
theorem search_x (L : List Rl) (lv : Value) (w0 : World) (hR : RuR (fun k => k < w0.heap.size) w0 L lv) (hl : L.length ≤ 1000000) (hsz : sizes (flR L) ≤ 100000) (hpow : Lib.TabIs Tryz.prog w0 "internal/strconv.uint64pow10" .u64 Lib.pow10Tab) : ∀ (n : Nat) (b rest : List By) (bv rv : Value) (w : World), Ext w0 w → rest.length = n → b.length + n ≤ 1000 → Dif (b ++ rest) → (∀ t ∈ flR L, ∀ x ∈ sbts t, OkN (b ++ rest) x) → StR (fun k => k < w.heap.size) w bv b → StR (fun k => k < w.heap.size) w rv rest →
    Calls Tryz.prog 52 #[bv, rv, lv] w fun e w' => ∃ r, e = .returned (.tuple #[r, .bool (searchP L n b rest).isSome]) ∧ (∃ a len cap, r = .slice a len cap) ∧ (∀ out, searchP L n b rest = some out → StR (fun _ => True) w' r out) ∧ Ext w w'
  | 0, b, rest, bv, rv, w => fun hE hn hb hd hok hbv hrv => by
    have hr0 : rest = [] := List.eq_nil_of_length_eq_zero hn
    subst hr0
    obtain ⟨ba, bc, rfl⟩ := SlR.shape hbv
    obtain ⟨ra, rc, rfl⟩ := SlR.shape hrv
    obtain ⟨la, lc, rfl⟩ := hR.shape
    rw [List.append_nil] at hd hok
    have HNO := Lib.hid (newO_x b _ _ w.heap.size w hbv (fun k h => h) hd (Nat.le_refl _) (by omega))
    have HFI := Lib.hid (fun W bb B (hW : Ext w W) (ho : OrdR 144 114 b (fun _ => False) B w.heap.size W bb []) => first_x b w.heap.size bb L _ B (fun k => k < w0.heap.size) W ho ((hR.ext hE).ext hW) (fun k hk => Nat.lt_of_lt_of_le hk hE.size) hW.size hl hsz hok
      (fun W2 h2 => pow_upd hpow (((hE.mono (G := fun j => w.heap.size ≤ j) (fun _ _ x => x.elim)).ext hW).trans h2) (fun k hk h => by have := hE.size; omega)))
    have HV : Hid ((searchP L 0 b []).isSome = decide (firstI b L < 0)) := Lib.hid (by
      rw [firstI_neg]
      unfold searchP
      cases allDec b L <;> simp)
    have HV2 : Hid (∀ out, searchP L 0 b [] = some out → out = b) := Lib.hid (fun out h => by
      unfold searchP at h
      split at h
      · injection h with h; exact h.symm
      · cases h)
    have HBV := Lib.hid hbv
    rw [HV.out]
    obtain ⟨X, hX⟩ : ∃ X, firstI b L = X := ⟨_, rfl⟩
    rw [hX] at HFI ⊢
    obtain ⟨SP, hSP⟩ : ∃ o, searchP L 0 b [] = o := ⟨_, rfl⟩
    rw [hSP] at HV2 ⊢
    clear hX hSP HV hE hn hb hd hok hbv hrv hR hl hsz hpow
    go_enter Tryz.func52, Tryz.ntmps52
    go_wp2_with fail
    refine HNO.out.mono ?_
    rintro e w4 ⟨bb, B, rfl, ho4, hw4, hb4⟩
    have HF4 := Lib.hid (HFI.out w4 bb B hw4 ho4)
    have HE4 := Lib.hid (And.intro hw4 hb4)
    clear ho4 hw4 hb4 HNO HFI
    go_wp2_with fail
    refine HF4.out.mono ?_
    rintro e w5 ⟨rfl, hu5⟩
    have HE5 : Hid (Ext w w5) := Lib.hid (HE4.out.1.trans' hu5 (fun j hj h => by have := HE4.out.2 j h; omega))
    clear hu5
    go_wp2_with fail
    go_ret2
    exact ⟨_, rfl, ⟨_, _, _, rfl⟩, fun out h => by rw [HV2.out out h]; exact (SlR.kept HBV.out HE5.out (fun _ _ h => h)).weaken (fun _ _ => trivial), HE5.out⟩
  | n + 1, b, rest, bv, rv, w => fun hE hn hb hd hok hbv hrv => by
    obtain ⟨ba, bc, rfl⟩ := SlR.shape hbv
    obtain ⟨ra, rc, rfl⟩ := SlR.shape hrv
    have HIH := Lib.hid (search_x L lv w0 hR hl hsz hpow n)
    obtain ⟨la, lc, rfl⟩ := hR.shape
    have HE0 := Lib.hid hE
    have HD := Lib.hid hd
    have HOK := Lib.hid hok
    have HBV := Lib.hid hbv
    have HRV := Lib.hid hrv
    have HSP : Hid (searchP L (n + 1) b rest = (List.range (n + 1)).findSome? fun i => searchP L n (b ++ [rest.getD i nul]) (rest.eraseIdx i)) := Lib.hid (by rw [searchP])
    obtain ⟨SP, hSP⟩ : ∃ o, searchP L (n + 1) b rest = o := ⟨_, rfl⟩
    rw [hSP]
    have HSQ := Lib.hid hSP
    have hr1 : rest.length ≤ 1000 := by omega
    have t0 : ((rest.length : Int) == 0) = false := beq_eq_false_iff_ne.2 (by omega)
    have t1 : ¬ (rest.length : Int) = 0 := by omega
    have t2 : ¬ rest = [] := fun e => by rw [e] at hn; simp at hn
    have HN := Lib.hid hn
    clear hSP hE hd hok hbv hrv hR hl hsz hpow hn
    go_enter Tryz.func52, Tryz.ntmps52
    go_wp2_with fail
    clear t0 t1 t2
    go_loopg [24] rest.length (fun gk iv wr => ∃ k : Nat, iv = .int .i64 (k : Int) ∧ gk = rest.length - k ∧ k ≤ rest.length ∧ Hid (Ext w wr) ∧ Hid (∀ j, j < k → searchP L n (b ++ [rest.getD j nul]) (rest.eraseIdx j) = none))
    case atStart => exact ⟨0, rfl, rfl, Nat.zero_le _, Lib.hid (Upd.refl _ _), Lib.hid (fun j h => absurd h (Nat.not_lt_zero _))⟩
    case round =>
      obtain ⟨k, rfl, rfl, hk, HE, HM⟩ := hrel
      by_cases hlt : k < rest.length
      · obtain ⟨g, off, hga, _, hat⟩ := SlR.one_at (d := nul) (SlR.kept HRV.out HE.out (fun _ _ h => h)) (by omega)
        subst hga
        have q0 := hat k hlt
        have z0 : (0 : Int) ≤ (k : Int) := by omega
        have z1 : (k : Int) < (rest.length : Int) := by omega
        have z2 : decide ((k : Int) < (rest.length : Int)) = true := decide_eq_true z1
        have z2' : decide (k < rest.length) = true := decide_eq_true hlt
        have HPM := Lib.hid (step_perm b rest k hlt)
        have HLE : Hid ((rest.eraseIdx k).length = n) := Lib.hid (by rw [List.length_eraseIdx_of_lt hlt, HN.out]; rfl)
        have HNX : Hid (searchP L n (b ++ [rest.getD k nul]) (rest.eraseIdx k) = none → ∀ j, j < k + 1 → searchP L n (b ++ [rest.getD j nul]) (rest.eraseIdx j) = none) := Lib.hid (fun h j hj => by
          rcases Nat.lt_succ_iff_lt_or_eq.1 hj with h5 | h5
          · exact HM.out j h5
          · rw [h5]; exact h)
        have HHT : Hid (∀ o, searchP L n (b ++ [rest.getD k nul]) (rest.eraseIdx k) = some o → SP = some o) := Lib.hid (fun o h => by
          rw [← HSQ.out, HSP.out]
          exact fs_hit _ o k HM.out h (n + 1) (by rw [← HN.out]; exact hlt))
        obtain ⟨x, hx⟩ : ∃ x, rest.getD k nul = x := ⟨_, rfl⟩
        rw [hx] at q0 HPM HNX HHT
        have HC1 := Lib.hid (clone_x b _ (fun _ => True) wr ((SlR.kept HBV.out HE.out (fun _ _ h => h)).weaken (fun _ _ => trivial)) (by omega))
        clear hat hx
        go_wp2_with fail
        refine HC1.out.mono ?_
        rintro e w4 ⟨r4, rfl, hO4, hw4⟩
        have HO4 := Lib.hid hO4
        have HW4 := Lib.hid hw4
        obtain ⟨a4, c4, rfl⟩ := own_shape hO4
        have hs4 := hw4.size
        clear hO4 hw4 HC1
        obtain ⟨iS, hi, hz0, hz1, hz2⟩ := info_parts infoS
        go_wp2_with (at_builtin; refine wpList_append_at _ rfl (.tmp 30) (.tmp 32) 22 rfl wr.heap.size 9 iS (.string ⟨#[]⟩) 1 16 Tryz.underlying22 hi hz0 hz1 hz2 rfl (by decide) _ _ _ rfl (HO4.out.alloc _) _ 1 1 [.string x] rfl rfl ?c1 ?c2 ?c3 ?c4 ?c5 ?_)
        case c1 =>
          intro l u hl
          match l, hl with
          | 0, hl => simp only [List.getElem?_cons_zero, Option.some.injEq] at hl; subst hl; simp only [Addr.add]; exact cellRow (alloc_at _ _ (by simp)) 0 _ rfl
        case c2 => intro u hu; simp at hu; subst hu; rfl
        case c3 => unfold maxLen; omega
        case c4 => omega
        case c5 => simp; omega
        intro v6 w6 hG
        obtain ⟨a6, c6, rfl⟩ := own_shape hG.own
        have HE6 : Hid (Ext w w6) := Lib.hid (((HE.out.trans HW4.out).alloc _).trans' hG.upd (fun j hj e => by have h1 := (HO4.out.lt j e).1; have h2 := HE.out.size; omega))
        have HO6 : Hid (w6.ownsRow wr.heap.size 9 1 (.slice a6 (b.length + 1) c6) (b ++ [x]).length ((b ++ [x]).map Value.string)) := Lib.hid (by
          have h := hG.own
          rw [show (b ++ [x]).length = b.length + 1 by simp, List.map_append]
          exact h)
        clear hG hi hz0 hz1 hz2
        have HC2 := Lib.hid (clone_x rest _ (fun _ => True) w6 ((SlR.kept HRV.out HE6.out (fun _ _ h => h)).weaken (fun _ _ => trivial)) (by omega))
        go_wp2_with fail
        refine HC2.out.mono ?_
        rintro e w7 ⟨r7, rfl, hO7, hw7⟩
        have HO7 := Lib.hid hO7
        have HW7 := Lib.hid hw7
        obtain ⟨a7, c7, rfl⟩ := own_shape hO7
        have HDL := Lib.hid (del_x rest _ k w6.heap.size w7 hO7 hlt (by omega))
        clear hO7 hw7 HC2
        go_wp2_with fail
        refine HDL.out.mono ?_
        rintro e w8 ⟨r8, rfl, hr8, hu8⟩
        have HE8 : Hid (Ext w6 w8) := Lib.hid (HW7.out.trans' hu8 (fun j hj e => by have h1 := (HO7.out.lt j e).1; omega))
        have HR8 : Hid (StR (fun j => j < w8.heap.size) w8 r8 (rest.eraseIdx k)) := Lib.hid (SlR.weaken hr8 (fun j hj => Nat.lt_of_lt_of_le (own_lt HO7.out j hj) hu8.size))
        have HB8 : Hid (StR (fun j => j < w8.heap.size) w8 (.slice a6 (b.length + 1) c6) (b ++ [x])) := Lib.hid (SlR.weaken (SlR.of_own (own_kept HO6.out HE8.out (fun _ _ h => h))) (fun j hj => Nat.lt_of_lt_of_le (own_lt HO6.out j hj) HE8.out.size))
        have HRC := Lib.hid (HIH.out (b ++ [x]) (rest.eraseIdx k) _ _ w8 ((HE0.out.trans HE6.out).trans HE8.out) HLE.out (by rw [List.length_append, List.length_singleton]; have := HN.out; omega) (dif_perm HPM.out HD.out) (fun t ht y hy => okn_mem (fun s hs => HPM.out.mem_iff.2 hs) (HOK.out t ht y hy)) HB8.out HR8.out)
        obtain ⟨a8, c8, hv8⟩ := SlR.shape hr8
        subst hv8
        clear hr8 hu8 HDL HO7 HW7 HO4 HW4
        obtain ⟨SO, hSO⟩ : ∃ o, searchP L n (b ++ [x]) (rest.eraseIdx k) = o := ⟨_, rfl⟩
        rw [hSO] at HRC HNX HHT
        clear hSO
        go_wp2_with fail
        refine HRC.out.mono ?_
        rintro e w9 ⟨r9, rfl, ⟨a9, n9, c9, rfl⟩, hs9, hw9⟩
        have HE9 : Hid (Ext w w9) := Lib.hid ((HE6.out.trans HE8.out).trans hw9)
        have HS9 := Lib.hid hs9
        clear hs9 hw9 HRC
        cases SO with
        | none =>
          have HN2 := Lib.hid (HNX.out rfl)
          clear HNX HHT q0
          simp only [Option.isSome_none]
          go_wp2_with fail
          go_roundg (rest.length - (k + 1))
          case measure => omega
          case rel => exact ⟨k + 1, by go_num, rfl, by omega, HE9, HN2⟩
        | some out =>
          have HV := Lib.hid (HHT.out out rfl)
          clear HNX HHT q0
          simp only [Option.isSome_some]
          go_wp2_with fail
          go_ret2
          rw [HV.out]
          exact ⟨_, rfl, ⟨_, _, _, rfl⟩, fun o h => by injection h with h; rw [← h]; exact HS9.out out rfl, HE9.out⟩
      · obtain rfl : k = rest.length := by omega
        have z2 : decide ((rest.length : Int) < (rest.length : Int)) = false := decide_eq_false (by omega)
        have HV : Hid (SP = none) := Lib.hid (by
          rw [← HSQ.out, HSP.out]
          exact fs_none _ _ (fun j hj => HM.out j (by rw [HN.out]; exact hj)))
        go_wp2_with fail
        go_ret2
        rw [HV.out]
        exact ⟨_, rfl, ⟨_, _, _, rfl⟩, fun o h => (by cases h), HE.out⟩

end Go.Proofs.YtiimccogojkldaaGreatDoor

/- Find of the program. -/
namespace Go.Proofs.YtiimccogojkldaaGreatDoor
open Go.RowKit Go.Hw Go
set_option linter.unusedVariables false
set_option linter.unusedSimpArgs false

open Tm
def findE : Option (List By) → List By × Int
  | some out => (out, 0)
  | none => ([], 12)
def findF (L : List Rl) : List By × Int :=
  if (flR L).all (wf nmB) = false then ([], 1) else if 100 < L.length then ([], 4) else
    if 7 < (sFoldO [] ((flR L).flatMap opN)).length then ([], 6) else findE (searchP L (sFoldO [] ((flR L).flatMap opN)).length [] (sFoldO [] ((flR L).flatMap opN)))
theorem mem_sizes {t : Tm} : ∀ {L : List Tm}, t ∈ L → t.size ≤ sizes L
  | a :: L, h => by
    rcases List.mem_cons.1 h with rfl | h
    · simp only [sizes]; omega
    · have := mem_sizes h; simp only [sizes]; omega
theorem ris_dif {l : List By} (h : Ris l) : Dif l := List.Pairwise.imp (fun {a b} (h : blt a b = true) (e : a = b) => by rw [e, blt_irrefl] at h; cases h) h
theorem rule_ok {L : List Rl} (h : (flR L).all (wf nmB) = true) : ∀ t ∈ flR L, ∀ x ∈ sbts t, OkN ([] ++ sFoldO [] ((flR L).flatMap opN)) x := by
  intro t ht x hx
  refine wf_ok (List.all_eq_true.1 h t ht) (knowsP_iff.2 fun s hs => ?_) x hx
  rw [List.nil_append, mem_sFoldO]
  exact .inr (List.mem_flatMap.2 ⟨t, ht, hs⟩)
set_option maxRecDepth 100000 in
set_option maxHeartbeats 2000000 in
theorem find_x (L : List Rl) (lv : Value) (w : World) (hR : RuR (fun k => k < w.heap.size) w L lv) (htab : AscT w) (hpow : Lib.TabIs Tryz.prog w "internal/strconv.uint64pow10" .u64 Lib.pow10Tab) (hl : L.length ≤ 100000) (hsz : sizes (flR L) ≤ 100000) :
    Calls Tryz.prog 19 #[lv] w fun e w' => ∃ r, e = .returned (.tuple #[r, .int .i64 (findF L).2]) ∧ (∃ a len cap, r = .slice a len cap) ∧ StR (fun _ => True) w' r (findF L).1 ∧ Ext w w' := by
  have HSR := Lib.hid (search_x L lv w hR (by omega) hsz hpow)
  have HSD := Lib.hid (sides_x L lv _ w hR (fun k h => h) hl)
  have HSS := Lib.hid hsz
  have HTAB := Lib.hid htab
  have hts : ∀ t ∈ flR L, t.size ≤ 100000 := fun t ht => by
    have := mem_sizes ht
    omega
  have HTS := Lib.hid hts
  have HFL := Lib.hid (flR_len L)
  obtain ⟨la, lc, rfl⟩ := hR.shape
  clear hR hsz htab hpow hts
  go_enter Tryz.func19, Tryz.ntmps19
  go_wp2_with fail
  refine HSD.out.mono ?_
  rintro e w4 ⟨r4, rfl, hr4, hw4⟩
  have H4 := Lib.hid hw4
  have HT4 := Lib.hid hr4
  obtain ⟨ta, tc, htv⟩ := hr4.shape
  subst htv
  have HFO := Lib.hid (forms_x (flR L) _ w4 (asc_ext HTAB.out hw4) hr4 (by rw [HFL.out]; omega) (fun t ht => by have := HTS.out t ht; omega))
  clear hr4 hw4 HSD
  cases hw : (flR L).all (wf nmB)
  · rw [hw] at HFO
    have HV : Hid (findF L = ([], 1)) := Lib.hid (by unfold findF; rw [if_pos hw])
    clear hw
    go_wp2_with fail
    refine HFO.out.mono ?_
    rintro e w5 ⟨rfl, hw5⟩
    have H5 := Lib.hid (H4.out.trans hw5)
    clear hw5 HFO
    go_wp2_with fail
    go_ret2
    rw [HV.out]
    exact ⟨_, rfl, ⟨_, _, _, rfl⟩, SlR.nil _ _ _, H5.out⟩
  rw [hw] at HFO
  have HWF := Lib.hid hw
  have hnw : ¬ ((flR L).all (wf nmB) = false) := by rw [hw]; simp
  have HNW := Lib.hid hnw
  clear hw hnw
  go_wp2_with fail
  refine HFO.out.mono ?_
  rintro e w5 ⟨rfl, hw5⟩
  have H5 := Lib.hid (H4.out.trans hw5)
  have HT5 := Lib.hid ((HT4.out.ext hw5).weaken (fun k hk => Nat.lt_of_lt_of_le hk hw5.size))
  clear hw5 HFO HT4 H4
  by_cases hc : 100 < L.length
  · have HV : Hid (findF L = ([], 4)) := Lib.hid (by unfold findF; rw [if_neg HNW.out, if_pos hc])
    have z1 : (100 : Int) < (L.length : Int) := by omega
    go_wp2_with fail
    go_ret2
    rw [HV.out]
    exact ⟨_, rfl, ⟨_, _, _, rfl⟩, SlR.nil _ _ _, H5.out⟩
  have HC := Lib.hid hc
  have z1 : ¬ (100 : Int) < (L.length : Int) := by omega
  go_wp2_with fail
  clear z1 hc
  obtain ⟨M, hM⟩ : ∃ M, flR L = M := ⟨_, rfl⟩
  have HM := Lib.hid hM
  rw [hM] at HT5 HTS HSS HFL
  have hml : M.length ≤ 1000000 := by have := HFL.out; have := HC.out; omega
  have HO0 : Hid (w5.ownsRow w5.heap.size 9 1 (.slice none 0 0) (sFoldO [] ((M.take 0).flatMap opN)).length ((sFoldO [] ((M.take 0).flatMap opN)).map Value.string)) := Lib.hid ⟨rfl, .inl ⟨rfl, rfl⟩⟩
  rw [hM]
  clear hM
  obtain ⟨wa, hwa⟩ : ∃ wa, wa = w5 := ⟨_, rfl⟩
  have HR0 : Hid (Ext wa w5) := Lib.hid (by rw [hwa]; exact Upd.refl _ _)
  rw [← hwa] at H5 HT5
  have HO1 : Hid (w5.ownsRow wa.heap.size 9 1 (.slice none 0 0) (sFoldO [] ((M.take 0).flatMap opN)).length ((sFoldO [] ((M.take 0).flatMap opN)).map Value.string)) := Lib.hid (by rw [hwa]; exact HO0.out)
  clear hwa HO0
  go_loopg [5, 22] M.length (fun gk lv iv wr => ∃ k : Nat, iv = .int .i64 (k : Int) ∧ gk = M.length - k ∧ k ≤ M.length ∧ Hid (wr.ownsRow wa.heap.size 9 1 lv (sFoldO [] ((M.take k).flatMap opN)).length ((sFoldO [] ((M.take k).flatMap opN)).map Value.string)) ∧ Hid (Ext wa wr))
  case atStart => exact ⟨0, rfl, rfl, Nat.zero_le _, HO1, HR0⟩
  case round =>
    clear HO1 HR0
    obtain ⟨k, rfl, rfl, hk, HOW, HE⟩ := hrel
    obtain ⟨oa, oc, hov⟩ := own_shape HOW.out
    subst hov
    by_cases hlt : k < M.length
    · obtain ⟨g, off, hga, _, hat⟩ := (HT5.out.ext HE.out).at_ (by omega)
      subst hga
      obtain ⟨xa, xc, q0, q1, q2, hkid⟩ := hat k hlt
      rw [← Nat.add_assoc] at q1 q2
      have z0 : (0 : Int) ≤ (k : Int) := by omega
      have z1 : (k : Int) < (M.length : Int) := by omega
      have z2 : decide ((k : Int) < (M.length : Int)) = true := decide_eq_true z1
      have z2' : decide (k < M.length) = true := decide_eq_true hlt
      have hrm := flat_room opN opN_len M k hlt
      have hln := sFoldO_len ((M.take k).flatMap opN) []
      have hss := HSS.out
      have hsn := flat_snoc opN M k hlt
      have hws := HE.out.size
      have HOP := Lib.hid (fun W (hW : Ext wr W) => opers_x wa.heap.size (tg M k) _ _ _ (fun j => j < wa.heap.size) W (sFoldO_ris (ss := (M.take k).flatMap opN) List.Pairwise.nil) (own_kept HOW.out hW (fun _ _ h => h)) (TmR.ext ⟨xa, xc, rfl, hkid⟩ hW) (fun j h => h) (by have := hW.size; omega) (by simp only [List.length_nil] at hln; omega))
      dsimp only [tV] at HOP
      rw [← sFoldO_append, ← hsn] at HOP
      obtain ⟨x, hx⟩ : ∃ x, tg M k = x := ⟨_, rfl⟩
      rw [hx] at q0 q1 q2 HOP
      have hal : Ext wr (wr.alloc (.cells #[.string x.name, .string x.sort, .slice xa x.kids.length xc] 25)) := (Upd.refl _ wr).alloc _
      have HAL := Lib.hid hal
      have e0 := cellRow (alloc0 wr (.cells #[.string x.name, .string x.sort, .slice xa x.kids.length xc] 25)) 0 (.string x.name) rfl
      have e1 := cellRow (alloc0 wr (.cells #[.string x.name, .string x.sort, .slice xa x.kids.length xc] 25)) 1 (.string x.sort) rfl
      have e2 := cellRow (alloc0 wr (.cells #[.string x.name, .string x.sort, .slice xa x.kids.length xc] 25)) 2 (.slice xa x.kids.length xc) rfl
      clear hat hkid hrm hln hss hsn hx hal
      go_wp2_with fail
      refine (HOP.out _ HAL.out).mono ?_
      rintro e w8 ⟨r, rfl, hr, hu8, hb8⟩
      have HE8 : Hid (Ext wa w8) := Lib.hid ((HE.out.trans HAL.out).trans' hu8 (fun j hj e => by have := (HOW.out.lt j e).1; omega))
      have HO8 := Lib.hid hr
      obtain ⟨ra, rc, hrv⟩ := own_shape hr
      subst hrv
      clear hr hu8 hb8 q0 q1 q2 e0 e1 e2 HOP
      go_wp2_with fail
      go_roundg (M.length - (k + 1))
      case measure => omega
      case rel => exact ⟨k + 1, by go_num, rfl, by omega, HO8, HE8⟩
    · obtain rfl : k = M.length := by omega
      have z2 : decide ((M.length : Int) < (M.length : Int)) = false := decide_eq_false (by omega)
      have htl : M.take M.length = M := List.take_length
      have H9 := Lib.hid (H5.out.trans HE.out)
      rw [htl] at HOW ⊢
      clear htl
      obtain ⟨O, hO⟩ : ∃ O, sFoldO [] (M.flatMap opN) = O := ⟨_, rfl⟩
      have HO := Lib.hid hO
      have HRI : Hid (Ris O) := Lib.hid (by rw [← hO]; exact sFoldO_ris List.Pairwise.nil)
      rw [hO] at HOW ⊢
      have HOK : Hid (∀ t ∈ flR L, ∀ x ∈ sbts t, OkN ([] ++ O) x) := Lib.hid (by rw [← hO, ← HM.out]; exact rule_ok HWF.out)
      have HFF : Hid (findF L = if 7 < O.length then ([], 6) else findE (searchP L O.length [] O)) := Lib.hid (by unfold findF; rw [if_neg HNW.out, if_neg HC.out, HM.out, hO])
      clear hO
      by_cases h7 : 7 < O.length
      · have HV : Hid (findF L = ([], 6)) := Lib.hid (by rw [HFF.out, if_pos h7])
        have z3 : (7 : Int) < (O.length : Int) := by omega
        go_wp2_with fail
        go_ret2
        rw [HV.out]
        exact ⟨_, rfl, ⟨_, _, _, rfl⟩, SlR.nil _ _ _, H9.out⟩
      have z3 : ¬ (7 : Int) < (O.length : Int) := by omega
      have HS := Lib.hid (HSR.out O.length [] O (.slice none 0 0) _ wr H9.out rfl (by simp only [List.length_nil]; omega) (by rw [List.nil_append]; exact ris_dif HRI.out) HOK.out (SlR.nil _ _ _) ((SlR.of_own HOW.out).weaken (fun j hj => own_lt HOW.out j hj)))
      have HF2 : Hid (findF L = findE (searchP L O.length [] O)) := Lib.hid (by rw [HFF.out, if_neg h7])
      obtain ⟨SO, hSO⟩ : ∃ o, searchP L O.length [] O = o := ⟨_, rfl⟩
      rw [hSO] at HS HF2
      clear hSO h7
      go_wp2_with fail
      refine HS.out.mono ?_
      rintro e wz ⟨rz, rfl, ⟨a9, n9, c9, rfl⟩, hs9, hw9⟩
      have HZ := Lib.hid (H9.out.trans hw9)
      have HS9 := Lib.hid hs9
      clear hs9 hw9 HS z3
      cases SO with
      | none =>
        have HV : Hid (findF L = ([], 12)) := Lib.hid HF2.out
        simp only [Option.isSome_none]
        go_wp2_with fail
        go_ret2
        rw [HV.out]
        exact ⟨_, rfl, ⟨_, _, _, rfl⟩, SlR.nil _ _ _, HZ.out⟩
      | some out =>
        have HV : Hid (findF L = (out, 0)) := Lib.hid HF2.out
        simp only [Option.isSome_some]
        go_wp2_with fail
        go_ret2
        rw [HV.out]
        exact ⟨_, rfl, ⟨_, _, _, rfl⟩, HS9.out out rfl, HZ.out⟩

end Go.Proofs.YtiimccogojkldaaGreatDoor

/- Terms that are not large: pure. -/
namespace Go.Hw
open Tm
set_option linter.unusedVariables false
set_option linter.unusedSimpArgs false
mutual
/-- nodes down to a depth, up to a limit -/
def ndF (d : Nat) (left : Int) : Tm → Int
  | .mk n s L => if left ≤ 0 ∨ d = 0 ∨ 100 < n.size ∨ 100 < s.size then -1 else ndFs (d - 1) (left - 1) L
def ndFs (d : Nat) (left : Int) : List Tm → Int
  | [] => left
  | a :: L => if left < 0 then left else ndFs d (ndF d left a) L
end
theorem ndF_mk (d : Nat) (left : Int) (n s : By) (L : List Tm) : ndF d left (.mk n s L) = if left ≤ 0 ∨ d = 0 ∨ 100 < n.size ∨ 100 < s.size then -1 else ndFs (d - 1) (left - 1) L := by unfold ndF; rfl
theorem ndFs_neg (d : Nat) (left : Int) (L : List Tm) (h : left < 0) : ndFs d left L = left := by
  cases L with
  | nil => simp [ndFs]
  | cons a L => simp [ndFs, h]
theorem ndFs_snoc (d : Nat) (x : Tm) : ∀ (L : List Tm) (left : Int), ndFs d left (L ++ [x]) = if ndFs d left L < 0 then ndFs d left L else ndF d (ndFs d left L) x
  | [], left => by
    simp only [List.nil_append, ndFs]
    by_cases h : left < 0 <;> simp [h]
  | a :: L, left => by
    simp only [List.cons_append, ndFs]
    by_cases h : left < 0
    · simp only [h, if_true]
    · simp only [h, if_false]
      exact ndFs_snoc d x L _
theorem ndFs_app (d : Nat) (M : List Tm) : ∀ (L : List Tm) (left : Int), ndFs d left L < 0 → ndFs d left (L ++ M) = ndFs d left L
  | [], left, h => by
    simp only [ndFs] at h
    simp only [List.nil_append, ndFs]
    exact ndFs_neg d left M h
  | a :: L, left, h => by
    simp only [List.cons_append, ndFs] at h ⊢
    by_cases h2 : left < 0
    · simp only [h2, if_true]
    · simp only [h2, if_false] at h ⊢
      exact ndFs_app d M L _ h
theorem ndF_bd : ∀ (t : Tm) (d : Nat) (left : Int), -1 ≤ left → -1 ≤ ndF d left t ∧ ndF d left t ≤ max left (-1) ∧ (0 ≤ ndF d left t → ndF d left t + t.size = left) := by
  refine Tm.ind (fun n s L ih => ?_)
  have hs : ∀ (M : List Tm), (∀ x ∈ M, x ∈ L) → ∀ (d : Nat) (left : Int), -1 ≤ left → -1 ≤ ndFs d left M ∧ ndFs d left M ≤ left ∧ (0 ≤ ndFs d left M → ndFs d left M + sizes M = left) := by
    intro M
    induction M with
    | nil => intro _ d left h; simp only [ndFs, sizes]; exact ⟨h, by omega, fun _ => by omega⟩
    | cons a M ihM =>
      intro hM d left h
      simp only [ndFs, sizes]
      by_cases h2 : left < 0
      · simp only [h2, if_true]; exact ⟨h, by omega, fun h3 => by omega⟩
      · simp only [h2, if_false]
        obtain ⟨h3, h4, h5⟩ := ih a (hM a (List.mem_cons_self ..)) d left h
        obtain ⟨h6, h7, h8⟩ := ihM (fun x hx => hM x (List.mem_cons_of_mem _ hx)) d _ h3
        refine ⟨h6, by omega, fun h9 => ?_⟩
        have := h8 h9
        have := h5 (by omega)
        omega
  intro d left h
  rw [ndF_mk, size_eq]
  split
  · exact ⟨by omega, by omega, fun h => by omega⟩
  · rename_i hn
    obtain ⟨h1, h2, h3⟩ := hs L (fun _ h => h) (d - 1) (left - 1) (by omega)
    refine ⟨h1, by omega, fun h4 => ?_⟩
    have := h3 h4
    simp only [Tm.kids]
    omega
def largeB (t : Tm) : Bool := decide (ndF 12 30 t < 0)
theorem small_of {t : Tm} (h : largeB t = false) : t.size ≤ 30 := by
  have h1 := (ndF_bd t 12 30 (by omega))
  have h2 := of_decide_eq_false h
  have := h1.2.2 (by omega)
  omega
end Go.Hw

/- Large terms. -/
namespace Go.Proofs.YtiimccogojkldaaGreatDoor
open Go.RowKit Go.Hw Go
set_option linter.unusedVariables false
set_option linter.unusedSimpArgs false

open Tm
theorem ndFs_pos (d : Nat) : ∀ (L : List Tm) (left : Int), -1 ≤ left → -1 ≤ ndFs d left L ∧ ndFs d left L ≤ left ∧ (0 ≤ ndFs d left L → ndFs d left L + sizes L = left)
  | [], left, h => by simp only [ndFs, sizes]; exact ⟨h, by omega, fun _ => by omega⟩
  | a :: L, left, h => by
    simp only [ndFs, sizes]
    by_cases h2 : left < 0
    · simp only [h2, if_true]; exact ⟨h, by omega, fun h3 => by omega⟩
    · simp only [h2, if_false]
      obtain ⟨h3, h4, h5⟩ := ndF_bd a d left h
      obtain ⟨h6, h7, h8⟩ := ndFs_pos d L _ h3
      refine ⟨h6, by omega, fun h9 => ?_⟩
      have := h8 h9
      have := h5 (by omega)
      omega
set_option maxRecDepth 100000 in
set_option maxHeartbeats 2000000 in
theorem nodes_x8 : ∀ (t : Tm) (d : Nat) (left : Int) (v : Value) (S : Nat → Prop) (w : World), TmR S w t v → d ≤ 1000 → -1 ≤ left → left ≤ 1000 →
    Calls Tryz.prog 38 #[v, .int .i64 left, .int .i64 (d : Int)] w fun e w' => e = .returned (.int .i64 (ndF d left t)) ∧ Ext w w' := by
  refine Tm.ind (fun nm so L ih => ?_)
  intro d left v S w hR hd hl0 hl1
  obtain ⟨a, cap, rfl, hT⟩ := hR
  dsimp only [tV, Tm.name, Tm.sort, Tm.kids] at hT ⊢
  have HTL := Lib.hid hT
  have HIH := Lib.hid ih
  clear ih hT
  have HZ : Hid (Ext w (w.alloc (.cells #[.string nm, .string so, .slice a L.length cap] 25))) := Lib.hid ((Upd.refl (fun _ => False) w).alloc (.cells #[.string nm, .string so, .slice a L.length cap] 25))
  have HB := Lib.hid (alloc0 w (.cells #[.string nm, .string so, .slice a L.length cap] 25))
  have c0 := cellRow HB.out 0 (.string nm) rfl
  have c1 := cellRow HB.out 1 (.string so) rfl
  have c2 := cellRow HB.out 2 (.slice a L.length cap) rfl
  by_cases h1 : left ≤ 0
  · have t1 : decide (left ≤ 0) = true := decide_eq_true h1
    have hr : ndF d left (.mk nm so L) = -1 := by rw [ndF_mk, if_pos (.inl h1)]
    rw [hr]
    clear hr HIH
    go_enter Tryz.func38, Tryz.ntmps38
    go_wp2_with fail
    go_ret
    exact ⟨rfl, HZ.out⟩
  have t1 : decide (left ≤ 0) = false := decide_eq_false h1
  by_cases h2 : d = 0
  · subst h2
    have t2 : (((0 : Nat) : Int) == 0) = true := rfl
    have hr : ndF 0 left (.mk nm so L) = -1 := by rw [ndF_mk, if_pos (.inr (.inl rfl))]
    rw [hr]
    clear hr HIH
    go_enter Tryz.func38, Tryz.ntmps38
    go_wp2_with fail
    go_ret
    exact ⟨rfl, HZ.out⟩
  have t2 : ((d : Int) == 0) = false := beq_eq_false_iff_ne.2 (by omega)
  have t2' : ¬ (d : Int) = 0 := by omega
  by_cases h3 : 100 < nm.size
  · have t3 : decide ((100 : Int) < (nm.size : Int)) = true := decide_eq_true (by omega)
    have t3' : decide (100 < nm.size) = true := decide_eq_true h3
    have hr : ndF d left (.mk nm so L) = -1 := by rw [ndF_mk, if_pos (.inr (.inr (.inl h3)))]
    rw [hr]
    clear hr HIH
    go_enter Tryz.func38, Tryz.ntmps38
    go_wp2_with fail
    go_ret
    exact ⟨rfl, HZ.out⟩
  have t3 : decide ((100 : Int) < (nm.size : Int)) = false := decide_eq_false (by omega)
  have t3' : decide (100 < nm.size) = false := decide_eq_false h3
  by_cases h4 : 100 < so.size
  · have t4 : decide ((100 : Int) < (so.size : Int)) = true := decide_eq_true (by omega)
    have t4' : decide (100 < so.size) = true := decide_eq_true h4
    have hr : ndF d left (.mk nm so L) = -1 := by rw [ndF_mk, if_pos (.inr (.inr (.inr h4)))]
    rw [hr]
    clear hr HIH
    go_enter Tryz.func38, Tryz.ntmps38
    go_wp2_with fail
    go_ret
    exact ⟨rfl, HZ.out⟩
  have t4 : decide ((100 : Int) < (so.size : Int)) = false := decide_eq_false (by omega)
  have t4' : decide (100 < so.size) = false := decide_eq_false h4
  have HV : Hid (ndF d left (.mk nm so L) = ndFs (d - 1) (left - 1) L) := Lib.hid (by
    rw [ndF_mk, if_neg]
    rintro (h | h | h | h)
    · exact h1 h
    · exact h2 h
    · exact h3 h
    · exact h4 h)
  have w1 : IntKind.i64.wrap (left - 1) = left - 1 := IntWalk.i64_in _ (by omega)
  have w2 : IntKind.i64.wrap ((d : Int) - 1) = ((d - 1 : Nat) : Int) := by rw [IntWalk.i64_in _ (by omega)]; omega
  have HPS := Lib.hid (fun k => ndFs_pos (d - 1) (L.take k) (left - 1) (by omega))
  rw [HV.out]
  clear h1 h2 h3 h4
  go_enter Tryz.func38, Tryz.ntmps38
  go_wp2_with fail
  clear c0 c1 c2 t1 t2 t2' t3 t3' t4 t4' w1
  go_loopg [1, 7] L.length (fun gk lv iv wr => ∃ k : Nat, lv = .int .i64 (ndFs (d - 1) (left - 1) (L.take k)) ∧ iv = .int .i64 (k : Int) ∧ gk = L.length - k ∧ k ≤ L.length ∧ k ≤ 2000 ∧ Hid (Ext w wr) ∧ Hid (wr.heap[w.heap.size]? = some (.cells #[.string nm, .string so, .slice a L.length cap] 25 (0, 0))))
  case atStart => exact ⟨0, rfl, rfl, rfl, Nat.zero_le _, Nat.zero_le _, HZ, HB⟩
  case round =>
    clear HZ HB
    obtain ⟨k, rfl, rfl, rfl, hk, hk2, HE, HB⟩ := hrel
    have c2 := cellRow HB.out 2 (.slice a L.length cap) rfl
    obtain ⟨p1, p2, p3⟩ := HPS.out k
    by_cases hlt : k < L.length
    · have hsn : ndFs (d - 1) (left - 1) (L.take (k + 1)) = if ndFs (d - 1) (left - 1) (L.take k) < 0 then ndFs (d - 1) (left - 1) (L.take k) else ndF (d - 1) (ndFs (d - 1) (left - 1) (L.take k)) (tg L k) := by rw [tk_snoc L k hlt, ndFs_snoc]
      have happ := ndFs_app (d - 1) (L.drop k) (L.take k) (left - 1)
      rw [List.take_append_drop] at happ
      have hkz : k ≤ sizes (L.take k) := by have := length_le_sizes (L.take k); rw [List.length_take] at this; omega
      have HSN := Lib.hid hsn
      have HAP := Lib.hid happ
      obtain ⟨X, hX⟩ : ∃ X, ndFs (d - 1) (left - 1) (L.take k) = X := ⟨_, rfl⟩
      rw [hX] at p1 p2 p3 HSN HAP ⊢
      have z0 : (0 : Int) ≤ (k : Int) := by omega
      have z1 : (k : Int) < (L.length : Int) := by omega
      have z2 : decide ((k : Int) < (L.length : Int)) = true := decide_eq_true z1
      have z2' : decide (k < L.length) = true := decide_eq_true hlt
      clear hsn happ
      by_cases hx0 : 0 ≤ X
      · have y0 : decide (0 ≤ X) = true := decide_eq_true hx0
        obtain ⟨g, off, hga, _, hat⟩ := (HTL.out.ext HE.out).at_ (by omega)
        subst hga
        obtain ⟨xa, xc, q0, q1, q2, hkid⟩ := hat k hlt
        rw [← Nat.add_assoc] at q1 q2
        have HIX := Lib.hid (HIH.out (tg L k) (tg_mem L k hlt) (d - 1) X _ S wr ⟨xa, xc, rfl, hkid⟩ (by omega) p1 (by omega))
        have HS2 : Hid (ndFs (d - 1) (left - 1) (L.take (k + 1)) = ndF (d - 1) X (tg L k)) := Lib.hid (by rw [HSN.out, if_neg (by omega)])
        dsimp only [tV] at HIX
        obtain ⟨x, hx⟩ : ∃ x, tg L k = x := ⟨_, rfl⟩
        rw [hx] at q0 q1 q2 HIX HS2
        have hk3 : k ≤ 1999 := by have := p3 hx0; omega
        clear hat hkid hx p3 HSN HAP hX
        go_wp2_with fail
        refine HIX.out.mono ?_
        rintro e w8 ⟨rfl, hw8⟩
        have HE8 := Lib.hid (HE.out.trans hw8)
        have HB8 := Lib.hid (hw8.heap HB.out (fun h => h))
        clear hw8 c2 q0 q1 q2 HIX
        go_wp2_with fail
        go_roundg (L.length - (k + 1))
        case measure => omega
        case rel => exact ⟨k + 1, by rw [HS2.out], by go_num, rfl, by omega, by omega, HE8, HB8⟩
      · have y0 : decide (0 ≤ X) = false := decide_eq_false hx0
        have y1 : ¬ (0 ≤ X) := hx0
        have HVV := Lib.hid (HAP.out (by omega))
        clear HSN HAP hX p3
        go_wp2_with fail
        go_ret
        rw [HVV.out]
        exact ⟨rfl, HE.out⟩
    · obtain rfl : k = L.length := by omega
      have z2 : decide ((L.length : Int) < (L.length : Int)) = false := decide_eq_false (by omega)
      have htl : L.take L.length = L := List.take_length
      rw [htl]
      clear htl
      go_wp2_with fail
      go_ret
      exact ⟨rfl, HE.out⟩
set_option maxRecDepth 100000 in
set_option maxHeartbeats 2000000 in
theorem large_x (t : Tm) (v : Value) (S : Nat → Prop) (w : World) (hR : TmR S w t v) : Calls Tryz.prog 11 #[v] w fun e w' => e = .returned (.bool (largeB t)) ∧ Ext w w' := by
  have HN := Lib.hid (fun W (hW : Ext w W) => nodes_x8 t 12 30 _ S W (hR.ext hW) (by omega) (by omega) (by omega))
  obtain ⟨a, cap, rfl, hT⟩ := hR
  have HZ : Hid (Ext w (w.alloc (.cells #[.string t.name, .string t.sort, .slice a t.kids.length cap] 25))) := Lib.hid ((Upd.refl (fun _ => False) w).alloc (.cells #[.string t.name, .string t.sort, .slice a t.kids.length cap] 25))
  have hb := alloc0 w (.cells #[.string t.name, .string t.sort, .slice a t.kids.length cap] 25)
  dsimp only [tV] at HN ⊢
  have c0 := cellRow hb 0 (.string t.name) rfl
  have c1 := cellRow hb 1 (.string t.sort) rfl
  have c2 := cellRow hb 2 (.slice a t.kids.length cap) rfl
  have HV : Hid (largeB t = decide (ndF 12 30 t < 0)) := Lib.hid rfl
  rw [HV.out]
  generalize ndF 12 30 t = X at *
  clear hT hb
  go_enter Tryz.func11, Tryz.ntmps11
  go_wp2_with fail
  refine (HN.out _ HZ.out).mono ?_
  rintro e w4 ⟨rfl, hw4⟩
  have H4 := Lib.hid (HZ.out.trans hw4)
  clear hw4 c0 c1 c2
  go_wp2_with fail
  go_ret
  exact ⟨rfl, H4.out⟩

end Go.Proofs.YtiimccogojkldaaGreatDoor

/- Long names. -/
namespace Go.Proofs.YtiimccogojkldaaGreatDoor
open Go.RowKit Go.Hw Go
set_option linter.unusedVariables false
set_option linter.unusedSimpArgs false

open Tm
/-- what long answers -/
def LongP (l : List By) (e : Ending) : Prop := ∃ b : Bool, e = .returned (.bool b) ∧ (b = false → l.length ≤ 120)
theorem longP_mk {l : List By} (b : Bool) (h : b = false → l.length ≤ 120) : LongP l (.returned (.bool b)) := ⟨b, rfl, h⟩
theorem clo37_x (s : By) (w : World) : Calls Tryz.prog 37 #[.string s] w fun e w' => e = .returned (.bool (decide (100 < s.size))) ∧ Ext w w' := by
  have h1 : decide ((100 : Int) < (s.size : Int)) = decide (100 < s.size) := by rw [Bool.eq_iff_iff, decide_eq_true_eq, decide_eq_true_eq]; omega
  go_enter Tryz.func37, Tryz.ntmps37
  go_wp2_with fail
  go_ret
  first
    | exact ⟨rfl, Upd.refl _ _⟩
    | exact ⟨by rw [h1], Upd.refl _ _⟩
    | exact ⟨by simp, Upd.refl _ _⟩
set_option maxRecDepth 100000 in
set_option maxHeartbeats 2000000 in
theorem idxS37_x (l : List By) (v : Value) (S : Nat → Prop) (w : World) (hR : StR S w v l) (hl : l.length ≤ 1000000) :
    Calls Tryz.prog 71 #[v, .func (.func 37) #[] #[]] w fun e w' => ∃ r : Int, e = .returned (.int .i64 r) ∧ Ext w w' := by
  obtain ⟨a, cap, rfl⟩ := SlR.shape hR
  have HR := Lib.hid hR
  clear hR
  go_enter Tryz.func71, Tryz.ntmps71
  go_wp2_with fail
  go_loopg [8] l.length (fun gk iv wr => ∃ k : Nat, iv = .int .i64 (k : Int) ∧ gk = l.length - k ∧ k ≤ l.length ∧ Hid (Ext w wr))
  case atStart => exact ⟨0, rfl, rfl, Nat.zero_le _, Lib.hid (Upd.refl _ _)⟩
  case round =>
    obtain ⟨k, rfl, rfl, hk, HE⟩ := hrel
    by_cases hlt : k < l.length
    · obtain ⟨g, off, hga, _, hat⟩ := SlR.one_at (d := nul) (SlR.kept HR.out HE.out (fun _ _ h => h)) (by omega)
      subst hga
      have q0 := hat k hlt
      have z0 : (0 : Int) ≤ (k : Int) := by omega
      have z1 : (k : Int) < (l.length : Int) := by omega
      have z2 : decide ((k : Int) < (l.length : Int)) = true := decide_eq_true z1
      have z2' : decide (k < l.length) = true := decide_eq_true hlt
      obtain ⟨x, hx⟩ : ∃ x, l.getD k nul = x := ⟨_, rfl⟩
      rw [hx] at q0
      have HC := Lib.hid (clo37_x x wr)
      obtain ⟨b, hb⟩ : ∃ b, decide (100 < x.size) = b := ⟨_, rfl⟩
      rw [hb] at HC
      clear hat hx hb
      go_wp2_with fail
      refine HC.out.mono ?_
      rintro e w4 ⟨rfl, hw4⟩
      have H4 := Lib.hid (HE.out.trans hw4)
      clear hw4 q0 HC HE
      cases b
      · go_wp2_with fail
        go_roundg (l.length - (k + 1))
        case measure => omega
        case rel => exact ⟨k + 1, by go_num, rfl, by omega, H4⟩
      · go_wp2_with fail
        go_ret
        exact ⟨_, rfl, H4.out⟩
    · obtain rfl : k = l.length := by omega
      have z2 : decide ((l.length : Int) < (l.length : Int)) = false := decide_eq_false (by omega)
      go_wp2_with fail
      go_ret
      exact ⟨_, rfl, HE.out⟩
set_option maxRecDepth 100000 in
set_option maxHeartbeats 2000000 in
theorem conS37_x (l : List By) (v : Value) (S : Nat → Prop) (w : World) (hR : StR S w v l) (hl : l.length ≤ 1000000) :
    Calls Tryz.prog 36 #[v, .func (.func 37) #[] #[]] w fun e w' => ∃ b : Bool, e = .returned (.bool b) ∧ Ext w w' := by
  have HI := Lib.hid (idxS37_x l v S w hR hl)
  clear hR
  go_enter Tryz.func36, Tryz.ntmps36
  go_wp2_with fail
  refine HI.out.mono ?_
  rintro e w4 ⟨r, rfl, hw4⟩
  have H4 := Lib.hid hw4
  clear hw4
  go_wp2_with fail
  go_ret
  exact ⟨_, rfl, H4.out⟩
set_option maxRecDepth 100000 in
set_option maxHeartbeats 2000000 in
theorem long_x (l : List By) (v : Value) (S : Nat → Prop) (w : World) (hR : StR S w v l) : Calls Tryz.prog 10 #[v] w fun e w' => LongP l e ∧ Ext w w' := by
  have HC := Lib.hid (fun (h : l.length ≤ 120) => conS37_x l v S w hR (by omega))
  obtain ⟨a, cap, rfl⟩ := SlR.shape hR
  clear hR
  by_cases h1 : 20 < l.length ∧ l.length ≤ 100
  · have z1 : decide ((20 : Int) < (l.length : Int)) = true := decide_eq_true (by omega)
    have z2 : decide ((l.length : Int) ≤ 100) = true := decide_eq_true (by omega)
    have z1' : (20 : Int) < (l.length : Int) := by omega
    have z2' : (l.length : Int) ≤ 100 := by omega
    clear HC
    go_enter Tryz.func10, Tryz.ntmps10
    go_wp2_with fail
    go_ret
    exact ⟨longP_mk true (fun h => by cases h), Upd.refl _ _⟩
  · by_cases h2 : 120 < l.length
    · have z1 : decide ((20 : Int) < (l.length : Int)) = true := decide_eq_true (by omega)
      have z1' : (20 : Int) < (l.length : Int) := by omega
      have z2 : decide ((l.length : Int) ≤ 100) = false := decide_eq_false (by omega)
      have z2' : ¬ (l.length : Int) ≤ 100 := by omega
      have z3 : decide ((120 : Int) < (l.length : Int)) = true := decide_eq_true (by omega)
      have z3' : (120 : Int) < (l.length : Int) := by omega
      clear HC
      go_enter Tryz.func10, Tryz.ntmps10
      go_wp2_with fail
      go_ret
      exact ⟨longP_mk true (fun h => by cases h), Upd.refl _ _⟩
    · have h3 : l.length ≤ 120 := by omega
      have HC1 := Lib.hid (HC.out h3)
      have z3 : decide ((120 : Int) < (l.length : Int)) = false := decide_eq_false (by omega)
      have z3' : ¬ (120 : Int) < (l.length : Int) := by omega
      have H3 := Lib.hid h3
      clear HC
      by_cases h4 : 20 < l.length
      · have z1 : decide ((20 : Int) < (l.length : Int)) = true := decide_eq_true (by omega)
        have z1' : (20 : Int) < (l.length : Int) := by omega
        have z2 : decide ((l.length : Int) ≤ 100) = false := decide_eq_false (by omega)
        have z2' : ¬ (l.length : Int) ≤ 100 := by omega
        clear h1 h2 h3 h4
        go_enter Tryz.func10, Tryz.ntmps10
        go_wp2_with fail
        refine HC1.out.mono ?_
        rintro e w4 ⟨b, rfl, hw4⟩
        have H4 := Lib.hid hw4
        clear hw4 HC1
        go_wp2_with fail
        go_ret
        exact ⟨longP_mk _ (fun _ => H3.out), H4.out⟩
      · have z1 : decide ((20 : Int) < (l.length : Int)) = false := decide_eq_false (by omega)
        have z1' : ¬ (20 : Int) < (l.length : Int) := by omega
        clear h1 h2 h3 h4
        go_enter Tryz.func10, Tryz.ntmps10
        go_wp2_with fail
        refine HC1.out.mono ?_
        rintro e w4 ⟨b, rfl, hw4⟩
        have H4 := Lib.hid hw4
        clear hw4 HC1
        go_wp2_with fail
        go_ret
        exact ⟨longP_mk _ (fun _ => H3.out), H4.out⟩

end Go.Proofs.YtiimccogojkldaaGreatDoor

/- Parameters as they come in. -/
namespace Go.Proofs.YtiimccogojkldaaGreatDoor
open Go.RowKit Go.Hw Go
set_option linter.unusedVariables false
set_option linter.unusedSimpArgs false

open Go.ChangeShapes Go.WideShapes Go.Deep Go.Joins Go.ChangeAt Tm
set_option maxRecDepth 100000
theorem Tryz.own : ownKnob Tryz.prog.godebug = none := by kernel_rfl
theorem Tryz.laidOut : laidOutB Tryz.prog = true := by kernel_rfl
theorem cells25 : Tryz.prog.cellsOf 25 = 3 := by kernel_rfl
theorem cells9 : Tryz.prog.cellsOf 9 = 1 := by kernel_rfl
theorem cells3 : Tryz.prog.cellsOf 3 = 1 := by kernel_rfl
theorem cells23 : Tryz.prog.cellsOf 23 = 1 := by kernel_rfl
theorem cells38 : Tryz.prog.cellsOf 38 = 6 := by kernel_rfl

theorem add_plainO (b o k : Nat) : (⟨b, o, none⟩ : Addr).add k = ⟨b, o + k, none⟩ := by
  unfold Addr.add
  split
  · rename_i h; subst h; rfl
  · rfl
def intOf : Value → Int
  | .int _ n => n
  | _ => 0
theorem flat_one {α : Type} (f : α → Value) : ∀ l : List α, l.flatMap (fun s => [f s]) = l.map f
  | [] => rfl
  | a :: l => by rw [List.flatMap_cons, flat_one f l]; rfl
theorem flat_len {α : Type} (cells : α → List Value) {k : Nat} (hc : ∀ a, (cells a).length = k) : ∀ l : List α, (l.flatMap cells).length = l.length * k
  | [] => by simp
  | a :: l => by rw [List.flatMap_cons, List.length_append, hc, flat_len cells hc l, List.length_cons, Nat.add_mul, Nat.one_mul, Nat.add_comm]
theorem flat_get {α : Type} [Inhabited α] (cells : α → List Value) {k : Nat} (hc : ∀ a, (cells a).length = k) : ∀ (l : List α) (q r : Nat), q < l.length → r < k → (l.flatMap cells)[q * k + r]? = (cells (l.getD q default))[r]?
  | [], q, r, h, _ => by simp at h
  | a :: l, 0, r, _, hr => by
    rw [List.flatMap_cons, Nat.zero_mul, Nat.zero_add, List.getElem?_append_left (by rw [hc]; exact hr)]
    rfl
  | a :: l, q + 1, r, h, hr => by
    rw [List.flatMap_cons, List.getElem?_append_right (by rw [hc, Nat.add_mul]; omega), hc, show (q + 1) * k + r - k = q * k + r by rw [Nat.add_mul]; omega]
    rw [flat_get cells hc l q r (by simpa using h) hr]
    rfl
section
variable {H : Type} {enc : TypeId × Value → H} {W : World}
noncomputable abbrev trd (enc : TypeId × Value → H) (W : World) (held : Bool) (fuel : Nat) (t : TypeId) (cs : List Value) := DataW.trod enc Tryz.prog W 0 (fun _ => true) held fuel t cs
theorem open_sl {t e : TypeId} {k : Nat} {α : Type} [Inhabited α] (cells : α → List Value) (R : α → Prop) (ht : Tryz.prog.underlying t = some (.slice e)) (hk : Tryz.prog.cellsOf e = k) (hc : ∀ a, (cells a).length = k) (hk0 : 0 < k)
    {held : Bool} {fuel : Nat} {v : Value} {y : DataW H × List MemPlace} (hel : ∀ n cs y, n < fuel → trd enc W held n e cs = some y → ∃ a, cs = cells a ∧ R a) (h : trd enc W held fuel t [v] = some y) :
    ∃ l : List α, SlR (fun b => b < W.heap.size) W k v l.length (l.flatMap cells) ∧ l.length ≤ maxLen ∧ ∀ a ∈ l, R a := by
  rcases DataW.trod_slice ht h with ⟨hcs, _⟩ | ⟨a, len, cap, elems, rest, n, hfu, hcs, _, _, hl, hm, hlen, hall, _⟩
  · simp only [List.cons.injEq, and_true] at hcs
    subst hcs
    exact ⟨[], SlR.nil _ _ _, by simp, by simp⟩
  · simp only [List.cons.injEq, and_true] at hcs
    subst hcs
    rw [hk] at hall
    have hA : ∀ i, ∃ f : α, i < len → (∃ cs', W.cells? 0 (a.add (i * k)) k = some cs' ∧ cs' = cells f) ∧ R f := fun i => by
      by_cases hi : i < len
      · have h1 := hall i hi
        rw [List.getElem?_eq_getElem (by omega)] at h1
        obtain ⟨cs', h2, h3⟩ := Option.bind_eq_some_iff.1 h1
        obtain ⟨f, hf, hr⟩ := hel n cs' _ (by omega) h3
        exact ⟨f, fun _ => ⟨⟨cs', h2, hf⟩, hr⟩⟩
      · exact ⟨default, fun h => absurd h hi⟩
    obtain ⟨A, hA3⟩ := Classical.axiomOfChoice hA
    have hlenA : ((List.range len).map A).length = len := by simp
    have hx : ∀ i r, i < len → r < k → W.cell? ((a.add (i * k)).add r) = (cells (A i))[r]? := fun i r hi hr => by
      obtain ⟨⟨cs', h1, h2⟩, _⟩ := hA3 i hi
      rw [← h2]
      exact (World.cells?_some h1).2.2 r hr
    have hsm : 0 < len → ∃ u, W.cell? ((a.add (0 * k)).add 0) = some u := fun h0 => by
      rw [hx 0 0 h0 hk0]
      exact ⟨_, List.getElem?_eq_getElem (by rw [hc]; exact hk0)⟩
    have hsp : 0 < len → a.spot = none := fun h0 => by
      obtain ⟨u, hu⟩ := hsm h0
      have := World.cell?_spot hu
      simpa [Addr.add] using this
    have hbk : 0 < len → a.block < W.heap.size := fun h0 => by
      obtain ⟨u, hu⟩ := hsm h0
      have := World.block_lt_of_cell? W _ hu
      simpa [Addr.add] using this
    refine ⟨(List.range len).map A, ?_, by rw [hlenA]; omega, fun p hp => ?_⟩
    · rw [hlenA]
      refine ⟨by rw [flat_len cells hc, hlenA], .inr ⟨a, cap, rfl, hl, fun h0 => ⟨hsp h0, hbk h0⟩, fun j hj => ?_⟩⟩
      have hjq : j / k < len := Nat.div_lt_of_lt_mul (by rw [Nat.mul_comm]; exact hj)
      have hjr : j % k < k := Nat.mod_lt _ hk0
      have hje : j = j / k * k + j % k := by rw [Nat.mul_comm]; exact (Nat.div_add_mod j k).symm
      generalize j / k = q at hjq hje
      generalize j % k = r at hjr hje
      subst hje
      rw [flat_get cells hc _ q r (by rw [hlenA]; exact hjq) hjr]
      have e : ((List.range len).map A).getD q default = A q := by simp [hjq]
      rw [e, ← hx q r hjq hjr]
      have h4 := hsp (by omega)
      obtain ⟨ab, ao, asp⟩ := a
      simp only at h4
      subst h4
      rw [add_plainO, add_plainO, Nat.add_assoc]
    · simp only [List.mem_map, List.mem_range] at hp
      obtain ⟨i, hi, rfl⟩ := hp
      exact (hA3 i hi).2
/-- a term with the slice of its parts -/
abbrev Tu := Tm × Value
def tuCells (p : Tu) : List Value := [.string p.1.name, .string p.1.sort, p.2]
def TuOk (W : World) (p : Tu) : Prop := TlR (fun b => b < W.heap.size) W p.1.kids p.2
theorem tu_tCells : ∀ l : List Tu, l.flatMap tuCells = tCells (l.map (·.1)) (l.map (·.2))
  | [] => rfl
  | p :: l => by
    rw [List.flatMap_cons, tu_tCells l]
    rfl
theorem tu_list {l : List Tu} {v : Value} (h : SlR (fun b => b < W.heap.size) W 3 v l.length (l.flatMap tuCells)) (hR : ∀ p ∈ l, TuOk W p) : TlR (fun b => b < W.heap.size) W (l.map (·.1)) v := by
  rw [tu_tCells] at h
  refine .mk _ (l.map (·.2)) v (by simp) (by rw [List.length_map]; exact h) (fun i hi => ?_)
  rw [List.length_map] at hi
  have h1 := hR _ (List.getElem_mem hi)
  unfold TuOk at h1
  have e1 : tg (l.map (·.1)) i = (l[i]).1 := by unfold tg; simp [hi]
  have e2 : ug (l.map (·.2)) i = (l[i]).2 := by unfold ug; simp [hi]
  rw [e1, e2]
  exact h1
theorem term_of (fuel : Nat) : ∀ {held : Bool} (cs : List Value) (y : DataW H × List MemPlace), trd enc W held fuel 25 cs = some y → ∃ p : Tu, cs = tuCells p ∧ TuOk W p := by
  induction fuel using Nat.strongRecOn with
  | _ fuel ih =>
    intro held cs y h
    obtain ⟨xs, n, hfu, hx, hcl, hxl, hf⟩ := DataW.trod_struct Tryz.underlying25 h
    rw [cells25] at hcl
    match cs, hcl, xs, hxl with
    | [v0, v1, v2], _, [y0, y1, y2], _ =>
      have g0 := hf 0 _ rfl
      have g1 := hf 1 _ rfl
      have g2 := hf 2 _ rfl
      simp [cells9, cells23] at g0 g1 g2
      obtain ⟨s0, e0, _, _⟩ := DataW.trod_string Tryz.underlying9 g0
      obtain ⟨s1, e1, _, _⟩ := DataW.trod_string Tryz.underlying9 g1
      simp only [List.cons.injEq, and_true] at e0 e1
      subst e0; subst e1
      obtain ⟨l, hl, _, hR⟩ := open_sl (α := Tu) tuCells (TuOk W) Tryz.underlying23 cells25 (fun _ => rfl) (by decide) (fun n' cs' y' hn h' => ih n' (by omega) cs' y' h') g2
      exact ⟨((Tm.mk s0 s1 (l.map fun (x : Tu) => x.1), v2) : Tu), rfl, tu_list hl hR⟩
theorem open_term {v : Value} {d : DataW H} {ps : List MemPlace} (h : DataW.Trod enc Tryz.prog W 0 (fun _ => true) true 25 v d ps) (hv : ∃ a b c, v = .agg #[a, b, c] ∧ v.cells = #[a, b, c]) : ∃ t : Tm, TmR (fun b => b < W.heap.size) W t v := by
  obtain ⟨fuel, hf⟩ := h
  obtain ⟨a, b, c, rfl, hc⟩ := hv
  rw [hc] at hf
  obtain ⟨p, hp, hR⟩ := term_of fuel _ _ hf
  unfold tuCells at hp
  simp only [List.cons.injEq, and_true] at hp
  obtain ⟨rfl, rfl, rfl⟩ := hp
  exact ⟨p.1, TmR.of hR⟩
theorem open_terms {v : Value} {d : DataW H} {ps : List MemPlace} (h : DataW.Trod enc Tryz.prog W 0 (fun _ => true) true 23 v d ps) (hs : ∃ a len cap, v = .slice a len cap) : ∃ L : List Tm, TlR (fun b => b < W.heap.size) W L v ∧ L.length ≤ maxLen := by
  obtain ⟨fuel, hf⟩ := h
  obtain ⟨a, len, cap, rfl⟩ := hs
  obtain ⟨l, hl, hm, hR⟩ := open_sl (α := Tu) tuCells (TuOk W) Tryz.underlying23 cells25 (fun _ => rfl) (by decide) (fun n' cs' y' hn h' => term_of n' cs' y' h') hf
  exact ⟨l.map (·.1), tu_list hl hR, by rw [List.length_map]; exact hm⟩
theorem open_strs {v : Value} {d : DataW H} {ps : List MemPlace} (h : DataW.Trod enc Tryz.prog W 0 (fun _ => true) true 22 v d ps) (hs : ∃ a len cap, v = .slice a len cap) : ∃ l : List By, SlR (fun b => b < W.heap.size) W 1 v l.length (l.map Value.string) ∧ l.length ≤ maxLen := by
  obtain ⟨fuel, hf⟩ := h
  obtain ⟨a, len, cap, rfl⟩ := hs
  haveI : Inhabited By := ⟨nul⟩
  obtain ⟨l, hl, hm, hR⟩ := open_sl (α := By) (fun s => [.string s]) (fun _ => True) Tryz.underlying22 cells9 (fun _ => rfl) (by decide) (fun n' cs' y' hn h' => by
    obtain ⟨s0, e0, _, _⟩ := DataW.trod_string Tryz.underlying9 h'
    exact ⟨s0, e0, trivial⟩) hf
  refine ⟨l, ?_, hm⟩
  have e : l.flatMap (fun s => [Value.string s]) = l.map Value.string := flat_one _ l
  rw [← e]
  exact hl
theorem open_ints0 {v : Value} {d : DataW H} {ps : List MemPlace} (h : DataW.Trod enc Tryz.prog W 0 (fun _ => true) true 59 v d ps) (hs : ∃ a len cap, v = .slice a len cap) : ∃ l : List Int, SlR (fun b => b < W.heap.size) W 1 v l.length (l.map (Value.int .i64)) ∧ l.length ≤ maxLen ∧ ∀ x ∈ l, -9223372036854775808 ≤ x ∧ x ≤ 9223372036854775807 := by
  obtain ⟨fuel, hf⟩ := h
  obtain ⟨a, len, cap, rfl⟩ := hs
  obtain ⟨l, hl, hm, hR⟩ := open_sl (α := Int) (fun s => [.int .i64 s]) (fun x => -9223372036854775808 ≤ x ∧ x ≤ 9223372036854775807) Tryz.underlying59 cells3 (fun _ => rfl) (by decide) (fun n' cs' y' hn h' => by
    obtain ⟨s0, e0, _, w0⟩ := DataW.trod_int Tryz.underlying3 h'
    exact ⟨s0, e0, bounds_i64 w0⟩) hf
  refine ⟨l, ?_, hm, hR⟩
  have e : l.flatMap (fun s => [Value.int .i64 s]) = l.map (Value.int .i64) := flat_one _ l
  rw [← e]
  exact hl
/-- a rule with the slices of the parts of its sides -/
abbrev Ru := Tu × Tu
def ruCells (p : Ru) : List Value := tuCells p.1 ++ tuCells p.2
theorem rule_of (fuel : Nat) {held : Bool} (cs : List Value) (y : DataW H × List MemPlace) (h : trd enc W held fuel 38 cs = some y) : ∃ p : Ru, cs = ruCells p ∧ TuOk W p.1 ∧ TuOk W p.2 := by
  obtain ⟨xs, n, hfu, hx, hcl, hxl, hf⟩ := DataW.trod_struct Tryz.underlying38 h
  rw [cells38] at hcl
  match cs, hcl, xs, hxl with
  | [v0, v1, v2, v3, v4, v5], _, [y0, y1], _ =>
    have g0 := hf 0 _ rfl
    have g1 := hf 1 _ rfl
    simp [cells25] at g0 g1
    obtain ⟨p, hp, h1⟩ := term_of _ _ _ g0
    obtain ⟨q, hq, h2⟩ := term_of _ _ _ g1
    refine ⟨(p, q), ?_, h1, h2⟩
    unfold ruCells
    rw [← hp, ← hq]
    rfl
theorem open_rules {v : Value} {d : DataW H} {ps : List MemPlace} (h : DataW.Trod enc Tryz.prog W 0 (fun _ => true) true 35 v d ps) (hs : ∃ a len cap, v = .slice a len cap) : ∃ l : List Ru, SlR (fun b => b < W.heap.size) W 6 v l.length (l.flatMap ruCells) ∧ l.length ≤ maxLen ∧ ∀ p ∈ l, TuOk W p.1 ∧ TuOk W p.2 := by
  obtain ⟨fuel, hf⟩ := h
  obtain ⟨a, len, cap, rfl⟩ := hs
  exact open_sl (α := Ru) ruCells (fun p => TuOk W p.1 ∧ TuOk W p.2) Tryz.underlying35 cells38 (fun _ => rfl) (by decide) (fun n' cs' y' hn h' => rule_of n' cs' y' h') hf
end

end Go.Proofs.YtiimccogojkldaaGreatDoor

/- Rules as they come in. -/
namespace Go.Proofs.YtiimccogojkldaaGreatDoor
open Go.RowKit Go.Hw Go
set_option linter.unusedVariables false
set_option linter.unusedSimpArgs false

open Tm
def ruls (l : List Ru) : List Rl := l.map fun p => (p.1.1, p.2.1)
theorem ru_tCells : ∀ l : List Ru, l.flatMap ruCells = tCells (flR (ruls l)) (l.flatMap fun p => [p.1.2, p.2.2])
  | [] => rfl
  | p :: l => by
    rw [List.flatMap_cons, ru_tCells l]
    rfl
theorem ru_us : ∀ l : List Ru, (l.flatMap fun p => [p.1.2, p.2.2]).length = 2 * l.length
  | [] => rfl
  | p :: l => by
    rw [List.flatMap_cons, List.length_append, ru_us l, List.length_cons]
    simp
    omega
theorem ru_kids {W : World} : ∀ {l : List Ru}, (∀ p ∈ l, TuOk W p.1 ∧ TuOk W p.2) → ∀ i, i < 2 * l.length → TlR (fun b => b < W.heap.size) W (tg (flR (ruls l)) i).kids (ug (l.flatMap fun p => [p.1.2, p.2.2]) i)
  | [], _, i, h => absurd h (by simp)
  | p :: l, hR, 0, _ => (hR p (List.mem_cons_self ..)).1
  | p :: l, hR, 1, _ => (hR p (List.mem_cons_self ..)).2
  | p :: l, hR, i + 2, h => ru_kids (l := l) (fun q hq => hR q (List.mem_cons_of_mem _ hq)) i (by simp only [List.length_cons] at h; omega)
theorem rules_in {W : World} {l : List Ru} {v : Value} (h : SlR (fun b => b < W.heap.size) W 6 v l.length (l.flatMap ruCells)) (hR : ∀ p ∈ l, TuOk W p.1 ∧ TuOk W p.2) : RuR (fun b => b < W.heap.size) W (ruls l) v := by
  have hlen : (ruls l).length = l.length := by unfold ruls; simp
  have hfl := flR_len (ruls l)
  have hus := ru_us l
  have hk := ru_kids hR
  obtain ⟨hl, h⟩ := h
  rcases h with ⟨rfl, h0⟩ | ⟨ad, cap, rfl, hc, hS, hj⟩
  · have : l = [] := List.eq_nil_of_length_eq_zero h0
    subst this
    exact ⟨none, 0, rfl, TlR.nil _ _⟩
  · refine ⟨some ad, cap, by rw [hlen], .mk _ (l.flatMap fun p => [p.1.2, p.2.2]) _ (by rw [hus, hfl, hlen]) ?_ (fun i hi => hk i (by omega))⟩
    rw [hfl, hlen]
    refine ⟨by rw [tCells_len, hfl, hlen], .inr ⟨ad, 2 * cap, rfl, by omega, fun h => hS (by omega), fun j hjj => ?_⟩⟩
    rw [← ru_tCells]
    exact hj j (by omega)

end Go.Proofs.YtiimccogojkldaaGreatDoor

/- The frame of a card: what the row's variables hold. -/
namespace Go.Proofs.YtiimccogojkldaaGreatDoor
open Go.ChangeShapes Go.WideShapes Go.ChangeAt Go.RowKit Go.Hw
set_option linter.unusedVariables false
set_option linter.unusedSimpArgs false
def tabsL : List (String × DataW Unit) := [("math/bits.deBruijn32tab", Rows.laid_math_bits_deBruijn32tab), ("math/bits.deBruijn64tab", Rows.laid_math_bits_deBruijn64tab), ("internal/strconv.uint64pow10", Rows.laid_internal_strconv_uint64pow10), ("unicode.White_Space", Rows.laid_unicode_White_Space), ("strings.asciiSpace", Rows.laid_strings_asciiSpace)]
theorem pow10_data : (Rows.laid_internal_strconv_uint64pow10 : DataW Unit) = Lib.tabData .u64 Lib.pow10Tab := by kernel_rfl
theorem tabsL_pow : (tabsL.filter fun x => x.1 == "internal/strconv.uint64pow10") = [("internal/strconv.uint64pow10", Lib.tabData .u64 Lib.pow10Tab)] := by
  rw [← pow10_data]; kernel_rfl
set_option maxRecDepth 100000 in
theorem tab_of_laid {W : World} (h : laidMetH Tryz.prog tabsL W) : Lib.TabIs Tryz.prog W "internal/strconv.uint64pow10" .u64 Lib.pow10Tab := by
  rw [MakeChecks.laidMetH_plain _ _ _ (by kernel_rfl)] at h
  have h2 := laidMet.filter (fun x => x.1 == "internal/strconv.uint64pow10") h
  rw [tabsL_pow] at h2
  exact Lib.tabIs_of_head (g := (Tryz.prog.globalNamed "internal/strconv.uint64pow10").getD 0) (t := 204) (e := 181) (n := 20) (by kernel_rfl) (by kernel_rfl) (by kernel_rfl) (by kernel_rfl) (by kernel_rfl) (by kernel_rfl) h2

open Go.Deep Go.Joins Tm
set_option maxRecDepth 100000 in
theorem asc_data : (Rows.laid_strings_asciiSpace : DataW Unit) = Lib.tabData .u8 Lib.asciiSpaceTab := by kernel_rfl
set_option maxRecDepth 100000 in
theorem tabsL_asc : (tabsL.filter fun x => x.1 == "strings.asciiSpace") = [("strings.asciiSpace", Lib.tabData .u8 Lib.asciiSpaceTab)] := by
  rw [← asc_data]; kernel_rfl
set_option maxRecDepth 100000 in
theorem asc_of_laid {W : World} (h : laidMetH Tryz.prog tabsL W) : AscT W := by
  rw [MakeChecks.laidMetH_plain _ _ _ (by kernel_rfl)] at h
  have h2 := laidMet.filter (fun x => x.1 == "strings.asciiSpace") h
  rw [tabsL_asc] at h2
  exact Lib.tabIs_of_head (g := (Tryz.prog.globalNamed "strings.asciiSpace").getD 0) (t := 177) (e := 5) (n := 256) (by kernel_rfl) (by kernel_rfl) (by kernel_rfl) (by kernel_rfl) (by kernel_rfl) (by kernel_rfl) h2
set_option maxRecDepth 100000 in
theorem open_tm {H : Type} {enc : TypeId × Value → H} {W : World} {r : Reach} {b0 : Nat} {v : Value} {d : DataW H} {ps : List MemPlace} (hv : Value.okWide Tryz.prog W r b0 25 v) (h : DataW.Trod enc Tryz.prog W 0 (fun _ => true) true 25 v d ps) : ∃ t : Tm, TmR (fun b => b < W.heap.size) W t v :=
  open_term h (by
    obtain ⟨cs, rfl, hsz⟩ := okWide_struct Tryz.underlying25 hv
    obtain ⟨c0, c1, c2, rfl⟩ := array3 (hsz.trans cells25)
    exact ⟨c0, c1, c2, rfl, by simp [Value.cells]⟩)
end Go.Proofs.YtiimccogojkldaaGreatDoor

/- Sorting rows by names: pure, and the worlds of the sort. -/
namespace Go.Hw
open Go.RowKit Go.Sort Go.Proofs Tm
set_option linter.unusedVariables false
set_option linter.unusedSimpArgs false
theorem cmpBytes_eq : ∀ a b : List UInt8, Go.Lib.compareBytes a b = if a < b then -1 else if b < a then 1 else 0
  | [], [] => by simp [Go.Lib.compareBytes]
  | [], _ :: _ => by simp [Go.Lib.compareBytes]
  | _ :: _, [] => by simp [Go.Lib.compareBytes]
  | a :: al, b :: bl => by
    have ih := cmpBytes_eq al bl
    unfold Go.Lib.compareBytes
    rw [ih]
    have e1 : (a :: al < b :: bl) ↔ (a < b ∨ a = b ∧ al < bl) := List.cons_lt_cons_iff
    have e2 : (b :: bl < a :: al) ↔ (b < a ∨ b = a ∧ bl < al) := List.cons_lt_cons_iff
    simp only [e1, e2]
    by_cases h1 : a < b
    · rw [if_pos h1, if_pos (.inl h1)]
    · rw [if_neg h1]
      by_cases h2 : b < a
      · rw [if_pos h2]
        have hne : ¬ a = b := fun e => h1 (by rw [e] at h2 ⊢; exact h2)
        rw [if_neg (fun h => h.elim h1 (fun h => hne h.1)), if_pos (.inl h2)]
      · rw [if_neg h2]
        have he : a = b := by
          rcases Nat.lt_trichotomy a.toNat b.toNat with h | h | h
          · exact absurd h h1
          · exact UInt8.toNat_inj.1 h
          · exact absurd h h2
        subst he
        by_cases h3 : al < bl
        · simp [h1, h3]
        · by_cases h4 : bl < al
          · simp [h1, h3, h4]
          · simp [h1, h3, h4]
theorem cmpS_eq (a b : By) : Go.Lib.compareBytes a.data.toList b.data.toList = bcmp a b := by
  rw [cmpBytes_eq]
  unfold bcmp blt
  simp only [decide_eq_true_eq]
theorem cmpS_lt (a b : By) : decide (Go.Lib.compareBytes a.data.toList b.data.toList < 0) = blt a b := by
  rw [cmpS_eq]
  unfold bcmp
  cases h : blt a b with
  | true => rfl
  | false =>
    rw [if_neg (by simp)]
    split <;> rfl
/-- ascending by a key -/
def AscK {β : Type} (key : β → By) (l : List β) : Prop := l.Pairwise fun p q => blt (key p) (key q) = true
theorem asc_uniq {β : Type} (key : β → By) : ∀ {l m : List β}, AscK key l → AscK key m → (∀ f, f ∈ l ↔ f ∈ m) → l = m
  | [], [], _, _, _ => rfl
  | [], y :: m, _, _, h => absurd ((h y).2 (List.mem_cons_self ..)) (by simp)
  | x :: l, [], _, _, h => absurd ((h x).1 (List.mem_cons_self ..)) (by simp)
  | x :: l, y :: m, hl, hm, h => by
    obtain ⟨l1, l2⟩ := List.pairwise_cons.1 hl
    obtain ⟨m1, m2⟩ := List.pairwise_cons.1 hm
    have hxy : x = y := by
      rcases List.mem_cons.1 ((h x).1 (List.mem_cons_self ..)) with e | e
      · exact e
      · rcases List.mem_cons.1 ((h y).2 (List.mem_cons_self ..)) with e2 | e2
        · exact e2.symm
        · have h3 := blt_trans (m1 x e) (l1 y e2)
          rw [blt_irrefl] at h3; cases h3
    subst hxy
    congr 1
    refine asc_uniq key l2 m2 (fun f => ⟨fun hf => ?_, fun hf => ?_⟩)
    · rcases List.mem_cons.1 ((h f).1 (List.mem_cons_of_mem _ hf)) with e | e
      · subst e
        have := l1 f hf
        rw [blt_irrefl] at this; cases this
      · exact e
    · rcases List.mem_cons.1 ((h f).2 (List.mem_cons_of_mem _ hf)) with e | e
      · subst e
        have := m1 f hf
        rw [blt_irrefl] at this; cases this
      · exact e
section
variable {β : Type} [Inhabited β] (key : β → By)
/-- the comparison by names -/
def cfN (x y : β) : Int := Go.Lib.compareBytes (key x).data.toList (key y).data.toList
omit [Inhabited β] in
theorem ltOf_cfN (x y : β) : ltOf (cfN key) x y = blt (key x) (key y) := cmpS_lt _ _
omit [Inhabited β] in
theorem swo_cfN : SWO (ltOf (cfN key)) where
  irrefl x := by rw [ltOf_cfN, blt_irrefl]
  trans x y z h1 h2 := by rw [ltOf_cfN] at *; exact blt_trans h1 h2
  ntrans x y z h1 h2 := by
    rw [ltOf_cfN] at *
    cases h : blt (key x) (key z) with
    | false => rfl
    | true =>
      by_cases e : key x = key y
      · rw [e, h2] at h; cases h
      · rcases blt_tri _ _ e with h3 | h3
        · rw [h1] at h3; cases h3
        · have := blt_trans h3 h
          rw [h2] at this; cases this
theorem sort_asc {d d' : Array β} (hp : PermIn 0 d.size d d') (hs : SortedIn (ltOf (cfN key)) 0 d.size d') (hd : d.toList.Pairwise fun x y => key x ≠ key y) : AscK key d'.toList ∧ d'.toList.Perm d.toList := by
  obtain ⟨hsz, _, hperm⟩ := hp
  have e1 : d'.extract 0 d.size = d' := by rw [← hsz]; exact Array.extract_size
  rw [e1, Array.extract_size] at hperm
  refine ⟨?_, hperm⟩
  have hd' : d'.toList.Pairwise fun x y => key x ≠ key y := hperm.symm.pairwise hd (fun {x y} h e => h e.symm)
  unfold AscK
  rw [List.pairwise_iff_getElem] at hd' ⊢
  intro i j hi hj hij
  have h1 := hd' i j hi hj hij
  have hi' : i < d'.size := by simpa using hi
  have hj' : j < d'.size := by simpa using hj
  have h2 := hs i j (Nat.zero_le _) hij (by omega)
  rw [ltOf_cfN, getElem!_pos d' j hj', getElem!_pos d' i hi'] at h2
  rw [Array.getElem_toList, Array.getElem_toList] at h1 ⊢
  rcases blt_tri _ _ h1 with h3 | h3
  · exact h3
  · rw [h2] at h3; cases h3
theorem flat_get (enc : β → List Value) (k : Nat) (hk : ∀ x, (enc x).length = k) : ∀ (L : List β) (j : Nat), j < L.length * k → (L.flatMap enc)[j]? = some ((enc (L.getD (j / k) default))[j % k]!)
  | [], j, h => by simp at h
  | a :: L, j, h => by
    have hk0 : 0 < k := by
      rcases Nat.eq_zero_or_pos k with h0 | h0
      · rw [h0] at h; simp at h
      · exact h0
    rw [List.flatMap_cons]
    rcases Nat.lt_or_ge j k with hlt | hge
    · rw [List.getElem?_append_left (by rw [hk]; exact hlt), Nat.div_eq_of_lt hlt, Nat.mod_eq_of_lt hlt]
      have hl : j < (enc a).length := by rw [hk]; exact hlt
      rw [List.getElem?_eq_getElem hl]
      show _ = some ((enc a)[j]!)
      rw [getElem!_pos (enc a) j hl]
    · rw [List.getElem?_append_right (by rw [hk]; exact hge), hk]
      have h1 : j - k < L.length * k := by
        simp only [List.length_cons, Nat.add_mul, Nat.one_mul] at h
        omega
      rw [flat_get enc k hk L (j - k) h1]
      have e1 : j / k = (j - k) / k + 1 := by
        rw [Nat.div_eq j k, if_pos ⟨hk0, hge⟩]
      have e2 : j % k = (j - k) % k := by rw [Nat.mod_eq j k, if_pos ⟨hk0, hge⟩]
      rw [e1, e2]
      rfl
theorem holdsK_of (enc : β → List Value) (k : Nat) (hk : ∀ x, (enc x).length = k) {w : World} {b off : Nat} {L : List β} (h : ∀ j, j < L.length * k → w.cell? ⟨b, off + j, none⟩ = (L.flatMap enc)[j]? ∧ w.frozen? ⟨b, off + j, none⟩ = false) : HoldsK enc k w b off L.toArray := by
  intro j hj
  have hj2 : j < L.length * k := by simpa using hj
  obtain ⟨h1, h2⟩ := h j hj2
  refine ⟨?_, h2⟩
  rw [h1, flat_get enc k hk L j hj2, get_flatK _ _ _ _ (by simpa using hj2)]
  congr 1
  have hk0 : 0 < k := by
    rcases Nat.eq_zero_or_pos k with h0 | h0
    · rw [h0] at hj2; simp at hj2
    · exact h0
  have hq : j / k < L.length := Nat.div_lt_of_lt_mul (by rw [Nat.mul_comm]; exact hj2)
  show _ = (enc (L.toArray[j / k]!))[j % k]!
  rw [getElem!_pos L.toArray (j / k) (by simpa using hq)]
  rw [List.getD_eq_getElem?_getD, List.getElem?_eq_getElem hq]
  rfl
theorem cells_holdsK (enc : β → List Value) (k : Nat) (hk : ∀ x, (enc x).length = k) {w : World} {b off : Nat} {d : Array β} (h : HoldsK enc k w b off d) (j : Nat) (hj : j < d.size * k) : w.cell? ⟨b, off + j, none⟩ = (d.toList.flatMap enc)[j]? ∧ w.frozen? ⟨b, off + j, none⟩ = false := by
  obtain ⟨h1, h2⟩ := h j (by simpa using hj)
  refine ⟨?_, h2⟩
  rw [flat_get enc k hk d.toList j (by simpa using hj)]
  rw [h1, get_flatK _ _ _ _ hj]
  have hk0 : 0 < k := by
    rcases Nat.eq_zero_or_pos k with h0 | h0
    · rw [h0] at hj; simp at hj
    · exact h0
  have hq : j / k < d.size := Nat.div_lt_of_lt_mul (by rw [Nat.mul_comm]; exact hj)
  show some (enc d[j / k]!)[j % k]! = _
  rw [getElem!_pos d (j / k) hq, List.getD_eq_getElem?_getD, List.getElem?_eq_getElem (by simpa using hq)]
  rfl
theorem upd_sortK (enc : β → List Value) (k : Nat) (w : World) (blk off n : Nat) (d : Array β) (os : Array Obj) : Upd (fun j => j = blk) w (sortWorldK enc k w blk off n d os) := by
  unfold sortWorldK
  refine ⟨rfl, rfl, rfl, ?_, fun j hj hf => ?_⟩
  · show w.heap.size ≤ ((putRowK enc k (Sort.ahead w n) blk off d).heap ++ os).size
    rw [Array.size_append, size_putRowK]
    exact Nat.le_add_right _ _
  · show ((putRowK enc k (Sort.ahead w n) blk off d).heap ++ os)[j]? = _
    rw [Array.getElem?_append_left (by rw [size_putRowK]; exact hj)]
    show ((Sort.ahead w n).heap.modify blk _)[j]? = _
    rw [Array.getElem?_modify, if_neg (fun e => hf e.symm)]
    rfl
end
end Go.Hw
