/- The texts I41 I42 I43 I44 I45, one behind the other. -/
import Derived.Test.YtiimccogojkldaaGreatDoorZG
import Derived.Test.YtiimccogojkldaaGreatDoorZB
/- first of the rules. -/
namespace Go.Proofs.YtiimccogojkldaaGreatDoor
open Go.RowKit Go.Hw Go
set_option linter.unusedVariables false
set_option linter.unusedSimpArgs false

open Tm
set_option maxRecDepth 100000 in
set_option maxHeartbeats 2000000 in
theorem idxR80_x (c1 : Value) (p : Rl → Bool) (J : Nat → World → Prop) (hJ : ∀ k W W', J k W → Ext W W' → J k W') (L : List Rl) (v : Value) (S : Nat → Prop) (w : World) (hw : J 0 w) (hl : L.length ≤ 1000000)
    (hR : ∀ k W, J k W → RuR S W L v) (hf : ∀ k, k < L.length → ∀ xa xc ya yc W, J k W → TlR S W (rg L k).1.kids (.slice xa (rg L k).1.kids.length xc) → TlR S W (rg L k).2.kids (.slice ya (rg L k).2.kids.length yc) → Calls Tryz.prog 80 #[.agg #[.string (rg L k).1.name, .string (rg L k).1.sort, .slice xa (rg L k).1.kids.length xc, .string (rg L k).2.name, .string (rg L k).2.sort, .slice ya (rg L k).2.kids.length yc], c1] W fun e W' => e = .returned (.bool (p (rg L k))) ∧ J (k + 1) W') :
    Calls Tryz.prog 45 #[v, .func (.func 80) #[] #[c1]] w fun e w' => e = .returned (.int .i64 (if L.findIdx p < L.length then (L.findIdx p : Int) else -1)) ∧ ∃ k, k ≤ L.length ∧ J k w' := by
  obtain ⟨a, cap, rfl⟩ := (hR 0 w hw).shape
  have HW := Lib.hid hw
  have HR := Lib.hid hR
  have HF := Lib.hid hf
  obtain ⟨X, hX⟩ : ∃ X : Int, (if L.findIdx p < L.length then (L.findIdx p : Int) else -1) = X := ⟨_, rfl⟩
  rw [hX]
  have HX := Lib.hid hX
  clear hw hR hf hJ hX
  go_enter Tryz.func45, Tryz.ntmps45
  go_wp2_with fail
  go_loopg [8] L.length (fun gk iv wr => ∃ k : Nat, iv = .int .i64 (k : Int) ∧ gk = L.length - k ∧ k ≤ L.length ∧ Hid (J k wr) ∧ Hid (∀ j, j < k → p (rg L j) = false))
  case atStart => exact ⟨0, rfl, rfl, Nat.zero_le _, HW, Lib.hid (fun j h => absurd h (Nat.not_lt_zero _))⟩
  case round =>
    obtain ⟨k, rfl, rfl, hk, HK, HM⟩ := hrel
    have hgt : ∀ j, (h : j < L.length) → rg L j = L[j] := fun j h => by unfold rg; rw [List.getD_eq_getElem?_getD, List.getElem?_eq_getElem h]; rfl
    by_cases hlt : k < L.length
    · obtain ⟨g, off, hga, _, hat⟩ := (HR.out k wr HK.out).at_ (by omega)
      subst hga
      obtain ⟨xa, xc, ya, yc, q0, q1, q2, q3, q4, q5, hx, hy⟩ := hat k hlt
      have z0 : (0 : Int) ≤ (k : Int) := by omega
      have z1 : (k : Int) < (L.length : Int) := by omega
      have z2 : decide ((k : Int) < (L.length : Int)) = true := decide_eq_true z1
      have z2' : decide (k < L.length) = true := decide_eq_true hlt
      have HFX := Lib.hid (HF.out k hlt _ _ _ _ wr HK.out hx hy)
      have HN : Hid (p (rg L k) = false → ∀ j, j < k + 1 → p (rg L j) = false) := Lib.hid (fun h j hj => by
        rcases Nat.lt_succ_iff_lt_or_eq.1 hj with h5 | h5
        · exact HM.out j h5
        · rw [h5]; exact h)
      have HY : Hid (p (rg L k) = true → L.findIdx p = k) := Lib.hid (fun h => by
        rcases Nat.lt_trichotomy (L.findIdx p) k with e | e | e
        · have h1 : L.findIdx p < L.length := by omega
          have h2 := List.findIdx_getElem (w := h1)
          rw [← hgt _ h1, HM.out _ e] at h2; cases h2
        · exact e
        · have h2 := List.not_of_lt_findIdx e
          rw [← hgt _ hlt] at h2
          rw [h2] at h; cases h)
      obtain ⟨⟨x, y⟩, hxy⟩ : ∃ r, rg L k = r := ⟨_, rfl⟩
      rw [hxy] at q0 q1 q2 q3 q4 q5 HFX HN HY
      dsimp only at q0 q1 q2 q3 q4 q5 HFX HN HY
      obtain ⟨b, hb⟩ : ∃ b, p (x, y) = b := ⟨_, rfl⟩
      rw [hb] at HFX HN HY
      clear hat hx hy hxy hb HM hgt
      go_wp2_with fail
      refine HFX.out.mono ?_
      rintro e w4 ⟨rfl, hw4⟩
      have H4 := Lib.hid hw4
      clear hw4 q0 q1 q2 q3 q4 q5 HFX HK
      cases b
      · have HN2 := Lib.hid (HN.out rfl)
        clear HN HY
        go_wp2_with fail
        go_roundg (L.length - (k + 1))
        case measure => omega
        case rel => exact ⟨k + 1, by go_num, rfl, by omega, H4, HN2⟩
      · have HY2 := Lib.hid (HY.out rfl)
        clear HN HY
        go_wp2_with fail
        go_ret
        exact ⟨by rw [← HX.out, HY2.out, if_pos hlt]; rfl, k + 1, by omega, H4.out⟩
    · obtain rfl : k = L.length := by omega
      have z2 : decide ((L.length : Int) < (L.length : Int)) = false := decide_eq_false (by omega)
      have HV : Hid (¬ L.findIdx p < L.length) := Lib.hid (fun h => by
        have h2 := List.findIdx_getElem (w := h)
        rw [← hgt _ h, HM.out _ h] at h2; cases h2)
      clear hgt
      go_wp2_with fail
      go_ret
      exact ⟨by rw [← HX.out, if_neg HV.out]; rfl, L.length, Nat.le_refl _, HK.out⟩
set_option maxRecDepth 100000 in
set_option maxHeartbeats 2000000 in
theorem idxR15_x (p : Rl → Bool) (J : Nat → World → Prop) (hJ : ∀ k W W', J k W → Ext W W' → J k W') (L : List Rl) (v : Value) (S : Nat → Prop) (w : World) (hw : J 0 w) (hl : L.length ≤ 1000000)
    (hR : ∀ k W, J k W → RuR S W L v) (hf : ∀ k, k < L.length → ∀ xa xc ya yc W, J k W → TlR S W (rg L k).1.kids (.slice xa (rg L k).1.kids.length xc) → TlR S W (rg L k).2.kids (.slice ya (rg L k).2.kids.length yc) → Calls Tryz.prog 15 #[.agg #[.string (rg L k).1.name, .string (rg L k).1.sort, .slice xa (rg L k).1.kids.length xc, .string (rg L k).2.name, .string (rg L k).2.sort, .slice ya (rg L k).2.kids.length yc]] W fun e W' => e = .returned (.bool (p (rg L k))) ∧ J (k + 1) W') :
    Calls Tryz.prog 45 #[v, .func (.func 15) #[] #[]] w fun e w' => e = .returned (.int .i64 (if L.findIdx p < L.length then (L.findIdx p : Int) else -1)) ∧ ∃ k, k ≤ L.length ∧ J k w' := by
  obtain ⟨a, cap, rfl⟩ := (hR 0 w hw).shape
  have HW := Lib.hid hw
  have HR := Lib.hid hR
  have HF := Lib.hid hf
  obtain ⟨X, hX⟩ : ∃ X : Int, (if L.findIdx p < L.length then (L.findIdx p : Int) else -1) = X := ⟨_, rfl⟩
  rw [hX]
  have HX := Lib.hid hX
  clear hw hR hf hJ hX
  go_enter Tryz.func45, Tryz.ntmps45
  go_wp2_with fail
  go_loopg [8] L.length (fun gk iv wr => ∃ k : Nat, iv = .int .i64 (k : Int) ∧ gk = L.length - k ∧ k ≤ L.length ∧ Hid (J k wr) ∧ Hid (∀ j, j < k → p (rg L j) = false))
  case atStart => exact ⟨0, rfl, rfl, Nat.zero_le _, HW, Lib.hid (fun j h => absurd h (Nat.not_lt_zero _))⟩
  case round =>
    obtain ⟨k, rfl, rfl, hk, HK, HM⟩ := hrel
    have hgt : ∀ j, (h : j < L.length) → rg L j = L[j] := fun j h => by unfold rg; rw [List.getD_eq_getElem?_getD, List.getElem?_eq_getElem h]; rfl
    by_cases hlt : k < L.length
    · obtain ⟨g, off, hga, _, hat⟩ := (HR.out k wr HK.out).at_ (by omega)
      subst hga
      obtain ⟨xa, xc, ya, yc, q0, q1, q2, q3, q4, q5, hx, hy⟩ := hat k hlt
      have z0 : (0 : Int) ≤ (k : Int) := by omega
      have z1 : (k : Int) < (L.length : Int) := by omega
      have z2 : decide ((k : Int) < (L.length : Int)) = true := decide_eq_true z1
      have z2' : decide (k < L.length) = true := decide_eq_true hlt
      have HFX := Lib.hid (HF.out k hlt _ _ _ _ wr HK.out hx hy)
      have HN : Hid (p (rg L k) = false → ∀ j, j < k + 1 → p (rg L j) = false) := Lib.hid (fun h j hj => by
        rcases Nat.lt_succ_iff_lt_or_eq.1 hj with h5 | h5
        · exact HM.out j h5
        · rw [h5]; exact h)
      have HY : Hid (p (rg L k) = true → L.findIdx p = k) := Lib.hid (fun h => by
        rcases Nat.lt_trichotomy (L.findIdx p) k with e | e | e
        · have h1 : L.findIdx p < L.length := by omega
          have h2 := List.findIdx_getElem (w := h1)
          rw [← hgt _ h1, HM.out _ e] at h2; cases h2
        · exact e
        · have h2 := List.not_of_lt_findIdx e
          rw [← hgt _ hlt] at h2
          rw [h2] at h; cases h)
      obtain ⟨⟨x, y⟩, hxy⟩ : ∃ r, rg L k = r := ⟨_, rfl⟩
      rw [hxy] at q0 q1 q2 q3 q4 q5 HFX HN HY
      dsimp only at q0 q1 q2 q3 q4 q5 HFX HN HY
      obtain ⟨b, hb⟩ : ∃ b, p (x, y) = b := ⟨_, rfl⟩
      rw [hb] at HFX HN HY
      clear hat hx hy hxy hb HM hgt
      go_wp2_with fail
      refine HFX.out.mono ?_
      rintro e w4 ⟨rfl, hw4⟩
      have H4 := Lib.hid hw4
      clear hw4 q0 q1 q2 q3 q4 q5 HFX HK
      cases b
      · have HN2 := Lib.hid (HN.out rfl)
        clear HN HY
        go_wp2_with fail
        go_roundg (L.length - (k + 1))
        case measure => omega
        case rel => exact ⟨k + 1, by go_num, rfl, by omega, H4, HN2⟩
      · have HY2 := Lib.hid (HY.out rfl)
        clear HN HY
        go_wp2_with fail
        go_ret
        exact ⟨by rw [← HX.out, HY2.out, if_pos hlt]; rfl, k + 1, by omega, H4.out⟩
    · obtain rfl : k = L.length := by omega
      have z2 : decide ((L.length : Int) < (L.length : Int)) = false := decide_eq_false (by omega)
      have HV : Hid (¬ L.findIdx p < L.length) := Lib.hid (fun h => by
        have h2 := List.findIdx_getElem (w := h)
        rw [← hgt _ h, HM.out _ h] at h2; cases h2)
      clear hgt
      go_wp2_with fail
      go_ret
      exact ⟨by rw [← HX.out, if_neg HV.out]; rfl, L.length, Nat.le_refl _, HK.out⟩
set_option maxRecDepth 100000 in
set_option maxHeartbeats 2000000 in
theorem conR15_x (p : Rl → Bool) (J : Nat → World → Prop) (hJ : ∀ k W W', J k W → Ext W W' → J k W') (L : List Rl) (v : Value) (S : Nat → Prop) (w : World) (hw : J 0 w) (hl : L.length ≤ 1000000)
    (hR : ∀ k W, J k W → RuR S W L v) (hf : ∀ k, k < L.length → ∀ xa xc ya yc W, J k W → TlR S W (rg L k).1.kids (.slice xa (rg L k).1.kids.length xc) → TlR S W (rg L k).2.kids (.slice ya (rg L k).2.kids.length yc) → Calls Tryz.prog 15 #[.agg #[.string (rg L k).1.name, .string (rg L k).1.sort, .slice xa (rg L k).1.kids.length xc, .string (rg L k).2.name, .string (rg L k).2.sort, .slice ya (rg L k).2.kids.length yc]] W fun e W' => e = .returned (.bool (p (rg L k))) ∧ J (k + 1) W') :
    Calls Tryz.prog 14 #[v, .func (.func 15) #[] #[]] w fun e w' => e = .returned (.bool (L.any p)) ∧ ∃ k, k ≤ L.length ∧ J k w' := by
  have HI := Lib.hid (idxR15_x  p J hJ L v S w hw hl hR hf)
  have HV : Hid (decide (L.findIdx p < L.length) = L.any p) := Lib.hid (by rw [Bool.eq_iff_iff, decide_eq_true_eq, List.findIdx_lt_length, List.any_eq_true])
  clear hw hR hf hJ
  by_cases h : L.findIdx p < L.length
  · have hv : L.any p = true := by rw [← HV.out]; exact decide_eq_true h
    rw [hv]
    rw [if_pos h] at HI
    have z0 : (0 : Int) ≤ ((L.findIdx p : Nat) : Int) := by omega
    generalize L.findIdx p = X at *
    clear h hv
    go_enter Tryz.func14, Tryz.ntmps14
    go_wp2_with fail
    refine HI.out.mono ?_
    rintro e w4 ⟨rfl, k, hk, hw4⟩
    have H4 := Lib.hid hw4
    clear hw4
    go_wp2_with fail
    go_ret
    exact ⟨by first | rfl | simp, k, hk, H4.out⟩
  · have hv : L.any p = false := by rw [← HV.out]; exact decide_eq_false h
    rw [hv]
    rw [if_neg h] at HI
    clear h hv HV
    go_enter Tryz.func14, Tryz.ntmps14
    go_wp2_with fail
    refine HI.out.mono ?_
    rintro e w4 ⟨rfl, k, hk, hw4⟩
    have H4 := Lib.hid hw4
    clear hw4
    go_wp2_with fail
    go_ret
    exact ⟨by first | rfl | simp, k, hk, H4.out⟩
set_option maxRecDepth 100000 in
set_option maxHeartbeats 2000000 in
theorem clo80_x (x y : Tm) (xa ya : Option Addr) (xc yc b c2 : Nat) (G : Bool) (Q : World → Prop) (w : World) (h2 : w.heap[c2]? = some (.cells #[.pointer (some ⟨b, 0, none⟩)] 81 (0, 0)))
    (hg : ∀ W, Ext w W → Calls Tryz.prog 43 #[.pointer (some ⟨b, 0, none⟩), .agg #[.string x.name, .string x.sort, .slice xa x.kids.length xc], .agg #[.string y.name, .string y.sort, .slice ya y.kids.length yc]] W fun e W' => e = .returned (.bool G) ∧ Q W') :
    Calls Tryz.prog 80 #[.agg #[.string x.name, .string x.sort, .slice xa x.kids.length xc, .string y.name, .string y.sort, .slice ya y.kids.length yc], .pointer (some ⟨c2, 0, none⟩)] w fun e w' => e = .returned (.bool (!G)) ∧ Q w' := by
  have HG := Lib.hid hg
  have HZ : Hid (Ext w (w.alloc (.cells #[.string x.name, .string x.sort, .slice xa x.kids.length xc, .string y.name, .string y.sort, .slice ya y.kids.length yc] 38))) := Lib.hid ((Upd.refl (fun _ => False) w).alloc _)
  have hb := alloc0 w (.cells #[.string x.name, .string x.sort, .slice xa x.kids.length xc, .string y.name, .string y.sort, .slice ya y.kids.length yc] 38)
  have q2 := cellRow (HZ.out.heap h2 (fun h => h)) 0 (.pointer (some ⟨b, 0, none⟩)) rfl
  have r0 := cellRow hb 0 (.string x.name) rfl
  have r1 := cellRow hb 1 (.string x.sort) rfl
  have r2 := cellRow hb 2 (.slice xa x.kids.length xc) rfl
  have r3 := cellRow hb 3 (.string y.name) rfl
  have r4 := cellRow hb 4 (.string y.sort) rfl
  have r5 := cellRow hb 5 (.slice ya y.kids.length yc) rfl
  clear hg h2 hb
  go_enter Tryz.func80, Tryz.ntmps80
  go_wp2_with fail
  refine (HG.out _ HZ.out).mono ?_
  rintro e w4 ⟨rfl, hw4⟩
  have H4 := Lib.hid hw4
  clear hw4 q2 r0 r1 r2 r3 r4 r5
  go_wp2_with fail
  go_ret
  exact ⟨rfl, H4.out⟩
theorem flR_sizes (L : List Rl) (k : Nat) (h : k < L.length) : sizes (flR (L.take (k + 1))) = sizes (flR (L.take k)) + (rg L k).1.size + (rg L k).2.size := by
  rw [rg_snoc L k h, flR_append, sizes_append]
  show _ + (_ + (_ + 0)) = _
  omega
theorem flR_sizes_le (L : List Rl) (k : Nat) : sizes (flR (L.take k)) ≤ sizes (flR L) := by
  have : sizes (flR L) = sizes (flR (L.take k)) + sizes (flR (L.drop k)) := by rw [← sizes_append, ← flR_append, List.take_append_drop]
  omega
/-- what first answers -/
def firstI (ops : List By) (L : List Rl) : Int := if firstP ops L < L.length then (firstP ops L : Int) else -1
theorem firstI_neg (ops : List By) (L : List Rl) : decide (firstI ops L < 0) = allDec ops L := by
  have h := firstP_all ops L
  unfold firstI
  by_cases h1 : firstP ops L < L.length
  · rw [if_pos h1, decide_eq_false (by omega)]
    rw [decide_eq_true h1] at h
    cases h2 : allDec ops L
    · rfl
    · rw [h2] at h; cases h
  · rw [if_neg h1, decide_eq_true (by omega)]
    rw [decide_eq_false h1] at h
    cases h2 : allDec ops L
    · rw [h2] at h; cases h
    · rfl
set_option maxRecDepth 100000 in
set_option maxHeartbeats 2000000 in
theorem first_x (ops : List By) (base b : Nat) (L : List Rl) (v : Value) (B T : Nat → Prop) (w : World) (hO : OrdR 144 114 ops (fun _ => False) B base w b []) (hR : RuR T w L v) (hT : ∀ k, T k → k < base) (hb : base ≤ w.heap.size) (hl : L.length ≤ 1000000) (hsz : sizes (flR L) ≤ 100000)
    (hn : ∀ t ∈ flR L, ∀ x ∈ sbts t, OkN ops x) (hpow : ∀ W, Upd (fun j => base ≤ j) w W → Lib.TabIs Tryz.prog W "internal/strconv.uint64pow10" .u64 Lib.pow10Tab) :
    Calls Tryz.prog 47 #[.pointer (some ⟨b, 0, none⟩), v] w fun e w' => e = .returned (.int .i64 (firstI ops L)) ∧ Upd B w w' := by
  obtain ⟨a, cap, rfl⟩ := hR.shape
  have HZ : Hid (Ext w (w.alloc (.cells #[.pointer (some ⟨b, 0, none⟩)] 81))) := Lib.hid ((Upd.refl (fun _ => False) w).alloc _)
  have HBX : Hid ((w.alloc (.cells #[.pointer (some ⟨b, 0, none⟩)] 81)).heap[w.heap.size]? = some (.cells #[.pointer (some ⟨b, 0, none⟩)] 81 (0, 0))) := Lib.hid (alloc0 w (.cells #[.pointer (some ⟨b, 0, none⟩)] 81))
  have hBl := fun j hj => ord_lt hO j hj
  have HC := Lib.hid (idxR80_x (.pointer (some ⟨w.heap.size, 0, none⟩)) (fun r => !decP ops r) (fun k W => ∃ N B', OrdR 144 114 ops (fun _ => False) B' base W b N ∧ Upd B (w.alloc (.cells #[.pointer (some ⟨b, 0, none⟩)] 81)) W ∧ (∀ j, B' j → B j ∨ (w.alloc (.cells #[.pointer (some ⟨b, 0, none⟩)] 81)).heap.size ≤ j) ∧ N.length ≤ sizes (flR (L.take k))) (fun k W W' ⟨N, B', h1, h2, h3, h4⟩ hE => ⟨N, B', h1.ext hE, h2.ext hE, h3, h4⟩) L (.slice a L.length cap) T (w.alloc (.cells #[.pointer (some ⟨b, 0, none⟩)] 81)) ⟨[], B, hO.ext HZ.out, Upd.refl _ _, fun j h => .inl h, Nat.zero_le _⟩ hl
    (fun k W ⟨N, B', h1, h2, h3, h4⟩ => (hR.ext HZ.out).kept h2 (fun j hj hx => by have h5 := hT j hj; have h6 := (hBl j hx).1; omega)) (fun k hk xa xc ya yc W ⟨N, B', h1, h2, h3, h4⟩ hx hy => by
      have hb1 : ¬ B w.heap.size := fun h => by have := (hBl _ h).2.1; omega
      refine clo80_x (rg L k).1 (rg L k).2 xa ya xc yc b w.heap.size (decP ops (rg L k)) _ W (h2.heap HBX.out hb1) (fun W2 hW2 => ?_)
      have hs1 := flR_sizes L k hk
      have hs2 := flR_sizes_le L (k + 1)
      have hWs : (w.alloc (.cells #[.pointer (some ⟨b, 0, none⟩)] 81)).heap.size ≤ W.heap.size := h2.size
      have hws : w.heap.size ≤ (w.alloc (.cells #[.pointer (some ⟨b, 0, none⟩)] 81)).heap.size := HZ.out.size
      have hW2s := hW2.size
      refine (ocomp_x ops base b N (rg L k).1 (rg L k).2 _ _ B' T W2 (h1.ext hW2) ⟨xa, xc, rfl, hx.ext hW2⟩ ⟨ya, yc, rfl, hy.ext hW2⟩ hT (by omega) (by omega) (hn _ (mem_flR.2 ⟨_, rg_mem hk, .inl rfl⟩)) (hn _ (mem_flR.2 ⟨_, rg_mem hk, .inr rfl⟩))
        (fun W3 h3' => hpow W3 ((((HZ.out.mono (fun _ _ x => x.elim)).trans (h2.mono (fun j _ hj => (hBl j hj).1))).ext hW2).trans h3'))).mono ?_
      rintro e W4 ⟨N', B'', k1, k2, k3, k4, k5⟩
      refine ⟨k1, N', B'', k2, (h2.ext hW2).trans' k3 (fun j hj h => (h3 j h).elim id (fun e => absurd hj (by omega))), fun j h => ?_, by omega⟩
      rcases k4 j h with h5 | h5
      · exact h3 j h5
      · exact .inr (by omega)))
  have hv : (if L.findIdx (fun r => !decP ops r) < L.length then (L.findIdx (fun r => !decP ops r) : Int) else -1) = firstI ops L := rfl
  rw [hv] at HC
  generalize firstI ops L = X at *
  clear hO hR hT hb hsz hn hpow hv
  go_enter Tryz.func47, Tryz.ntmps47
  go_wp2_with fail
  refine HC.out.mono ?_
  rintro e w4 ⟨rfl, k, hk, N, B', h1, h2, h3, h4⟩
  have H4 := Lib.hid h2
  clear h1 h2 h3 h4
  go_wp2_with fail
  go_ret
  exact ⟨rfl, (HZ.out.mono (fun _ _ x => x.elim)).trans H4.out⟩

end Go.Proofs.YtiimccogojkldaaGreatDoor

/- sides. -/
namespace Go.Proofs.YtiimccogojkldaaGreatDoor
open Go.RowKit Go.Hw Go
set_option linter.unusedVariables false
set_option linter.unusedSimpArgs false

open Tm
set_option maxRecDepth 100000 in
set_option maxHeartbeats 2000000 in
theorem sides_x (L : List Rl) (v : Value) (S : Nat → Prop) (w : World) (hR : RuR S w L v) (hS : ∀ k, S k → k < w.heap.size) (hl : L.length ≤ 100000) :
    Calls Tryz.prog 46 #[v] w fun e w' => ∃ r, e = .returned r ∧ TlR (fun k => k < w'.heap.size) w' (flR L) r ∧ Ext w w' := by
  obtain ⟨a, cap, rfl⟩ := hR.shape
  have HR := Lib.hid hR
  clear hR
  have HO0 : Hid (w.ownsRow w.heap.size 25 3 (.slice none 0 0) (2 * 0) (tCells (flR (L.take 0)) [])) := Lib.hid ⟨rfl, .inl ⟨rfl, rfl⟩⟩
  have HK0 : Hid (∀ i, i < 2 * 0 → TlR S w (tg (flR (L.take 0)) i).kids (ug [] i)) := Lib.hid (fun i h => absurd h (by omega))
  have HE0 : Hid (Ext w w) := Lib.hid (Upd.refl _ _)
  go_enter Tryz.func46, Tryz.ntmps46
  go_wp2_with fail
  go_loopg [3, 8] L.length (fun gk lv iv wr => ∃ (k : Nat) (us : List Value), iv = .int .i64 (k : Int) ∧ gk = L.length - k ∧ k ≤ L.length ∧ us.length = 2 * k ∧ Hid (wr.ownsRow w.heap.size 25 3 lv (2 * k) (tCells (flR (L.take k)) us)) ∧ Hid (∀ i, i < 2 * k → TlR S wr (tg (flR (L.take k)) i).kids (ug us i)) ∧ Hid (Ext w wr))
  case atStart => exact ⟨0, [], rfl, rfl, Nat.zero_le _, rfl, HO0, HK0, HE0⟩
  case round =>
    clear HO0 HK0 HE0
    obtain ⟨k, us, rfl, rfl, hk, hus, HOW, HKD, HE⟩ := hrel
    obtain ⟨la, lc, hlv⟩ := own_shape HOW.out
    subst hlv
    by_cases hlt : k < L.length
    · obtain ⟨g, off, hga, _, hat⟩ := (HR.out.ext HE.out).at_ (by omega)
      subst hga
      obtain ⟨xa, xc, ya, yc, q0, q1, q2, q3, q4, q5, hx, hy⟩ := hat k hlt
      have z0 : (0 : Int) ≤ (k : Int) := by omega
      have z1 : (k : Int) < (L.length : Int) := by omega
      have z2 : decide ((k : Int) < (L.length : Int)) = true := decide_eq_true z1
      have z2' : decide (k < L.length) = true := decide_eq_true hlt
      have HXY := Lib.hid (And.intro hx hy)
      have HSN := Lib.hid (rg_snoc L k hlt)
      obtain ⟨⟨x, y⟩, hxy⟩ : ∃ r, rg L k = r := ⟨_, rfl⟩
      rw [hxy] at q0 q1 q2 q3 q4 q5 HXY HSN
      dsimp only at q0 q1 q2 q3 q4 q5 HXY
      have hb := alloc0 wr (.cells #[.string x.name, .string x.sort, .slice xa x.kids.length xc, .string y.name, .string y.sort, .slice ya y.kids.length yc] 38)
      have r0 := cellRow hb 0 (.string x.name) rfl
      have r1 := cellRow hb 1 (.string x.sort) rfl
      have r2 := cellRow hb 2 (.slice xa x.kids.length xc) rfl
      have r3 := cellRow hb 3 (.string y.name) rfl
      have r4 := cellRow hb 4 (.string y.sort) rfl
      have r5 := cellRow hb 5 (.slice ya y.kids.length yc) rfl
      have HA : Hid (Ext wr (wr.alloc (.cells #[.string x.name, .string x.sort, .slice xa x.kids.length xc, .string y.name, .string y.sort, .slice ya y.kids.length yc] 38))) := Lib.hid ((Upd.refl (fun _ => False) wr).alloc _)
      have hs := HE.out.size
      have hfl : (flR (L.take k)).length = 2 * k := by rw [flR_len, List.length_take]; omega
      have HFL := Lib.hid hfl
      clear hat hx hy hxy hb hfl
      obtain ⟨iT, hi, hz0, hz1, hz2⟩ := info_parts infoT
      go_wp2_with (at_builtin; refine wpList_append_at _ rfl (.tmp 12) (.tmp 17) 23 rfl w.heap.size 25 iT (.agg #[.string ⟨#[]⟩, .string ⟨#[]⟩, .slice none 0 0]) 3 56 Tryz.underlying23 hi hz0 hz1 hz2 rfl (by decide) _ _ _ rfl ((own_kept HOW.out HA.out (fun _ _ h => h)).alloc _) _ 2 2 [.string x.name, .string x.sort, .slice xa x.kids.length xc, .string y.name, .string y.sort, .slice ya y.kids.length yc] rfl rfl ?d1 ?d2 ?d3 ?d4 ?d5 ?_)
      case d1 =>
        intro l u hl
        have hl6 : l < 6 := (List.getElem?_eq_some_iff.1 hl).1
        have : l = 0 ∨ l = 1 ∨ l = 2 ∨ l = 3 ∨ l = 4 ∨ l = 5 := by omega
        rcases this with rfl | rfl | rfl | rfl | rfl | rfl <;> (simp at hl; subst hl; simp only [Addr.add]; exact cellRow (alloc_at _ _ (by simp)) _ _ rfl)
      case d2 => intro u hu; simp at hu; rcases hu with h | h | h | h | h | h <;> (subst h; rfl)
      case d3 => unfold maxLen; omega
      case d4 => omega
      case d5 => simp; omega
      intro v8 w8 hG
      obtain ⟨a8, c8, rfl⟩ := own_shape hG.own
      have hlt := fun j hj => HOW.out.lt j hj
      have HU8 : Hid (Upd (fun j => (Value.slice la (2 * k) lc).ownBlock = some j) wr w8) := Lib.hid ((((Upd.refl _ wr).ext HA.out).alloc _).trans' hG.upd (fun _ _ e => e))
      have HE8 : Hid (Ext w w8) := Lib.hid (HE.out.trans' HU8.out (fun j hj e => by have := (hlt j e).1; omega))
      have hlen2 : (us ++ [Value.slice xa x.kids.length xc, Value.slice ya y.kids.length yc]).length = 2 * (k + 1) := by simp [hus]; omega
      have htk : flR (L.take (k + 1)) = flR (L.take k) ++ [x, y] := by rw [HSN.out, flR_append]; rfl
      have hO8 : w8.ownsRow w.heap.size 25 3 (.slice a8 (2 * k + 2) c8) (2 * (k + 1)) (tCells (flR (L.take (k + 1))) (us ++ [Value.slice xa x.kids.length xc, Value.slice ya y.kids.length yc])) := by
        rw [htk, show flR (L.take k) ++ [x, y] = (flR (L.take k) ++ [x]) ++ [y] by simp, show us ++ [Value.slice xa x.kids.length xc, Value.slice ya y.kids.length yc] = (us ++ [Value.slice xa x.kids.length xc]) ++ [Value.slice ya y.kids.length yc] by simp,
          tCells_snoc _ _ _ _ (by simp [hus, HFL.out]), tCells_snoc _ _ _ _ (by rw [hus, HFL.out]), List.append_assoc]
        exact hG.own
      have hK8 : ∀ i, i < 2 * (k + 1) → TlR S w8 (tg (flR (L.take (k + 1))) i).kids (ug (us ++ [Value.slice xa x.kids.length xc, Value.slice ya y.kids.length yc]) i) := fun i hi => by
        have hkp : ∀ j, S j → ¬ (Value.slice la (2 * k) lc).ownBlock = some j := fun j hj e => by have h1 := hS j hj; have h2 := (hlt j e).1; omega
        rw [htk]
        by_cases h1 : i < 2 * k
        · have e1 : tg (flR (L.take k) ++ [x, y]) i = tg (flR (L.take k)) i := by unfold tg; rw [List.getD_eq_getElem?_getD, List.getD_eq_getElem?_getD, List.getElem?_append_left (by rw [HFL.out]; exact h1)]
          have e2 : ug (us ++ [Value.slice xa x.kids.length xc, Value.slice ya y.kids.length yc]) i = ug us i := by unfold ug; rw [List.getD_eq_getElem?_getD, List.getD_eq_getElem?_getD, List.getElem?_append_left (by rw [hus]; exact h1)]
          rw [e1, e2]
          exact (HKD.out i h1).kept HU8.out hkp
        · have h2 : i = 2 * k ∨ i = 2 * k + 1 := by omega
          rcases h2 with rfl | rfl
          · have e1 : tg (flR (L.take k) ++ [x, y]) (2 * k) = x := by unfold tg; rw [List.getD_eq_getElem?_getD, List.getElem?_append_right (by rw [HFL.out]; omega), HFL.out, Nat.sub_self]; rfl
            have e2 : ug (us ++ [Value.slice xa x.kids.length xc, Value.slice ya y.kids.length yc]) (2 * k) = .slice xa x.kids.length xc := by unfold ug; rw [List.getD_eq_getElem?_getD, List.getElem?_append_right (by rw [hus]; omega), hus, Nat.sub_self]; rfl
            rw [e1, e2]
            exact HXY.out.1.kept HU8.out hkp
          · have e1 : tg (flR (L.take k) ++ [x, y]) (2 * k + 1) = y := by unfold tg; rw [List.getD_eq_getElem?_getD, List.getElem?_append_right (by rw [HFL.out]; omega), HFL.out, show 2 * k + 1 - 2 * k = 1 by omega]; rfl
            have e2 : ug (us ++ [Value.slice xa x.kids.length xc, Value.slice ya y.kids.length yc]) (2 * k + 1) = .slice ya y.kids.length yc := by unfold ug; rw [List.getD_eq_getElem?_getD, List.getElem?_append_right (by rw [hus]; omega), hus, show 2 * k + 1 - 2 * k = 1 by omega]; rfl
            rw [e1, e2]
            exact HXY.out.2.kept HU8.out hkp
      have HO8 := Lib.hid hO8
      have HK8 := Lib.hid hK8
      have HL8 := Lib.hid hlen2
      clear hO8 hK8 hlen2 htk hlt hG hi hz0 hz1 hz2 r0 r1 r2 r3 r4 r5 q0 q1 q2 q3 q4 q5
      go_wp2_with fail
      go_roundg (L.length - (k + 1))
      case measure => omega
      case rel => exact ⟨k + 1, _, by go_num, rfl, by omega, HL8.out, HO8, HK8, HE8⟩
    · obtain rfl : k = L.length := by omega
      have z2 : decide ((L.length : Int) < (L.length : Int)) = false := decide_eq_false (by omega)
      have HFIN : Hid (TlR (fun k => k < wr.heap.size) wr (flR L) (.slice la (2 * L.length) lc)) := Lib.hid (by
        have h1 := HOW.out
        have h2 := HKD.out
        rw [List.take_length] at h1 h2
        have h3 := flR_len L
        refine .mk _ us _ (by rw [hus, h3]) ?_ (fun i hi => (h2 i (by omega)).weaken (fun j hj => Nat.lt_of_lt_of_le (hS j hj) HE.out.size))
        rw [h3]
        exact (SlR.of_own h1).weaken (fun j hj => own_lt h1 j hj))
      go_wp2_with fail
      go_ret
      exact ⟨_, rfl, HFIN.out, HE.out⟩

end Go.Proofs.YtiimccogojkldaaGreatDoor

/- Clone and Delete. -/
namespace Go.Proofs.YtiimccogojkldaaGreatDoor
open Go.RowKit Go.Hw Go
set_option linter.unusedVariables false
set_option linter.unusedSimpArgs false

open Tm
theorem ext_below {w w' : World} (h : Below w.heap.size w w') : Ext w w' := ⟨h.os, h.tape, h.output, h.size, fun k hk _ => h.block k hk⟩
theorem clone_x (l : List By) (v : Value) (S : Nat → Prop) (w : World) (hR : StR S w v l) (hl : l.length ≤ 1000000) :
    Calls Tryz.prog 83 #[v] w fun e w' => ∃ r, e = .returned r ∧ w'.ownsRow w.heap.size 9 1 r l.length (l.map Value.string) ∧ Ext w w' := by
  obtain ⟨a, cap, rfl⟩ := SlR.shape hR
  by_cases h0 : 0 < l.length
  · obtain ⟨g, off, hga, _, hat⟩ := SlR.one_at (d := nul) hR h0
    subst hga
    refine (Tryz.slices_Clone_string g off l.length cap l w (Nat.le_refl _) (by omega) (fun j hj => hat j hj)).mono ?_
    rintro e w' ⟨v', rfl, h1, _, h2⟩
    rw [List.take_length] at h1
    exact ⟨v', rfl, h1, ext_below h2⟩
  · have hl0 : l = [] := List.eq_nil_of_length_eq_zero (by omega)
    subst hl0
    cases a with
    | none =>
      refine (Tryz.slices_Clone_string_nil 0 cap w).mono ?_
      rintro e w' ⟨rfl, rfl⟩
      exact ⟨_, rfl, ⟨rfl, .inl ⟨rfl, rfl⟩⟩, Upd.refl _ _⟩
    | some a =>
      refine (Tryz.slices_Clone_string_zero a cap w).mono ?_
      rintro e w' ⟨v', rfl, h1, _, h2⟩
      exact ⟨v', rfl, h1, ext_below h2⟩
theorem put_upd (w : World) (q blk off : Nat) (d : Array By) : Upd (fun k => k = blk) w (Sort.putRow Value.string (Sort.ahead w q) blk off d) := by
  refine ⟨rfl, rfl, rfl, ?_, fun k hk hf => ?_⟩
  · rw [Sort.size_putRow]; exact Nat.le_refl _
  · show ((Sort.ahead w q).heap.modify blk _)[k]? = _
    rw [Array.getElem?_modify, if_neg (fun e => hf e.symm)]
    rfl
theorem del_x (l : List By) (r : Value) (i : Nat) (base : Nat) (w : World) (hO : w.ownsRow base 9 1 r l.length (l.map Value.string)) (hi : i < l.length) (hl : l.length ≤ 1000000) :
    Calls Tryz.prog 84 #[r, natV i, .int .i64 ((i : Int) + 1)] w fun e w' => ∃ r', e = .returned r' ∧ StR (fun k => r.ownBlock = some k) w' r' (l.eraseIdx i) ∧ Upd (fun k => r.ownBlock = some k) w w' := by
  obtain ⟨g, cap, rfl, hb, hgl, hnc, hcell, hfz⟩ := ownAt hO (by omega)
  have hcm : cap ≤ 9223372036854775807 := by
    rcases hO.2 with ⟨h, _⟩ | ⟨g', cap', cur, h, _, _, _, hm, _⟩
    · cases h
    · injection h with h1 h2 h3
      subst h3
      unfold maxLen at hm
      omega
  obtain ⟨i0, hi0, hz0, hz1, hz2⟩ := info_parts infoS
  have hH : Sort.Holds Value.string w g 0 l.toArray := fun j hj => by
    have hj' : j < l.length := by simpa using hj
    refine ⟨?_, hfz _⟩
    rw [Nat.zero_add, hcell j (by omega), List.getElem?_map, List.getElem?_eq_getElem hj']
    simp [hj']
  have hel : l.eraseIdx i = l.take i ++ l.drop (i + 1) := List.eraseIdx_eq_take_drop_succ l i
  have hlen : (l.eraseIdx i).length = l.length - 1 := by rw [List.length_eraseIdx_of_lt hi]
  have h := Tryz.slices_Delete Value.string (fun _ => rfl) (⟨#[]⟩ : By) (fun w => Tryz.zeroValue9 w) i0 hi0 hz1 g 0 cap i (i + 1) l.toArray w hH (by simpa using hnc) hcm (by omega) (by simp; omega)
  simp only [List.size_toArray] at h
  rw [show (((i + 1 : Nat)) : Int) = (i : Int) + 1 by omega] at h
  refine h.mono ?_
  rintro e w' ⟨rfl, q, rfl⟩
  refine ⟨_, rfl, ?_, (put_upd w q g 0 _).mono (fun k _ e => by rw [e]; rfl)⟩
  rw [show i + 1 - i = 1 by omega]
  have hsz : (l.take i ++ l.drop (i + 1) ++ List.replicate 1 (⟨#[]⟩ : By)).toArray.size = l.toArray.size := by simp; omega
  unfold StR
  rw [hlen]
  refine SlR.mk' (by simp [hlen]) rfl (by omega) (fun _ => rfl) (fun j hj => ?_)
  have hj1 : j < l.length - 1 := by omega
  rw [Sort.cell?_putRow Value.string (Sort.ahead w q) g 0 l.toArray _ (fun j hj => hH j hj) hsz j (by rw [hsz]; simp; omega), List.getElem?_map, hel]
  have hja : j < (l.take i ++ l.drop (i + 1)).length := by rw [← hel, hlen]; exact hj1
  rw [List.getElem?_eq_getElem hja]
  simp only [Option.map_some, Option.some.injEq, Value.string.injEq]
  rw [getElem!_pos _ j (by rw [hsz]; simp; omega), List.getElem_toArray, List.getElem_append_left hja]

end Go.Proofs.YtiimccogojkldaaGreatDoor

/- search. -/
namespace Go.Proofs.YtiimccogojkldaaGreatDoor
open Go.RowKit Go.Hw Go
set_option linter.unusedVariables false
set_option linter.unusedSimpArgs false

open Tm
theorem fs_none {β : Type} (f : Nat → Option β) : ∀ (N : Nat), (∀ j, j < N → f j = none) → (List.range N).findSome? f = none
  | 0, _ => rfl
  | N + 1, h => by
    rw [List.range_succ, List.findSome?_append, fs_none f N (fun j hj => h j (by omega))]
    simp [h N (by omega)]
theorem fs_hit {β : Type} (f : Nat → Option β) (o : β) (k : Nat) (h : ∀ j, j < k → f j = none) (h2 : f k = some o) : ∀ (N : Nat), k < N → (List.range N).findSome? f = some o
  | 0, hk => absurd hk (Nat.not_lt_zero _)
  | N + 1, hk => by
    rw [List.range_succ, List.findSome?_append]
    by_cases e : k = N
    · subst e
      rw [fs_none f k h]
      simp [h2]
    · rw [fs_hit f o k h h2 N (by omega)]
      rfl
theorem step_perm (b rest : List By) (k : Nat) (hk : k < rest.length) : ((b ++ [rest.getD k nul]) ++ rest.eraseIdx k).Perm (b ++ rest) := by
  rw [List.append_assoc]
  refine List.Perm.append_left b ?_
  have : rest.getD k nul = rest[k] := by rw [List.getD_eq_getElem?_getD, List.getElem?_eq_getElem hk]; rfl
  rw [this]
  exact erase_perm rest k hk
theorem dif_perm {a b : List By} (h : a.Perm b) (hd : Dif b) : Dif a := (h.pairwise_iff (fun {x y} (e : x ≠ y) => e.symm)).2 hd
theorem okn_mem {a b : List By} {x : Tm} (h : ∀ s, s ∈ a → s ∈ b) (ho : OkN a x) : OkN b x := ⟨ho.1, ho.2.1, fun hs => h _ (ho.2.2.1 hs), ho.2.2.2⟩
set_option maxRecDepth 100000 in
set_option maxHeartbeats 2000000 in
theorem search_x (L : List Rl) (lv : Value) (w0 : World) (hR : RuR (fun k => k < w0.heap.size) w0 L lv) (hl : L.length ≤ 1000000) (hsz : sizes (flR L) ≤ 100000) (hpow : Lib.TabIs Tryz.prog w0 "internal/strconv.uint64pow10" .u64 Lib.pow10Tab) : ∀ (n : Nat) (b rest : List By) (bv rv : Value) (w : World), Ext w0 w → rest.length = n → b.length + n ≤ 1000 → Dif (b ++ rest) → (∀ t ∈ flR L, ∀ x ∈ sbts t, OkN (b ++ rest) x) → StR (fun k => k < w.heap.size) w bv b → StR (fun k => k < w.heap.size) w rv rest →
    Calls Tryz.prog 52 #[bv, rv, lv] w fun e w' => ∃ r, e = .returned (.tuple #[r, .bool (searchP L n b rest).isSome]) ∧ (∃ a len cap, r = .slice a len cap) ∧ (∀ out, searchP L n b rest = some out → StR (fun _ => True) w' r out) ∧ Ext w w'
  | 0, b, rest, bv, rv, w => fun hE hn hb hd hok hbv hrv => by
    have hr0 : rest = [] := List.eq_nil_of_length_eq_zero hn
    subst hr0
    obtain ⟨ba, bc, rfl⟩ := SlR.shape hbv
    obtain ⟨ra, rc, rfl⟩ := SlR.shape hrv
    obtain ⟨la, lc, rfl⟩ := hR.shape
    rw [List.append_nil] at hd hok
    have HNO := Lib.hid (newO_x b _ _ w.heap.size w hbv (fun k h => h) hd (Nat.le_refl _) (by omega))
    have HFI := Lib.hid (fun W bb B (hW : Ext w W) (ho : OrdR 144 114 b (fun _ => False) B w.heap.size W bb []) => first_x b w.heap.size bb L _ B (fun k => k < w0.heap.size) W ho ((hR.ext hE).ext hW) (fun k hk => Nat.lt_of_lt_of_le hk hE.size) hW.size hl hsz hok
      (fun W2 h2 => pow_upd hpow (((hE.mono (G := fun j => w.heap.size ≤ j) (fun _ _ x => x.elim)).ext hW).trans h2) (fun k hk h => by have := hE.size; omega)))
    have HV : Hid ((searchP L 0 b []).isSome = decide (firstI b L < 0)) := Lib.hid (by
      rw [firstI_neg]
      unfold searchP
      cases allDec b L <;> simp)
    have HV2 : Hid (∀ out, searchP L 0 b [] = some out → out = b) := Lib.hid (fun out h => by
      unfold searchP at h
      split at h
      · injection h with h; exact h.symm
      · cases h)
    have HBV := Lib.hid hbv
    rw [HV.out]
    obtain ⟨X, hX⟩ : ∃ X, firstI b L = X := ⟨_, rfl⟩
    rw [hX] at HFI ⊢
    obtain ⟨SP, hSP⟩ : ∃ o, searchP L 0 b [] = o := ⟨_, rfl⟩
    rw [hSP] at HV2 ⊢
    clear hX hSP HV hE hn hb hd hok hbv hrv hR hl hsz hpow
    go_enter Tryz.func52, Tryz.ntmps52
    go_wp2_with fail
    refine HNO.out.mono ?_
    rintro e w4 ⟨bb, B, rfl, ho4, hw4, hb4⟩
    have HF4 := Lib.hid (HFI.out w4 bb B hw4 ho4)
    have HE4 := Lib.hid (And.intro hw4 hb4)
    clear ho4 hw4 hb4 HNO HFI
    go_wp2_with fail
    refine HF4.out.mono ?_
    rintro e w5 ⟨rfl, hu5⟩
    have HE5 : Hid (Ext w w5) := Lib.hid (HE4.out.1.trans' hu5 (fun j hj h => by have := HE4.out.2 j h; omega))
    clear hu5
    go_wp2_with fail
    go_ret2
    exact ⟨_, rfl, ⟨_, _, _, rfl⟩, fun out h => by rw [HV2.out out h]; exact (SlR.kept HBV.out HE5.out (fun _ _ h => h)).weaken (fun _ _ => trivial), HE5.out⟩
  | n + 1, b, rest, bv, rv, w => fun hE hn hb hd hok hbv hrv => by
    obtain ⟨ba, bc, rfl⟩ := SlR.shape hbv
    obtain ⟨ra, rc, rfl⟩ := SlR.shape hrv
    have HIH := Lib.hid (search_x L lv w0 hR hl hsz hpow n)
    obtain ⟨la, lc, rfl⟩ := hR.shape
    have HE0 := Lib.hid hE
    have HD := Lib.hid hd
    have HOK := Lib.hid hok
    have HBV := Lib.hid hbv
    have HRV := Lib.hid hrv
    have HSP : Hid (searchP L (n + 1) b rest = (List.range (n + 1)).findSome? fun i => searchP L n (b ++ [rest.getD i nul]) (rest.eraseIdx i)) := Lib.hid (by rw [searchP])
    obtain ⟨SP, hSP⟩ : ∃ o, searchP L (n + 1) b rest = o := ⟨_, rfl⟩
    rw [hSP]
    have HSQ := Lib.hid hSP
    have hr1 : rest.length ≤ 1000 := by omega
    have t0 : ((rest.length : Int) == 0) = false := beq_eq_false_iff_ne.2 (by omega)
    have t1 : ¬ (rest.length : Int) = 0 := by omega
    have t2 : ¬ rest = [] := fun e => by rw [e] at hn; simp at hn
    have HN := Lib.hid hn
    clear hSP hE hd hok hbv hrv hR hl hsz hpow hn
    go_enter Tryz.func52, Tryz.ntmps52
    go_wp2_with fail
    clear t0 t1 t2
    go_loopg [24] rest.length (fun gk iv wr => ∃ k : Nat, iv = .int .i64 (k : Int) ∧ gk = rest.length - k ∧ k ≤ rest.length ∧ Hid (Ext w wr) ∧ Hid (∀ j, j < k → searchP L n (b ++ [rest.getD j nul]) (rest.eraseIdx j) = none))
    case atStart => exact ⟨0, rfl, rfl, Nat.zero_le _, Lib.hid (Upd.refl _ _), Lib.hid (fun j h => absurd h (Nat.not_lt_zero _))⟩
    case round =>
      obtain ⟨k, rfl, rfl, hk, HE, HM⟩ := hrel
      by_cases hlt : k < rest.length
      · obtain ⟨g, off, hga, _, hat⟩ := SlR.one_at (d := nul) (SlR.kept HRV.out HE.out (fun _ _ h => h)) (by omega)
        subst hga
        have q0 := hat k hlt
        have z0 : (0 : Int) ≤ (k : Int) := by omega
        have z1 : (k : Int) < (rest.length : Int) := by omega
        have z2 : decide ((k : Int) < (rest.length : Int)) = true := decide_eq_true z1
        have z2' : decide (k < rest.length) = true := decide_eq_true hlt
        have HPM := Lib.hid (step_perm b rest k hlt)
        have HLE : Hid ((rest.eraseIdx k).length = n) := Lib.hid (by rw [List.length_eraseIdx_of_lt hlt, HN.out]; rfl)
        have HNX : Hid (searchP L n (b ++ [rest.getD k nul]) (rest.eraseIdx k) = none → ∀ j, j < k + 1 → searchP L n (b ++ [rest.getD j nul]) (rest.eraseIdx j) = none) := Lib.hid (fun h j hj => by
          rcases Nat.lt_succ_iff_lt_or_eq.1 hj with h5 | h5
          · exact HM.out j h5
          · rw [h5]; exact h)
        have HHT : Hid (∀ o, searchP L n (b ++ [rest.getD k nul]) (rest.eraseIdx k) = some o → SP = some o) := Lib.hid (fun o h => by
          rw [← HSQ.out, HSP.out]
          exact fs_hit _ o k HM.out h (n + 1) (by rw [← HN.out]; exact hlt))
        obtain ⟨x, hx⟩ : ∃ x, rest.getD k nul = x := ⟨_, rfl⟩
        rw [hx] at q0 HPM HNX HHT
        have HC1 := Lib.hid (clone_x b _ (fun _ => True) wr ((SlR.kept HBV.out HE.out (fun _ _ h => h)).weaken (fun _ _ => trivial)) (by omega))
        clear hat hx
        go_wp2_with fail
        refine HC1.out.mono ?_
        rintro e w4 ⟨r4, rfl, hO4, hw4⟩
        have HO4 := Lib.hid hO4
        have HW4 := Lib.hid hw4
        obtain ⟨a4, c4, rfl⟩ := own_shape hO4
        have hs4 := hw4.size
        clear hO4 hw4 HC1
        obtain ⟨iS, hi, hz0, hz1, hz2⟩ := info_parts infoS
        go_wp2_with (at_builtin; refine wpList_append_at _ rfl (.tmp 30) (.tmp 32) 22 rfl wr.heap.size 9 iS (.string ⟨#[]⟩) 1 16 Tryz.underlying22 hi hz0 hz1 hz2 rfl (by decide) _ _ _ rfl (HO4.out.alloc _) _ 1 1 [.string x] rfl rfl ?c1 ?c2 ?c3 ?c4 ?c5 ?_)
        case c1 =>
          intro l u hl
          match l, hl with
          | 0, hl => simp only [List.getElem?_cons_zero, Option.some.injEq] at hl; subst hl; simp only [Addr.add]; exact cellRow (alloc_at _ _ (by simp)) 0 _ rfl
        case c2 => intro u hu; simp at hu; subst hu; rfl
        case c3 => unfold maxLen; omega
        case c4 => omega
        case c5 => simp; omega
        intro v6 w6 hG
        obtain ⟨a6, c6, rfl⟩ := own_shape hG.own
        have HE6 : Hid (Ext w w6) := Lib.hid (((HE.out.trans HW4.out).alloc _).trans' hG.upd (fun j hj e => by have h1 := (HO4.out.lt j e).1; have h2 := HE.out.size; omega))
        have HO6 : Hid (w6.ownsRow wr.heap.size 9 1 (.slice a6 (b.length + 1) c6) (b ++ [x]).length ((b ++ [x]).map Value.string)) := Lib.hid (by
          have h := hG.own
          rw [show (b ++ [x]).length = b.length + 1 by simp, List.map_append]
          exact h)
        clear hG hi hz0 hz1 hz2
        have HC2 := Lib.hid (clone_x rest _ (fun _ => True) w6 ((SlR.kept HRV.out HE6.out (fun _ _ h => h)).weaken (fun _ _ => trivial)) (by omega))
        go_wp2_with fail
        refine HC2.out.mono ?_
        rintro e w7 ⟨r7, rfl, hO7, hw7⟩
        have HO7 := Lib.hid hO7
        have HW7 := Lib.hid hw7
        obtain ⟨a7, c7, rfl⟩ := own_shape hO7
        have HDL := Lib.hid (del_x rest _ k w6.heap.size w7 hO7 hlt (by omega))
        clear hO7 hw7 HC2
        go_wp2_with fail
        refine HDL.out.mono ?_
        rintro e w8 ⟨r8, rfl, hr8, hu8⟩
        have HE8 : Hid (Ext w6 w8) := Lib.hid (HW7.out.trans' hu8 (fun j hj e => by have h1 := (HO7.out.lt j e).1; omega))
        have HR8 : Hid (StR (fun j => j < w8.heap.size) w8 r8 (rest.eraseIdx k)) := Lib.hid (SlR.weaken hr8 (fun j hj => Nat.lt_of_lt_of_le (own_lt HO7.out j hj) hu8.size))
        have HB8 : Hid (StR (fun j => j < w8.heap.size) w8 (.slice a6 (b.length + 1) c6) (b ++ [x])) := Lib.hid (SlR.weaken (SlR.of_own (own_kept HO6.out HE8.out (fun _ _ h => h))) (fun j hj => Nat.lt_of_lt_of_le (own_lt HO6.out j hj) HE8.out.size))
        have HRC := Lib.hid (HIH.out (b ++ [x]) (rest.eraseIdx k) _ _ w8 ((HE0.out.trans HE6.out).trans HE8.out) HLE.out (by rw [List.length_append, List.length_singleton]; have := HN.out; omega) (dif_perm HPM.out HD.out) (fun t ht y hy => okn_mem (fun s hs => HPM.out.mem_iff.2 hs) (HOK.out t ht y hy)) HB8.out HR8.out)
        obtain ⟨a8, c8, hv8⟩ := SlR.shape hr8
        subst hv8
        clear hr8 hu8 HDL HO7 HW7 HO4 HW4
        obtain ⟨SO, hSO⟩ : ∃ o, searchP L n (b ++ [x]) (rest.eraseIdx k) = o := ⟨_, rfl⟩
        rw [hSO] at HRC HNX HHT
        clear hSO
        go_wp2_with fail
        refine HRC.out.mono ?_
        rintro e w9 ⟨r9, rfl, ⟨a9, n9, c9, rfl⟩, hs9, hw9⟩
        have HE9 : Hid (Ext w w9) := Lib.hid ((HE6.out.trans HE8.out).trans hw9)
        have HS9 := Lib.hid hs9
        clear hs9 hw9 HRC
        cases SO with
        | none =>
          have HN2 := Lib.hid (HNX.out rfl)
          clear HNX HHT q0
          simp only [Option.isSome_none]
          go_wp2_with fail
          go_roundg (rest.length - (k + 1))
          case measure => omega
          case rel => exact ⟨k + 1, by go_num, rfl, by omega, HE9, HN2⟩
        | some out =>
          have HV := Lib.hid (HHT.out out rfl)
          clear HNX HHT q0
          simp only [Option.isSome_some]
          go_wp2_with fail
          go_ret2
          rw [HV.out]
          exact ⟨_, rfl, ⟨_, _, _, rfl⟩, fun o h => by injection h with h; rw [← h]; exact HS9.out out rfl, HE9.out⟩
      · obtain rfl : k = rest.length := by omega
        have z2 : decide ((rest.length : Int) < (rest.length : Int)) = false := decide_eq_false (by omega)
        have HV : Hid (SP = none) := Lib.hid (by
          rw [← HSQ.out, HSP.out]
          exact fs_none _ _ (fun j hj => HM.out j (by rw [HN.out]; exact hj)))
        go_wp2_with fail
        go_ret2
        rw [HV.out]
        exact ⟨_, rfl, ⟨_, _, _, rfl⟩, fun o h => (by cases h), HE.out⟩

end Go.Proofs.YtiimccogojkldaaGreatDoor

/- Find of the program. -/
namespace Go.Proofs.YtiimccogojkldaaGreatDoor
open Go.RowKit Go.Hw Go
set_option linter.unusedVariables false
set_option linter.unusedSimpArgs false

open Tm
def findE : Option (List By) → List By × Int
  | some out => (out, 0)
  | none => ([], 12)
def findF (L : List Rl) : List By × Int :=
  if (flR L).all (wf nmB) = false then ([], 1) else if 100 < L.length then ([], 4) else
    if 7 < (sFoldO [] ((flR L).flatMap opN)).length then ([], 6) else findE (searchP L (sFoldO [] ((flR L).flatMap opN)).length [] (sFoldO [] ((flR L).flatMap opN)))
theorem mem_sizes {t : Tm} : ∀ {L : List Tm}, t ∈ L → t.size ≤ sizes L
  | a :: L, h => by
    rcases List.mem_cons.1 h with rfl | h
    · simp only [sizes]; omega
    · have := mem_sizes h; simp only [sizes]; omega
theorem ris_dif {l : List By} (h : Ris l) : Dif l := List.Pairwise.imp (fun {a b} (h : blt a b = true) (e : a = b) => by rw [e, blt_irrefl] at h; cases h) h
theorem rule_ok {L : List Rl} (h : (flR L).all (wf nmB) = true) : ∀ t ∈ flR L, ∀ x ∈ sbts t, OkN ([] ++ sFoldO [] ((flR L).flatMap opN)) x := by
  intro t ht x hx
  refine wf_ok (List.all_eq_true.1 h t ht) (knowsP_iff.2 fun s hs => ?_) x hx
  rw [List.nil_append, mem_sFoldO]
  exact .inr (List.mem_flatMap.2 ⟨t, ht, hs⟩)
set_option maxRecDepth 100000 in
set_option maxHeartbeats 2000000 in
theorem find_x (L : List Rl) (lv : Value) (w : World) (hR : RuR (fun k => k < w.heap.size) w L lv) (htab : AscT w) (hpow : Lib.TabIs Tryz.prog w "internal/strconv.uint64pow10" .u64 Lib.pow10Tab) (hl : L.length ≤ 100000) (hsz : sizes (flR L) ≤ 100000) :
    Calls Tryz.prog 19 #[lv] w fun e w' => ∃ r, e = .returned (.tuple #[r, .int .i64 (findF L).2]) ∧ (∃ a len cap, r = .slice a len cap) ∧ StR (fun _ => True) w' r (findF L).1 ∧ Ext w w' := by
  have HSR := Lib.hid (search_x L lv w hR (by omega) hsz hpow)
  have HSD := Lib.hid (sides_x L lv _ w hR (fun k h => h) hl)
  have HSS := Lib.hid hsz
  have HTAB := Lib.hid htab
  have hts : ∀ t ∈ flR L, t.size ≤ 100000 := fun t ht => by
    have := mem_sizes ht
    omega
  have HTS := Lib.hid hts
  have HFL := Lib.hid (flR_len L)
  obtain ⟨la, lc, rfl⟩ := hR.shape
  clear hR hsz htab hpow hts
  go_enter Tryz.func19, Tryz.ntmps19
  go_wp2_with fail
  refine HSD.out.mono ?_
  rintro e w4 ⟨r4, rfl, hr4, hw4⟩
  have H4 := Lib.hid hw4
  have HT4 := Lib.hid hr4
  obtain ⟨ta, tc, htv⟩ := hr4.shape
  subst htv
  have HFO := Lib.hid (forms_x (flR L) _ w4 (asc_ext HTAB.out hw4) hr4 (by rw [HFL.out]; omega) (fun t ht => by have := HTS.out t ht; omega))
  clear hr4 hw4 HSD
  cases hw : (flR L).all (wf nmB)
  · rw [hw] at HFO
    have HV : Hid (findF L = ([], 1)) := Lib.hid (by unfold findF; rw [if_pos hw])
    clear hw
    go_wp2_with fail
    refine HFO.out.mono ?_
    rintro e w5 ⟨rfl, hw5⟩
    have H5 := Lib.hid (H4.out.trans hw5)
    clear hw5 HFO
    go_wp2_with fail
    go_ret2
    rw [HV.out]
    exact ⟨_, rfl, ⟨_, _, _, rfl⟩, SlR.nil _ _ _, H5.out⟩
  rw [hw] at HFO
  have HWF := Lib.hid hw
  have hnw : ¬ ((flR L).all (wf nmB) = false) := by rw [hw]; simp
  have HNW := Lib.hid hnw
  clear hw hnw
  go_wp2_with fail
  refine HFO.out.mono ?_
  rintro e w5 ⟨rfl, hw5⟩
  have H5 := Lib.hid (H4.out.trans hw5)
  have HT5 := Lib.hid ((HT4.out.ext hw5).weaken (fun k hk => Nat.lt_of_lt_of_le hk hw5.size))
  clear hw5 HFO HT4 H4
  by_cases hc : 100 < L.length
  · have HV : Hid (findF L = ([], 4)) := Lib.hid (by unfold findF; rw [if_neg HNW.out, if_pos hc])
    have z1 : (100 : Int) < (L.length : Int) := by omega
    go_wp2_with fail
    go_ret2
    rw [HV.out]
    exact ⟨_, rfl, ⟨_, _, _, rfl⟩, SlR.nil _ _ _, H5.out⟩
  have HC := Lib.hid hc
  have z1 : ¬ (100 : Int) < (L.length : Int) := by omega
  go_wp2_with fail
  clear z1 hc
  obtain ⟨M, hM⟩ : ∃ M, flR L = M := ⟨_, rfl⟩
  have HM := Lib.hid hM
  rw [hM] at HT5 HTS HSS HFL
  have hml : M.length ≤ 1000000 := by have := HFL.out; have := HC.out; omega
  have HO0 : Hid (w5.ownsRow w5.heap.size 9 1 (.slice none 0 0) (sFoldO [] ((M.take 0).flatMap opN)).length ((sFoldO [] ((M.take 0).flatMap opN)).map Value.string)) := Lib.hid ⟨rfl, .inl ⟨rfl, rfl⟩⟩
  rw [hM]
  clear hM
  obtain ⟨wa, hwa⟩ : ∃ wa, wa = w5 := ⟨_, rfl⟩
  have HR0 : Hid (Ext wa w5) := Lib.hid (by rw [hwa]; exact Upd.refl _ _)
  rw [← hwa] at H5 HT5
  have HO1 : Hid (w5.ownsRow wa.heap.size 9 1 (.slice none 0 0) (sFoldO [] ((M.take 0).flatMap opN)).length ((sFoldO [] ((M.take 0).flatMap opN)).map Value.string)) := Lib.hid (by rw [hwa]; exact HO0.out)
  clear hwa HO0
  go_loopg [5, 22] M.length (fun gk lv iv wr => ∃ k : Nat, iv = .int .i64 (k : Int) ∧ gk = M.length - k ∧ k ≤ M.length ∧ Hid (wr.ownsRow wa.heap.size 9 1 lv (sFoldO [] ((M.take k).flatMap opN)).length ((sFoldO [] ((M.take k).flatMap opN)).map Value.string)) ∧ Hid (Ext wa wr))
  case atStart => exact ⟨0, rfl, rfl, Nat.zero_le _, HO1, HR0⟩
  case round =>
    clear HO1 HR0
    obtain ⟨k, rfl, rfl, hk, HOW, HE⟩ := hrel
    obtain ⟨oa, oc, hov⟩ := own_shape HOW.out
    subst hov
    by_cases hlt : k < M.length
    · obtain ⟨g, off, hga, _, hat⟩ := (HT5.out.ext HE.out).at_ (by omega)
      subst hga
      obtain ⟨xa, xc, q0, q1, q2, hkid⟩ := hat k hlt
      rw [← Nat.add_assoc] at q1 q2
      have z0 : (0 : Int) ≤ (k : Int) := by omega
      have z1 : (k : Int) < (M.length : Int) := by omega
      have z2 : decide ((k : Int) < (M.length : Int)) = true := decide_eq_true z1
      have z2' : decide (k < M.length) = true := decide_eq_true hlt
      have hrm := flat_room opN opN_len M k hlt
      have hln := sFoldO_len ((M.take k).flatMap opN) []
      have hss := HSS.out
      have hsn := flat_snoc opN M k hlt
      have hws := HE.out.size
      have HOP := Lib.hid (fun W (hW : Ext wr W) => opers_x wa.heap.size (tg M k) _ _ _ (fun j => j < wa.heap.size) W (sFoldO_ris (ss := (M.take k).flatMap opN) List.Pairwise.nil) (own_kept HOW.out hW (fun _ _ h => h)) (TmR.ext ⟨xa, xc, rfl, hkid⟩ hW) (fun j h => h) (by have := hW.size; omega) (by simp only [List.length_nil] at hln; omega))
      dsimp only [tV] at HOP
      rw [← sFoldO_append, ← hsn] at HOP
      obtain ⟨x, hx⟩ : ∃ x, tg M k = x := ⟨_, rfl⟩
      rw [hx] at q0 q1 q2 HOP
      have hal : Ext wr (wr.alloc (.cells #[.string x.name, .string x.sort, .slice xa x.kids.length xc] 25)) := (Upd.refl _ wr).alloc _
      have HAL := Lib.hid hal
      have e0 := cellRow (alloc0 wr (.cells #[.string x.name, .string x.sort, .slice xa x.kids.length xc] 25)) 0 (.string x.name) rfl
      have e1 := cellRow (alloc0 wr (.cells #[.string x.name, .string x.sort, .slice xa x.kids.length xc] 25)) 1 (.string x.sort) rfl
      have e2 := cellRow (alloc0 wr (.cells #[.string x.name, .string x.sort, .slice xa x.kids.length xc] 25)) 2 (.slice xa x.kids.length xc) rfl
      clear hat hkid hrm hln hss hsn hx hal
      go_wp2_with fail
      refine (HOP.out _ HAL.out).mono ?_
      rintro e w8 ⟨r, rfl, hr, hu8, hb8⟩
      have HE8 : Hid (Ext wa w8) := Lib.hid ((HE.out.trans HAL.out).trans' hu8 (fun j hj e => by have := (HOW.out.lt j e).1; omega))
      have HO8 := Lib.hid hr
      obtain ⟨ra, rc, hrv⟩ := own_shape hr
      subst hrv
      clear hr hu8 hb8 q0 q1 q2 e0 e1 e2 HOP
      go_wp2_with fail
      go_roundg (M.length - (k + 1))
      case measure => omega
      case rel => exact ⟨k + 1, by go_num, rfl, by omega, HO8, HE8⟩
    · obtain rfl : k = M.length := by omega
      have z2 : decide ((M.length : Int) < (M.length : Int)) = false := decide_eq_false (by omega)
      have htl : M.take M.length = M := List.take_length
      have H9 := Lib.hid (H5.out.trans HE.out)
      rw [htl] at HOW ⊢
      clear htl
      obtain ⟨O, hO⟩ : ∃ O, sFoldO [] (M.flatMap opN) = O := ⟨_, rfl⟩
      have HO := Lib.hid hO
      have HRI : Hid (Ris O) := Lib.hid (by rw [← hO]; exact sFoldO_ris List.Pairwise.nil)
      rw [hO] at HOW ⊢
      have HOK : Hid (∀ t ∈ flR L, ∀ x ∈ sbts t, OkN ([] ++ O) x) := Lib.hid (by rw [← hO, ← HM.out]; exact rule_ok HWF.out)
      have HFF : Hid (findF L = if 7 < O.length then ([], 6) else findE (searchP L O.length [] O)) := Lib.hid (by unfold findF; rw [if_neg HNW.out, if_neg HC.out, HM.out, hO])
      clear hO
      by_cases h7 : 7 < O.length
      · have HV : Hid (findF L = ([], 6)) := Lib.hid (by rw [HFF.out, if_pos h7])
        have z3 : (7 : Int) < (O.length : Int) := by omega
        go_wp2_with fail
        go_ret2
        rw [HV.out]
        exact ⟨_, rfl, ⟨_, _, _, rfl⟩, SlR.nil _ _ _, H9.out⟩
      have z3 : ¬ (7 : Int) < (O.length : Int) := by omega
      have HS := Lib.hid (HSR.out O.length [] O (.slice none 0 0) _ wr H9.out rfl (by simp only [List.length_nil]; omega) (by rw [List.nil_append]; exact ris_dif HRI.out) HOK.out (SlR.nil _ _ _) ((SlR.of_own HOW.out).weaken (fun j hj => own_lt HOW.out j hj)))
      have HF2 : Hid (findF L = findE (searchP L O.length [] O)) := Lib.hid (by rw [HFF.out, if_neg h7])
      obtain ⟨SO, hSO⟩ : ∃ o, searchP L O.length [] O = o := ⟨_, rfl⟩
      rw [hSO] at HS HF2
      clear hSO h7
      go_wp2_with fail
      refine HS.out.mono ?_
      rintro e wz ⟨rz, rfl, ⟨a9, n9, c9, rfl⟩, hs9, hw9⟩
      have HZ := Lib.hid (H9.out.trans hw9)
      have HS9 := Lib.hid hs9
      clear hs9 hw9 HS z3
      cases SO with
      | none =>
        have HV : Hid (findF L = ([], 12)) := Lib.hid HF2.out
        simp only [Option.isSome_none]
        go_wp2_with fail
        go_ret2
        rw [HV.out]
        exact ⟨_, rfl, ⟨_, _, _, rfl⟩, SlR.nil _ _ _, HZ.out⟩
      | some out =>
        have HV : Hid (findF L = (out, 0)) := Lib.hid HF2.out
        simp only [Option.isSome_some]
        go_wp2_with fail
        go_ret2
        rw [HV.out]
        exact ⟨_, rfl, ⟨_, _, _, rfl⟩, HS9.out out rfl, HZ.out⟩

end Go.Proofs.YtiimccogojkldaaGreatDoor
