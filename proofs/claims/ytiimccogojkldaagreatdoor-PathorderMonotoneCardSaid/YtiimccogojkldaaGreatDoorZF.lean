/- The texts I30 I31 I32 I33 I34 I35, one behind the other. -/
import Derived.Test.YtiimccogojkldaaGreatDoorZB
import Derived.Test.YtiimccogojkldaaGreatDoorZA
import Derived.Test.YtiimccogojkldaaGreatDoorProg
import Derived.WalkKit
import Derived.Deep.SlicePairs
import Derived.Test.YtiimccogojkldaaGreatDoorZD
import Derived.Deep.RegionHeld3
import Derived.Deep.DeepCutAuto
import Derived.Lib.AppendIntMem
import Derived.Test.YtiimccogojkldaaGreatDoorZE
/- Functions asked of a list of numbers. -/
namespace Go.Proofs.YtiimccogojkldaaGreatDoor
open Go.RowKit Go.Hw Go
set_option linter.unusedVariables false
set_option linter.unusedSimpArgs false

open Tm
set_option maxRecDepth 100000 in
set_option maxHeartbeats 2000000 in
theorem idx124_x (c1 c2 : Value) (p : Nat → Bool) (J : World → Prop) (hJ : ∀ W W', J W → Ext W W' → J W') (S : Nat → Prop) (v : Value) (ks : List Nat) (w : World) (hw : J w) (hl : ks.length ≤ 1000000)
    (hR : ∀ W, J W → SlR S W 1 v ks.length (ks.map natV)) (hf : ∀ k ∈ ks, ∀ W, J W → Calls Tryz.prog 124 #[natV k, c1, c2] W fun e W' => e = .returned (.bool (p k)) ∧ J W') :
    Calls Tryz.prog 137 #[v, .func (.func 124) #[] #[c1, c2]] w fun e w' => ∃ r : Int, e = .returned (.int .i64 r) ∧ decide (0 ≤ r) = ks.any p ∧ J w' := by
  obtain ⟨a, cap, rfl⟩ := (hR w hw).shape
  have HW := Lib.hid hw
  have HR := Lib.hid hR
  have HJ := Lib.hid hJ
  have HF := Lib.hid hf
  clear hw hR hf hJ
  go_enter Tryz.func137, Tryz.ntmps137
  go_wp2_with fail
  go_loopg [8] ks.length (fun gk iv wr => ∃ k : Nat, iv = .int .i64 (k : Int) ∧ gk = ks.length - k ∧ k ≤ ks.length ∧ Hid (J wr) ∧ Hid ((ks.take k).any p = false))
  case atStart => exact ⟨0, rfl, rfl, Nat.zero_le _, HW, Lib.hid rfl⟩
  case round =>
    obtain ⟨k, rfl, rfl, hk, HK, HM⟩ := hrel
    by_cases hlt : k < ks.length
    · obtain ⟨g, off, hga, _, hat⟩ := SlR.one_at (d := 0) (HR.out wr HK.out) (by omega)
      subst hga
      have q0 := hat k hlt
      have z0 : (0 : Int) ≤ (k : Int) := by omega
      have z1 : (k : Int) < (ks.length : Int) := by omega
      have z2 : decide ((k : Int) < (ks.length : Int)) = true := decide_eq_true z1
      have hmem : ks.getD k 0 ∈ ks := by rw [List.getD_eq_getElem?_getD, List.getElem?_eq_getElem hlt]; exact List.getElem_mem hlt
      have HFX := Lib.hid (HF.out _ hmem wr HK.out)
      have HN : Hid (p (ks.getD k 0) = false → (ks.take (k + 1)).any p = false) := Lib.hid (fun h => by
        rw [List.take_add_one, List.any_append, HM.out, List.getElem?_eq_getElem hlt]
        rw [List.getD_eq_getElem?_getD, List.getElem?_eq_getElem hlt] at h
        simpa using h)
      have HY : Hid (p (ks.getD k 0) = true → ks.any p = true) := Lib.hid (fun h => List.any_eq_true.2 ⟨_, hmem, h⟩)
      obtain ⟨x, hx⟩ : ∃ x, ks.getD k 0 = x := ⟨_, rfl⟩
      rw [hx] at q0 HFX HN HY
      obtain ⟨b, hb⟩ : ∃ b, p x = b := ⟨_, rfl⟩
      rw [hb] at HFX HN HY
      clear hat hmem hx hb HM
      go_wp2_with fail
      refine HFX.out.mono ?_
      rintro e w4 ⟨rfl, hw4⟩
      have H4 := Lib.hid hw4
      clear hw4 q0 HFX HK
      cases b
      · have HN2 := Lib.hid (HN.out rfl)
        clear HN HY
        go_wp2_with fail
        go_roundg (ks.length - (k + 1))
        case measure => omega
        case rel => exact ⟨k + 1, by go_num, rfl, by omega, H4, HN2⟩
      · have HY2 := Lib.hid (HY.out rfl)
        clear HN HY
        go_wp2_with fail
        go_ret
        exact ⟨_, rfl, by rw [HY2.out]; exact decide_eq_true z0, H4.out⟩
    · obtain rfl : k = ks.length := by omega
      have z2 : decide ((ks.length : Int) < (ks.length : Int)) = false := decide_eq_false (by omega)
      have HM2 := HM.out
      rw [List.take_length] at HM2
      have HM3 := Lib.hid HM2
      clear HM2
      go_wp2_with fail
      go_ret
      exact ⟨_, rfl, by rw [HM3.out]; rfl, HK.out⟩
set_option maxRecDepth 100000 in
set_option maxHeartbeats 2000000 in
theorem con124_x (c1 c2 : Value) (p : Nat → Bool) (J : World → Prop) (hJ : ∀ W W', J W → Ext W W' → J W') (S : Nat → Prop) (v : Value) (ks : List Nat) (w : World) (hw : J w) (hl : ks.length ≤ 1000000)
    (hR : ∀ W, J W → SlR S W 1 v ks.length (ks.map natV)) (hf : ∀ k ∈ ks, ∀ W, J W → Calls Tryz.prog 124 #[natV k, c1, c2] W fun e W' => e = .returned (.bool (p k)) ∧ J W') :
    Calls Tryz.prog 123 #[v, .func (.func 124) #[] #[c1, c2]] w fun e w' => e = .returned (.bool (ks.any p)) ∧ J w' := by
  have HI := Lib.hid (idx124_x c1 c2 p J hJ S v ks w hw hl hR hf)
  clear hw hR hf hJ
  go_enter Tryz.func123, Tryz.ntmps123
  go_wp2_with fail
  refine HI.out.mono ?_
  rintro e w4 ⟨r, rfl, hr, hw4⟩
  have H4 := Lib.hid hw4
  have HRR := Lib.hid hr
  clear hw4 hr
  go_wp2_with fail
  go_ret
  rw [← HRR.out]
  exact ⟨rfl, H4.out⟩

set_option maxRecDepth 100000 in
set_option maxHeartbeats 2000000 in
theorem idx125_x (c1 c2 : Value) (p : Nat → Bool) (J : World → Prop) (hJ : ∀ W W', J W → Ext W W' → J W') (S : Nat → Prop) (v : Value) (ks : List Nat) (w : World) (hw : J w) (hl : ks.length ≤ 1000000)
    (hR : ∀ W, J W → SlR S W 1 v ks.length (ks.map natV)) (hf : ∀ k ∈ ks, ∀ W, J W → Calls Tryz.prog 125 #[natV k, c1, c2] W fun e W' => e = .returned (.bool (p k)) ∧ J W') :
    Calls Tryz.prog 137 #[v, .func (.func 125) #[] #[c1, c2]] w fun e w' => ∃ r : Int, e = .returned (.int .i64 r) ∧ decide (0 ≤ r) = ks.any p ∧ J w' := by
  obtain ⟨a, cap, rfl⟩ := (hR w hw).shape
  have HW := Lib.hid hw
  have HR := Lib.hid hR
  have HJ := Lib.hid hJ
  have HF := Lib.hid hf
  clear hw hR hf hJ
  go_enter Tryz.func137, Tryz.ntmps137
  go_wp2_with fail
  go_loopg [8] ks.length (fun gk iv wr => ∃ k : Nat, iv = .int .i64 (k : Int) ∧ gk = ks.length - k ∧ k ≤ ks.length ∧ Hid (J wr) ∧ Hid ((ks.take k).any p = false))
  case atStart => exact ⟨0, rfl, rfl, Nat.zero_le _, HW, Lib.hid rfl⟩
  case round =>
    obtain ⟨k, rfl, rfl, hk, HK, HM⟩ := hrel
    by_cases hlt : k < ks.length
    · obtain ⟨g, off, hga, _, hat⟩ := SlR.one_at (d := 0) (HR.out wr HK.out) (by omega)
      subst hga
      have q0 := hat k hlt
      have z0 : (0 : Int) ≤ (k : Int) := by omega
      have z1 : (k : Int) < (ks.length : Int) := by omega
      have z2 : decide ((k : Int) < (ks.length : Int)) = true := decide_eq_true z1
      have hmem : ks.getD k 0 ∈ ks := by rw [List.getD_eq_getElem?_getD, List.getElem?_eq_getElem hlt]; exact List.getElem_mem hlt
      have HFX := Lib.hid (HF.out _ hmem wr HK.out)
      have HN : Hid (p (ks.getD k 0) = false → (ks.take (k + 1)).any p = false) := Lib.hid (fun h => by
        rw [List.take_add_one, List.any_append, HM.out, List.getElem?_eq_getElem hlt]
        rw [List.getD_eq_getElem?_getD, List.getElem?_eq_getElem hlt] at h
        simpa using h)
      have HY : Hid (p (ks.getD k 0) = true → ks.any p = true) := Lib.hid (fun h => List.any_eq_true.2 ⟨_, hmem, h⟩)
      obtain ⟨x, hx⟩ : ∃ x, ks.getD k 0 = x := ⟨_, rfl⟩
      rw [hx] at q0 HFX HN HY
      obtain ⟨b, hb⟩ : ∃ b, p x = b := ⟨_, rfl⟩
      rw [hb] at HFX HN HY
      clear hat hmem hx hb HM
      go_wp2_with fail
      refine HFX.out.mono ?_
      rintro e w4 ⟨rfl, hw4⟩
      have H4 := Lib.hid hw4
      clear hw4 q0 HFX HK
      cases b
      · have HN2 := Lib.hid (HN.out rfl)
        clear HN HY
        go_wp2_with fail
        go_roundg (ks.length - (k + 1))
        case measure => omega
        case rel => exact ⟨k + 1, by go_num, rfl, by omega, H4, HN2⟩
      · have HY2 := Lib.hid (HY.out rfl)
        clear HN HY
        go_wp2_with fail
        go_ret
        exact ⟨_, rfl, by rw [HY2.out]; exact decide_eq_true z0, H4.out⟩
    · obtain rfl : k = ks.length := by omega
      have z2 : decide ((ks.length : Int) < (ks.length : Int)) = false := decide_eq_false (by omega)
      have HM2 := HM.out
      rw [List.take_length] at HM2
      have HM3 := Lib.hid HM2
      clear HM2
      go_wp2_with fail
      go_ret
      exact ⟨_, rfl, by rw [HM3.out]; rfl, HK.out⟩
set_option maxRecDepth 100000 in
set_option maxHeartbeats 2000000 in
theorem con125_x (c1 c2 : Value) (p : Nat → Bool) (J : World → Prop) (hJ : ∀ W W', J W → Ext W W' → J W') (S : Nat → Prop) (v : Value) (ks : List Nat) (w : World) (hw : J w) (hl : ks.length ≤ 1000000)
    (hR : ∀ W, J W → SlR S W 1 v ks.length (ks.map natV)) (hf : ∀ k ∈ ks, ∀ W, J W → Calls Tryz.prog 125 #[natV k, c1, c2] W fun e W' => e = .returned (.bool (p k)) ∧ J W') :
    Calls Tryz.prog 123 #[v, .func (.func 125) #[] #[c1, c2]] w fun e w' => e = .returned (.bool (ks.any p)) ∧ J w' := by
  have HI := Lib.hid (idx125_x c1 c2 p J hJ S v ks w hw hl hR hf)
  clear hw hR hf hJ
  go_enter Tryz.func123, Tryz.ntmps123
  go_wp2_with fail
  refine HI.out.mono ?_
  rintro e w4 ⟨r, rfl, hr, hw4⟩
  have H4 := Lib.hid hw4
  have HRR := Lib.hid hr
  clear hw4 hr
  go_wp2_with fail
  go_ret
  rw [← HRR.out]
  exact ⟨rfl, H4.out⟩

set_option maxRecDepth 100000 in
set_option maxHeartbeats 2000000 in
theorem clo1_x (k j b c1 c2 : Nat) (G : Bool) (Q : World → Prop) (w : World) (h1 : w.heap[c1]? = some (.cells #[natV j] 3 (0, 0))) (h2 : w.heap[c2]? = some (.cells #[.pointer (some ⟨b, 0, none⟩)] 81 (0, 0))) (hQ : Q w) (hb : k ≤ 1000000000 ∧ j ≤ 1000000000)
    (hg : Calls Tryz.prog 76 #[.pointer (some ⟨b, 0, none⟩), natV k, natV j] w fun e W' => e = .returned (.bool G) ∧ Q W') :
    Calls Tryz.prog 124 #[natV k, .pointer (some ⟨c1, 0, none⟩), .pointer (some ⟨c2, 0, none⟩)] w fun e W' => e = .returned (.bool (decide (k = j) || G)) ∧ Q W' := by
  have HG := Lib.hid hg
  have HQ := Lib.hid hQ
  have q1 := cellRow h1 0 (natV j) rfl
  have q2 := cellRow h2 0 (.pointer (some ⟨b, 0, none⟩)) rfl
  clear hg hQ h1 h2
  by_cases hkj : k = j
  · subst hkj
    have t0 : ((k : Int) == (k : Int)) = true := by simp
    have t1 : decide (k = k) = true := by simp
    rw [t1, Bool.true_or]
    go_enter Tryz.func124, Tryz.ntmps124
    go_wp2_with fail
    go_ret
    exact ⟨rfl, HQ.out⟩
  · have t0 : ((k : Int) == (j : Int)) = false := by simp; omega
    have t2 : ¬ ((k : Int) = (j : Int)) := by omega
    have t1 : decide (k = j) = false := decide_eq_false hkj
    rw [t1, Bool.false_or]
    go_enter Tryz.func124, Tryz.ntmps124
    go_wp2_with fail
    refine HG.out.mono ?_
    rintro e w4 ⟨rfl, hw4⟩
    have H4 := Lib.hid hw4
    clear hw4 q1 q2
    go_wp2_with fail
    go_ret
    exact ⟨rfl, H4.out⟩
set_option maxRecDepth 100000 in
set_option maxHeartbeats 2000000 in
theorem clo2_x (k i b c1 c2 : Nat) (G : Bool) (Q : World → Prop) (w : World) (h1 : w.heap[c1]? = some (.cells #[.pointer (some ⟨b, 0, none⟩)] 81 (0, 0))) (h2 : w.heap[c2]? = some (.cells #[natV i] 3 (0, 0))) (hb : k ≤ 1000000000 ∧ i ≤ 1000000000)
    (hg : Calls Tryz.prog 76 #[.pointer (some ⟨b, 0, none⟩), natV i, natV k] w fun e W' => e = .returned (.bool G) ∧ Q W') :
    Calls Tryz.prog 125 #[natV k, .pointer (some ⟨c1, 0, none⟩), .pointer (some ⟨c2, 0, none⟩)] w fun e W' => e = .returned (.bool (!G)) ∧ Q W' := by
  have HG := Lib.hid hg
  have q1 := cellRow h1 0 (.pointer (some ⟨b, 0, none⟩)) rfl
  have q2 := cellRow h2 0 (natV i) rfl
  clear hg h1 h2
  go_enter Tryz.func125, Tryz.ntmps125
  go_wp2_with fail
  refine HG.out.mono ?_
  rintro e w4 ⟨rfl, hw4⟩
  have H4 := Lib.hid hw4
  clear hw4 q1 q2
  go_wp2_with fail
  go_ret
  exact ⟨rfl, H4.out⟩

end Go.Proofs.YtiimccogojkldaaGreatDoor

/- The order: covers. -/
namespace Go.Proofs.YtiimccogojkldaaGreatDoor
open Go.RowKit Go.Hw Go
set_option linter.unusedVariables false
set_option linter.unusedSimpArgs false

open Tm
theorem ord_n {ops : List By} {R B : Nat → Prop} {base b : Nat} {w : World} {N : List Nt} (h : OrdR 144 114 ops R B base w b N) : ∀ k, B k → k < w.heap.size := by
  obtain ⟨nv, br, bk, bd, us, G, rl, kl, dl, h⟩ := h
  exact fun k hk => (h.lt k hk).2.1
theorem ord_cells {ops : List By} {R B : Nat → Prop} {base b : Nat} {w : World} {N : List Nt} (h : OrdR 144 114 ops R B base w b N) (hN : 0 < N.length) : ∃ br g off cap bk bd, w.heap[b]? = some (.cells #[.map (some br), .slice (some ⟨g, off, none⟩) N.length cap, .map (some bk), .map (some bd)] 114 (0, 0)) ∧ B bd ∧
    (∃ rl, MpR strV w br rl ∧ ∀ s ∈ ops, afind rl s = some (natV (ixF ops s))) ∧
    ∀ i, i < N.length → ∃ a c, w.cell? ⟨g, off + i * 3, none⟩ = some (.string (ng N i).1.name) ∧ w.cell? ⟨g, off + i * 3 + 1, none⟩ = some (.bool (!decide ((ng N i).1.sort = nul))) ∧ w.cell? ⟨g, off + i * 3 + 2, none⟩ = some (.slice a (ng N i).2.length c) ∧
      ∀ W, OrdR 144 114 ops R B base W b N → Upd B w W → SlR (fun k => ¬ B k) W 1 (.slice a (ng N i).2.length c) (ng N i).2.length ((ng N i).2.map natV) := by
  obtain ⟨nv, br, bk, bd, us, G, rl, kl, dl, h⟩ := h
  obtain ⟨g, cap, rfl, _, hg, hat⟩ := h.at_ hN
  refine ⟨br, g, 0, cap, bk, bd, h.box, h.bb.2.2.2, ⟨rl, h.rank, h.ranks⟩, fun i hi => ?_⟩
  obtain ⟨a, c, h0, h1, h2, h3⟩ := hat i hi
  refine ⟨a, c, h0, by rw [Nat.add_assoc]; exact h1, by rw [Nat.add_assoc]; exact h2, fun W _ hu => ?_⟩
  exact (h3.kept hu (fun k hk hb => (h.gs k hk).2.2.1 hb)).weaken (fun k hk => (h.gs k hk).2.2.1)
set_option maxRecDepth 100000 in
set_option maxHeartbeats 2000000 in
theorem covers_x (ops : List By) (R B : Nat → Prop) (base b : Nat) (N : List Nt) (hNl : N.length ≤ 100000) (m : Nat) (hg : ∀ (i j : Nat), i + j < m → i < N.length → j < N.length → ∀ W, OrdR 144 114 ops R B base W b N → Calls Tryz.prog 76 #[.pointer (some ⟨b, 0, none⟩), natV i, natV j] W fun e W' => e = .returned (.bool (gt (ixF ops) (ng N i).1 (ng N j).1)) ∧ OrdR 144 114 ops R B base W' b N ∧ Upd B W W') (i j : Nat) (hm : i + j ≤ m) (hi : i < N.length) (hj : j < N.length) (w : World) (hO : OrdR 144 114 ops R B base w b N) (hks : (ng N i).2.length ≤ 1000000) (hkl : ∀ k ∈ (ng N i).2, k < i) :
    Calls Tryz.prog 101 #[.pointer (some ⟨b, 0, none⟩), natV i, natV j] w fun e W' => e = .returned (.bool ((ng N i).2.any fun k => decide (k = j) || gt (ixF ops) (ng N k).1 (ng N j).1)) ∧ OrdR 144 114 ops R B base W' b N ∧ Upd B w W' := by
  obtain ⟨br, g, off, cap, bk, bd, hbox, _, _, hat⟩ := ord_cells hO (by omega)
  obtain ⟨a, c, _, _, q2, hsl⟩ := hat i hi
  have HZ : Hid (Ext w ((w.alloc (.cells #[.pointer (some ⟨b, 0, none⟩)] 81)).alloc (.cells #[natV j] 3))) := Lib.hid (((Upd.refl (fun _ => False) w).alloc _).alloc _)
  have HB1 : Hid (((w.alloc (.cells #[.pointer (some ⟨b, 0, none⟩)] 81)).alloc (.cells #[natV j] 3)).heap[w.heap.size]? = some (.cells #[.pointer (some ⟨b, 0, none⟩)] 81 (0, 0))) := Lib.hid (allocOld (alloc0 w (.cells #[.pointer (some ⟨b, 0, none⟩)] 81)) (.cells #[natV j] 3))
  have HB2 : Hid (((w.alloc (.cells #[.pointer (some ⟨b, 0, none⟩)] 81)).alloc (.cells #[natV j] 3)).heap[w.heap.size + 1]? = some (.cells #[natV j] 3 (0, 0))) := Lib.hid (alloc_at (w.alloc (.cells #[.pointer (some ⟨b, 0, none⟩)] 81)) (.cells #[natV j] 3) (n := w.heap.size + 1) (by simp))
  have hlt := ord_n hO
  have HC := Lib.hid (con124_x (.pointer (some ⟨w.heap.size + 1, 0, none⟩)) (.pointer (some ⟨w.heap.size, 0, none⟩)) (fun k => decide (k = j) || gt (ixF ops) (ng N k).1 (ng N j).1) (fun W => OrdR 144 114 ops R B base W b N ∧ Upd B ((w.alloc (.cells #[.pointer (some ⟨b, 0, none⟩)] 81)).alloc (.cells #[natV j] 3)) W) (fun W W' h hE => ⟨h.1.ext hE, h.2.ext hE⟩) (fun k => ¬ B k) (.slice a (ng N i).2.length c) (ng N i).2 ((w.alloc (.cells #[.pointer (some ⟨b, 0, none⟩)] 81)).alloc (.cells #[natV j] 3)) ⟨hO.ext HZ.out, Upd.refl _ _⟩ hks
    (fun W h => hsl W h.1 ((HZ.out.mono (fun _ _ x => x.elim)).trans h.2)) (fun k hk W h => by
      have hki := hkl k hk
      exact clo1_x k j b (w.heap.size + 1) w.heap.size _ (fun W => OrdR 144 114 ops R B base W b N ∧ Upd B ((w.alloc (.cells #[.pointer (some ⟨b, 0, none⟩)] 81)).alloc (.cells #[natV j] 3)) W) W (h.2.heap HB2.out (fun hb => by have := hlt _ hb; omega)) (h.2.heap HB1.out (fun hb => by have := hlt _ hb; omega)) h ⟨by omega, by omega⟩
        ((hg k j (by omega) (by omega) hj W h.1).mono (fun e W' ⟨h1, h2, h3⟩ => ⟨h1, h2, h.2.trans h3⟩))))
  have hbox2 := HZ.out.heap hbox (fun h => h)
  have o1 := cellRow hbox2 1 (.slice (some ⟨g, off, none⟩) N.length cap) rfl
  have q2' := HZ.out.cell q2 (fun h => h)
  have b1 := cellRow HB1.out 0 (.pointer (some ⟨b, 0, none⟩)) rfl
  have z0 : (0 : Int) ≤ (i : Int) := by omega
  have z1 : (i : Int) < (N.length : Int) := by omega
  clear hbox hbox2 hat q2 hsl hg hkl hlt hO
  generalize ((ng N i).2.any fun k => decide (k = j) || gt (ixF ops) (ng N k).1 (ng N j).1) = V at *
  generalize (ng N i).2 = K at *
  go_enter Tryz.func101, Tryz.ntmps101
  go_wp2_with fail
  refine HC.out.mono ?_
  rintro e w4 ⟨rfl, hw4, hu4⟩
  have H4 := Lib.hid (And.intro hw4 hu4)
  clear hw4 hu4 q2' o1 b1
  go_wp2_with fail
  go_ret
  exact ⟨rfl, H4.out.1, (HZ.out.mono (fun _ _ x => x.elim)).trans H4.out.2⟩

end Go.Proofs.YtiimccogojkldaaGreatDoor

/- The order: above. -/
namespace Go.Proofs.YtiimccogojkldaaGreatDoor
open Go.RowKit Go.Hw Go
set_option linter.unusedVariables false
set_option linter.unusedSimpArgs false

open Tm
set_option maxRecDepth 100000 in
set_option maxHeartbeats 2000000 in
theorem above_x (ops : List By) (R B : Nat → Prop) (base b : Nat) (N : List Nt) (hNl : N.length ≤ 100000) (m : Nat) (hg : ∀ (i j : Nat), i + j < m → i < N.length → j < N.length → ∀ W, OrdR 144 114 ops R B base W b N → Calls Tryz.prog 76 #[.pointer (some ⟨b, 0, none⟩), natV i, natV j] W fun e W' => e = .returned (.bool (gt (ixF ops) (ng N i).1 (ng N j).1)) ∧ OrdR 144 114 ops R B base W' b N ∧ Upd B W W') (i j : Nat) (hm : i + j ≤ m) (hi : i < N.length) (hj : j < N.length) (w : World) (hO : OrdR 144 114 ops R B base w b N) (hN : Num N) (hU : Uniq N) (hks : (ng N i).2.length ≤ 1000000) (hkt : (ng N j).2.length ≤ 1000000)
    (hs : (ng N i).1.sort = nul) (hin : (ng N i).1.name ∈ ops) (hjn : (ng N j).1.sort = nul → (ng N j).1.name ∈ ops) (hnc : ¬ Cov (ixF ops) (ng N i).1 (ng N j).1) :
    Calls Tryz.prog 102 #[.pointer (some ⟨b, 0, none⟩), natV i, natV j] w fun e W' => e = .returned (.bool (gt (ixF ops) (ng N i).1 (ng N j).1)) ∧ OrdR 144 114 ops R B base W' b N ∧ Upd B w W' := by
  obtain ⟨br, g, off, cap, bk, bd, hbox, hbd, hrk, hat⟩ := ord_cells hO (by omega)
  obtain ⟨sa, sc, s0', s1', s2', hsl⟩ := hat i hi
  obtain ⟨ta, tc, t0', t1', t2', htl⟩ := hat j hj
  have HZ : Hid (Ext w ((w.alloc (.cells #[.pointer (some ⟨b, 0, none⟩)] 81)).alloc (.cells #[natV i] 3))) := Lib.hid (((Upd.refl (fun _ => False) w).alloc _).alloc _)
  have HB1 : Hid (((w.alloc (.cells #[.pointer (some ⟨b, 0, none⟩)] 81)).alloc (.cells #[natV i] 3)).heap[w.heap.size]? = some (.cells #[.pointer (some ⟨b, 0, none⟩)] 81 (0, 0))) := Lib.hid (allocOld (alloc0 w (.cells #[.pointer (some ⟨b, 0, none⟩)] 81)) (.cells #[natV i] 3))
  have HB2 : Hid (((w.alloc (.cells #[.pointer (some ⟨b, 0, none⟩)] 81)).alloc (.cells #[natV i] 3)).heap[w.heap.size + 1]? = some (.cells #[natV i] 3 (0, 0))) := Lib.hid (alloc_at (w.alloc (.cells #[.pointer (some ⟨b, 0, none⟩)] 81)) (.cells #[natV i] 3) (n := w.heap.size + 1) (by simp))
  have hsz : ((w.alloc (.cells #[.pointer (some ⟨b, 0, none⟩)] 81)).alloc (.cells #[natV i] 3)).heap.size = w.heap.size + 2 := by simp
  have HLT := Lib.hid (ord_n hO)
  have HOO := Lib.hid hO
  have HG := Lib.hid hg
  have HSL := Lib.hid hsl
  have HTL := Lib.hid htl
  have HRK := Lib.hid hrk
  have HNUM := Lib.hid hN
  have HUN := Lib.hid hU
  have HNC := Lib.hid hnc
  have HS := Lib.hid hs
  have HIN := Lib.hid hin
  have HJN := Lib.hid hjn
  have HBX := Lib.hid hbox
  clear hrk hat hO hg hsl htl hN hU hnc hs hin hjn
  obtain ⟨sn, hsn⟩ : ∃ x, (ng N i).1.name = x := ⟨_, rfl⟩
  obtain ⟨tn, htn⟩ : ∃ x, (ng N j).1.name = x := ⟨_, rfl⟩
  obtain ⟨sb, hsb⟩ : ∃ x, (!decide ((ng N i).1.sort = nul)) = x := ⟨_, rfl⟩
  obtain ⟨tb, htb⟩ : ∃ x, (!decide ((ng N j).1.sort = nul)) = x := ⟨_, rfl⟩
  obtain ⟨KX, hKX⟩ : ∃ x, (ng N i).2 = x := ⟨_, rfl⟩
  obtain ⟨KY, hKY⟩ : ∃ x, (ng N j).2 = x := ⟨_, rfl⟩
  rw [hsn] at s0'
  rw [hsb] at s1'
  rw [hKX] at s2' hks HSL
  rw [htn] at t0'
  rw [htb] at t1'
  rw [hKY] at t2' hkt HTL
  have HSN := Lib.hid hsn
  have HTN := Lib.hid htn
  have HTB := Lib.hid htb
  have HKX := Lib.hid hKX
  have HKY := Lib.hid hKY
  clear hsn htn hsb htb hKX hKY
  have z0 : (0 : Int) ≤ (i : Int) := by omega
  have z1 : (i : Int) < (N.length : Int) := by omega
  have z2 : (0 : Int) ≤ (j : Int) := by omega
  have z3 : (j : Int) < (N.length : Int) := by omega
  have b0 := cellRow HB1.out 0 (.pointer (some ⟨b, 0, none⟩)) rfl
  have b1 := cellRow HB2.out 0 (natV i) rfl
  have o1 := cellRow (HZ.out.heap hbox (fun h => h)) 1 (.slice (some ⟨g, off, none⟩) N.length cap) rfl
  have s0 := HZ.out.cell s0' (fun h => h)
  have s1 := HZ.out.cell s1' (fun h => h)
  have s2 := HZ.out.cell s2' (fun h => h)
  have t0 := HZ.out.cell t0' (fun h => h)
  have t1 := HZ.out.cell t1' (fun h => h)
  have t2 := HZ.out.cell t2' (fun h => h)
  clear s0' s1' s2' t0' t1' t2' hbox
  go_enter Tryz.func102, Tryz.ntmps102
  go_upto_region 1 with fail
  generalize hw3 : ((w.alloc (.cells #[.pointer (some ⟨b, 0, none⟩)] 81)).alloc (.cells #[natV i] 3)) = w3 at *
  have HW3 := Lib.hid hw3
  have HSZ := Lib.hid hsz
  clear hw3 hsz
  go_cut [7, 8] (fun p7 p8 ww => ∃ n7 n8 : Nat, p7 = .pointer (some ⟨n7, 0, none⟩) ∧ p8 = .pointer (some ⟨n8, 0, none⟩) ∧ Hid (w3.heap.size ≤ n7 ∧ w3.heap.size ≤ n8) ∧ Hid (Ext w3 ww) ∧ Hid (ww.heap[n7]? = some (.cells #[.string sn, .bool sb, .slice sa KX.length sc] 144 (0, 0))) ∧ Hid (ww.heap[n8]? = some (.cells #[.string tn, .bool tb, .slice ta KY.length tc] 144 (0, 0))))
  case first =>
    have eb0 := World.new_ne w3 _ b0
    have eb1 := World.new_ne w3 _ b1
    have eo1 := World.new_ne w3 _ o1
    have es0 := World.new_ne w3 _ s0
    have es1 := World.new_ne w3 _ s1
    have es2 := World.new_ne w3 _ s2
    have et0 := World.new_ne w3 _ t0
    have et1 := World.new_ne w3 _ t1
    have et2 := World.new_ne w3 _ t2
    go_region_held3 (fun w' => w'.cell? ⟨w.heap.size, 0, none⟩ = some (.pointer (some ⟨b, 0, none⟩)) ∧ w'.cell? ⟨w.heap.size + 1, 0, none⟩ = some (natV i) ∧ w'.cell? ⟨b, 1, none⟩ = some (.slice (some ⟨g, off, none⟩) N.length cap) ∧ w'.cell? ⟨g, off + i * 3, none⟩ = some (.string sn) ∧ w'.cell? ⟨g, off + i * 3 + 1, none⟩ = some (.bool sb) ∧ w'.cell? ⟨g, off + i * 3 + 2, none⟩ = some (.slice sa KX.length sc) ∧ w'.cell? ⟨g, off + j * 3, none⟩ = some (.string tn) ∧ w'.cell? ⟨g, off + j * 3 + 1, none⟩ = some (.bool tb) ∧ w'.cell? ⟨g, off + j * 3 + 2, none⟩ = some (.slice ta KY.length tc)) (go_keep) (fail)
    all_goals (try (go_wp2_with fail))
    all_goals go_meet
    all_goals first
      | exact ⟨_, _, rfl, rfl, Lib.hid ⟨Nat.le_refl _, Nat.le_succ _⟩, Lib.hid (((Upd.refl (fun _ => False) w3).alloc _).alloc _).drew, Lib.hid (allocOld (alloc0 w3 (.cells #[.string sn, .bool sb, .slice sa KX.length sc] 144)) _), Lib.hid (alloc_at (w3.alloc (.cells #[.string sn, .bool sb, .slice sa KX.length sc] 144)) (.cells #[.string tn, .bool tb, .slice ta KY.length tc] 144) (n := w3.heap.size + 1) (by simp))⟩
      | exact ⟨_, _, rfl, rfl, Lib.hid ⟨Nat.le_succ _, Nat.le_refl _⟩, Lib.hid (((Upd.refl (fun _ => False) w3).alloc _).alloc _).drew, Lib.hid (alloc_at (w3.alloc (.cells #[.string tn, .bool tb, .slice ta KY.length tc] 144)) (.cells #[.string sn, .bool sb, .slice sa KX.length sc] 144) (n := w3.heap.size + 1) (by simp)), Lib.hid (allocOld (alloc0 w3 (.cells #[.string tn, .bool tb, .slice ta KY.length tc] 144)) _)⟩
  case rest =>
  obtain ⟨n7, n8, rfl, rfl, HN, H3, HC7, HC8⟩ := hcut
  clear b0 b1 o1 s0 s1 s2 t0 t1 t2 HBX
  have x70 := cellRow HC7.out 0 (.string sn) rfl
  have x72 := cellRow HC7.out 2 (.slice sa KX.length sc) rfl
  have x80 := cellRow HC8.out 0 (.string tn) rfl
  have x81 := cellRow HC8.out 1 (.bool tb) rfl
  have x82 := cellRow HC8.out 2 (.slice ta KY.length tc) rfl
  have HQ1 := Lib.hid (H3.out.heap HB1.out (fun h => h))
  have HQ2 := Lib.hid (H3.out.heap HB2.out (fun h => h))
  have HU := Lib.hid (HZ.out.trans H3.out)
  cases tb
  · have htj : (ng N j).1.sort = nul := by
      have := HTB.out
      rw [Bool.not_eq_false', decide_eq_true_eq] at this
      exact this
    have HTJ := Lib.hid htj
    have HV1 : Hid (KY.any (fun k => !gt (ixF ops) (ng N i).1 (ng N k).1) = true ↔ ∃ k ∈ (ng N j).1.kids, gt (ixF ops) (ng N i).1 k = false) := Lib.hid (by rw [← HKY.out]; exact par_any HNUM.out hj)
    have hkid : ∀ k ∈ KY, k < j := fun k hk => HNUM.out.kid j hj k (by rw [HKY.out]; exact hk)
    have HKD := Lib.hid hkid
    have HC := Lib.hid (con125_x (.pointer (some ⟨w.heap.size, 0, none⟩)) (.pointer (some ⟨w.heap.size + 1, 0, none⟩)) (fun k => !gt (ixF ops) (ng N i).1 (ng N k).1) (fun W => OrdR 144 114 ops R B base W b N ∧ Upd B wc W) (fun W W' h hE => ⟨h.1.ext hE, h.2.ext hE⟩) (fun k => ¬ B k) (.slice ta KY.length tc) KY wc ⟨HOO.out.ext HU.out, Upd.refl _ _⟩ hkt
      (fun W h => HTL.out W h.1 ((HU.out.mono (fun _ _ x => x.elim)).trans h.2)) (fun k hk W h => by
        have hkj := hkid k hk
        exact clo2_x k i b w.heap.size (w.heap.size + 1) _ (fun W => OrdR 144 114 ops R B base W b N ∧ Upd B wc W) W (h.2.heap HQ1.out (fun hb => by have := HLT.out _ hb; omega)) (h.2.heap HQ2.out (fun hb => by have := HLT.out _ hb; omega)) ⟨by omega, by omega⟩
          ((HG.out i k (by omega) hi (by omega) W h.1).mono (fun e W' ⟨h1, h2, h3⟩ => ⟨h1, h2, h.2.trans h3⟩))))
    clear htj hkid
    generalize (KY.any fun k => !gt (ixF ops) (ng N i).1 (ng N k).1) = V at *
    go_wp2_with fail
    refine HC.out.mono ?_
    rintro e w5 ⟨rfl, hw5, hu5⟩
    have H5 := Lib.hid hw5
    have HU5 := Lib.hid hu5
    have hq7 := Lib.hid (hu5.heap HC7.out (fun hb => by have := HLT.out _ hb; have := HN.out; have := HSZ.out; omega))
    have hq8 := Lib.hid (hu5.heap HC8.out (fun hb => by have := HLT.out _ hb; have := HN.out; have := HSZ.out; omega))
    have hq1 := Lib.hid (hu5.heap HQ1.out (fun hb => by have := HLT.out _ hb; omega))
    clear hw5 hu5 x70 x72 x80 x81 x82 HC7 HC8
    have x70 := cellRow hq7.out 0 (.string sn) rfl
    have x72 := cellRow hq7.out 2 (.slice sa KX.length sc) rfl
    have x80 := cellRow hq8.out 0 (.string tn) rfl
    have x81 := cellRow hq8.out 1 (.bool false) rfl
    have x82 := cellRow hq8.out 2 (.slice ta KY.length tc) rfl
    have HUF := Lib.hid ((HU.out.mono (fun _ _ x => x.elim)).trans HU5.out)
    cases V
    · have HAL : Hid (∀ k ∈ (ng N j).1.kids, gt (ixF ops) (ng N i).1 k = true) := Lib.hid (fun k hk => by
        cases hc : gt (ixF ops) (ng N i).1 k
        · have := HV1.out.2 ⟨k, hk, hc⟩; cases this
        · rfl)
      by_cases hne : sn = tn
      · subst hne
        have HNE : Hid ((ng N i).1.name = (ng N j).1.name) := Lib.hid (by rw [HSN.out, HTN.out])
        have hlx : KX.length = (ng N i).1.kids.length := by rw [← HKX.out]; exact HNUM.out.len hi
        have hly : KY.length = (ng N j).1.kids.length := by rw [← HKY.out]; exact HNUM.out.len hj
        have HLX := Lib.hid hlx
        have HLY := Lib.hid hly
        clear hlx hly
        by_cases hln : KX.length = KY.length
        · have t2 : ((KX.length : Int) != (KY.length : Int)) = false := by rw [hln]; simp
          have t3 : (KX.length : Int) = (KY.length : Int) := by rw [hln]
          have HLN := Lib.hid hln
          have HV0 : Hid (gt (ixF ops) (ng N i).1 (ng N j).1 = lexG (gt (ixF ops)) (ng N i).1.kids (ng N j).1.kids) := Lib.hid (gt_lex _ HNC.out HS.out HTJ.out HAL.out HNE.out (by rw [← HLX.out, ← HLY.out, hln]))
          clear hln
          go_wp2_with fail
          obtain ⟨wa, hwa⟩ : ∃ wa, wa = w5 := ⟨_, rfl⟩
          have HR0 : Hid (Ext wa w5) := Lib.hid (by rw [hwa]; exact Upd.refl _ _)
          rw [← hwa] at H5 HUF hq8 hq7 hq1
          clear hwa t2 t3 x70 x72 x80 x81 x82 HC HV1 HU5
          go_loopg [63] KX.length (fun gk iv wr => ∃ k : Nat, iv = .int .i64 (k : Int) ∧ gk = KX.length - k ∧ k ≤ KX.length ∧ Hid (∀ l, l < k → KX.getD l 0 = KY.getD l 0) ∧ Hid (Ext wa wr))
          case atStart => exact ⟨0, rfl, rfl, Nat.zero_le _, Lib.hid (fun l h => absurd h (Nat.not_lt_zero _)), HR0⟩
          case round =>
            clear HR0
            obtain ⟨k, rfl, rfl, hk, HC, HE⟩ := hrel
            have y82 := cellRow (HE.out.heap hq8.out (fun h => h)) 2 (.slice ta KY.length tc) rfl
            have y1 := cellRow (HE.out.heap hq1.out (fun h => h)) 0 (.pointer (some ⟨b, 0, none⟩)) rfl
            by_cases hlt : k < KX.length
            · have hltY : k < KY.length := by have := HLN.out; omega
              obtain ⟨gx, ox, hgx, _, hatx⟩ := SlR.one_at (d := 0) (SlR.kept (HSL.out wa H5.out HUF.out) HE.out (fun _ _ h => h)) (by omega)
              obtain ⟨gy, oy, hgy, _, haty⟩ := SlR.one_at (d := 0) (SlR.kept (HTL.out wa H5.out HUF.out) HE.out (fun _ _ h => h)) (by omega)
              subst hgx
              subst hgy
              have q0 := hatx k hlt
              have q1 := haty k hltY
              have hpx := HNUM.out.part hi (k := k) (by rw [HKX.out]; exact hlt)
              have hpy := HNUM.out.part hj (k := k) (by rw [HKY.out]; exact hltY)
              rw [HKX.out] at hpx
              rw [HKY.out] at hpy
              obtain ⟨p, hp⟩ : ∃ p, KX.getD k 0 = p := ⟨_, rfl⟩
              obtain ⟨q, hq⟩ : ∃ q, KY.getD k 0 = q := ⟨_, rfl⟩
              rw [hp] at q0 hpx
              rw [hq] at q1 hpy
              have z0 : (0 : Int) ≤ (k : Int) := by omega
              have z1 : (k : Int) < (KX.length : Int) := by omega
              have z1' : (k : Int) < (KY.length : Int) := by omega
              have z2 : decide ((k : Int) < (KX.length : Int)) = true := decide_eq_true z1
              have HPR := Lib.hid (And.intro hpx hpy)
              have HPQ := Lib.hid (And.intro hp hq)
              have HEQ : Hid (∀ l, l < k → tg (ng N i).1.kids l = tg (ng N j).1.kids l) := Lib.hid (fun l hl => by
                have e1 := (HNUM.out.part hi (k := l) (by rw [HKX.out]; omega)).2
                have e2 := (HNUM.out.part hj (k := l) (by rw [HKY.out]; omega)).2
                rw [HKX.out, HC.out l hl] at e1
                rw [HKY.out] at e2
                rw [← e1, ← e2])
              clear hatx haty hpx hpy hp hq
              by_cases hpq : p = q
              · subst hpq
                have t4 : ((p : Int) != (p : Int)) = false := by simp
                have HNX : Hid (∀ l, l < k + 1 → KX.getD l 0 = KY.getD l 0) := Lib.hid (fun l hl => by
                  rcases Nat.lt_succ_iff_lt_or_eq.1 hl with h5 | h5
                  · exact HC.out l h5
                  · rw [h5, HPQ.out.1, HPQ.out.2])
                go_wp2_with fail
                go_roundg (KX.length - (k + 1))
                case measure => omega
                case rel => exact ⟨k + 1, by go_num, rfl, by omega, HNX, HE⟩
              · have t4 : ((p : Int) != (q : Int)) = true := by simp; omega
                have t5 : ¬ ((p : Int) = (q : Int)) := by omega
                have HV : Hid (gt (ixF ops) (ng N i).1 (ng N j).1 = gt (ixF ops) (ng N p).1 (ng N q).1) := Lib.hid (by
                  have hp2 := HPR.out.1
                  have hq2 := HPR.out.2
                  rw [HV0.out, lexG_at (gt (ixF ops)) k _ _ (by rw [← HLX.out]; exact hlt) (by rw [← HLY.out]; exact hltY) HEQ.out (by
                    rw [← hp2.2, ← hq2.2]
                    exact fun e => hpq (HUN.out p q (by omega) (by omega) e)), hp2.2, hq2.2])
                have HGX := Lib.hid (fun W (hW : Ext wr W) => HG.out p q (by have := HPR.out; omega) (by have := HPR.out; omega) (by have := HPR.out; omega) W ((H5.out.ext HE.out).ext hW))
                have HUR := Lib.hid (HUF.out.ext HE.out)
                generalize gt (ixF ops) (ng N p).1 (ng N q).1 = GV at *
                clear hpq HPR HPQ HEQ
                go_wp2_with fail
                go_still_tail 7, (by kernel_rfl)
                change wpList _ _ _ _ _ wr.drew
                go_wp2_with fail
                refine (HGX.out wr.drew ((Upd.refl _ wr).drewN' 1)).mono ?_
                rintro e w6 ⟨rfl, hw6, hu6⟩
                have H6 := Lib.hid hw6
                have HU6 := Lib.hid ((HUR.out.drew).trans hu6)
                clear hw6 hu6 y82 y1 q0 q1
                go_wp2_with fail
                go_ret
                rw [HV.out]
                exact ⟨rfl, H6.out, HU6.out⟩
            · obtain rfl : k = KX.length := by omega
              have z2 : decide ((KX.length : Int) < (KX.length : Int)) = false := decide_eq_false (by omega)
              have z4 : decide (KX.length < KY.length) = false := decide_eq_false (by have := HLN.out; omega)
              have z5 : decide ((KX.length : Int) < (KY.length : Int)) = false := decide_eq_false (by have := HLN.out; omega)
              have HV : Hid (gt (ixF ops) (ng N i).1 (ng N j).1 = false) := Lib.hid (by
                rw [HV0.out]
                refine lexG_all _ (by rw [← HLX.out, ← HLY.out, HLN.out]) (fun l hl => ?_)
                have hl2 : l < KX.length := by rw [HLX.out]; exact hl
                have e1 := (HNUM.out.part hi (k := l) (by rw [HKX.out]; exact hl2)).2
                have e2 := (HNUM.out.part hj (k := l) (by rw [HKY.out, ← HLN.out]; exact hl2)).2
                rw [HKX.out, HC.out l hl2] at e1
                rw [HKY.out] at e2
                rw [← e1, ← e2])
              go_wp2_with fail
              go_ret
              rw [HV.out]
              exact ⟨rfl, H5.out.ext HE.out, HUF.out.ext HE.out⟩
        · have t2 : ((KX.length : Int) != (KY.length : Int)) = true := by simp; omega
          have t3 : ¬ (KX.length : Int) = (KY.length : Int) := by omega
          have HV : Hid (gt (ixF ops) (ng N i).1 (ng N j).1 = false) := Lib.hid (gt_len _ HNC.out HNE.out (by rw [← HLX.out, ← HLY.out]; exact hln))
          clear hln
          go_wp2_with fail
          go_ret
          rw [HV.out]
          exact ⟨rfl, H5.out, HUF.out⟩
      · have t1 := str_ne hne
        have hNE : (ng N i).1.name ≠ (ng N j).1.name := by rw [HSN.out, HTN.out]; exact hne
        have HV : Hid (gt (ixF ops) (ng N i).1 (ng N j).1 = decide (ixF ops sn < ixF ops tn)) := Lib.hid (by rw [gt_name _ HNC.out HS.out HTJ.out HAL.out hNE, HSN.out, HTN.out])
        obtain ⟨br5, g5, off5, cap5, bk5, bd5, hbox5, _, ⟨rl5, hrk5, hrs5⟩, _⟩ := ord_cells H5.out (by omega)
        have o0 := cellRow hbox5 0 (.map (some br5)) rfl
        have o81 := cellRow hq1.out 0 (.pointer (some ⟨b, 0, none⟩)) rfl
        have hl1 := fun n => MpR.get (P := Tryz.prog) (t := 110) (strKey Tryz.underlying9) Tryz.underlying110 (z := .int .i64 0) (Tryz.zeroValue3 (w5.drewN n)) (show MpR strV (w5.drewN n) br5 rl5 from hrk5) sn false
        have hl2 := fun n => MpR.get (P := Tryz.prog) (t := 110) (strKey Tryz.underlying9) Tryz.underlying110 (z := .int .i64 0) (Tryz.zeroValue3 (w5.drewN n)) (show MpR strV (w5.drewN n) br5 rl5 from hrk5) tn false
        rw [hrs5 sn (by rw [← HSN.out]; exact HIN.out)] at hl1
        rw [hrs5 tn (by rw [← HTN.out]; exact HJN.out HTJ.out)] at hl2
        simp only [Bool.false_eq_true, if_false, Option.getD_some] at hl1 hl2
        have HT2x : Hid (decide ((ixF ops sn : Int) < (ixF ops tn : Int)) = decide (ixF ops sn < ixF ops tn)) := Lib.hid (by rw [Bool.eq_iff_iff, decide_eq_true_eq, decide_eq_true_eq]; omega)
        clear hbox5 hrs5 hrk5 hNE
        generalize hA : ixF ops sn = A at *
        generalize hB : ixF ops tn = C at *
        clear hA hB
        go_wp2_with fail
        go_quiet (fail)
        go_wp2_with fail
        go_ret
        rw [HV.out]
        first
          | exact ⟨rfl, H5.out.upd (Upd.refl (fun _ => False) _) (fun _ h => h.elim), HUF.out.drewN' _⟩
          | (rw [← HT2x.out]; exact ⟨rfl, H5.out.ext ((Upd.refl _ _).drewN' _), HUF.out.drewN' _⟩)
    · have HV : Hid (gt (ixF ops) (ng N i).1 (ng N j).1 = false) := Lib.hid (by
        obtain ⟨k, hk, hf⟩ := HV1.out.1 rfl
        exact gt_part _ HNC.out hk hf)
      go_wp2_with fail
      go_ret
      rw [HV.out]
      exact ⟨rfl, H5.out, HUF.out⟩
  · have HV : Hid (gt (ixF ops) (ng N i).1 (ng N j).1 = false) := Lib.hid (gt_var _ HNC.out (fun e => by have := HTB.out; rw [e] at this; simp at this))
    go_wp2_with fail
    go_ret
    rw [HV.out]
    exact ⟨rfl, HOO.out.ext HU.out, HU.out.mono (fun _ _ x => x.elim)⟩

end Go.Proofs.YtiimccogojkldaaGreatDoor

/- The order: greater. -/
namespace Go.Proofs.YtiimccogojkldaaGreatDoor
open Go.RowKit Go.Hw Go
set_option linter.unusedVariables false
set_option linter.unusedSimpArgs false

open Tm
theorem gt_cov' {r : By → Nat} {s t : Tm} (hs : s.sort = nul) (h : Cov r s t) : gt r s t = true := (gt_iff r s t).2 ⟨hs, .inl h⟩
theorem pairK : KeyEnc Tryz.prog 145 pairV := by
  obtain ⟨i, hi⟩ := info_of_underlying (P := Tryz.prog) Tryz.underlying3
  exact pairKey Tryz.underlying145 Tryz.underlying3 hi (by kernel_rfl)
set_option maxRecDepth 100000 in
set_option maxHeartbeats 2000000 in
theorem greater_step (ops : List By) (R B : Nat → Prop) (base b : Nat) (N : List Nt) (hNl : N.length ≤ 100000) (hkl : ∀ i, i < N.length → (ng N i).2.length ≤ 1000000) (m : Nat) (hg : ∀ (i j : Nat), i + j < m → i < N.length → j < N.length → ∀ W, OrdR 144 114 ops R B base W b N → Calls Tryz.prog 76 #[.pointer (some ⟨b, 0, none⟩), natV i, natV j] W fun e W' => e = .returned (.bool (gt (ixF ops) (ng N i).1 (ng N j).1)) ∧ OrdR 144 114 ops R B base W' b N ∧ Upd B W W') (i j : Nat) (hm : i + j ≤ m) (hi : i < N.length) (hj : j < N.length) (w : World) (hO : OrdR 144 114 ops R B base w b N) :
    Calls Tryz.prog 76 #[.pointer (some ⟨b, 0, none⟩), natV i, natV j] w fun e W' => e = .returned (.bool (gt (ixF ops) (ng N i).1 (ng N j).1)) ∧ OrdR 144 114 ops R B base W' b N ∧ Upd B w W' := by
  obtain ⟨nv, br, bk, bd, us, G, rl, kl, dl, hX⟩ := id hO
  obtain ⟨g0, cap, hnv, _, _, hat⟩ := hX.at_ (by omega)
  subst hnv
  obtain ⟨a, c, _, s1', _, _⟩ := hat i hi
  obtain ⟨off, hoff⟩ : ∃ o, o = 0 := ⟨_, rfl⟩
  rw [← hoff, ← Nat.add_assoc] at s1'
  have HX := Lib.hid hX
  have HG := Lib.hid hg
  have HO := Lib.hid hO
  have HNUM := Lib.hid hX.num
  have HUN := Lib.hid hX.uniq
  have HKL := Lib.hid hkl
  have hbox : w.heap[b]? = some (.cells #[.map (some br), .slice (some ⟨g0, off, none⟩) N.length cap, .map (some bk), .map (some bd)] 114 (0, 0)) := by rw [hoff]; exact hX.box
  have HIN := Lib.hid hX.nin
  have HANS := Lib.hid (hX.ans (i, j))
  have HDN := Lib.hid hX.done
  have HLT := Lib.hid (fun k hk => (hX.lt k hk).2.1)
  clear hg hO hat hX hkl hoff
  have o1 := cellRow hbox 1 (.slice (some ⟨g0, off, none⟩) N.length cap) rfl
  have z0 : (0 : Int) ≤ (i : Int) := by omega
  have z1 : (i : Int) < (N.length : Int) := by omega
  by_cases hs : (ng N i).1.sort = nul
  · have hsb : (!decide ((ng N i).1.sort = nul)) = false := by rw [decide_eq_true hs]; rfl
    rw [hsb] at s1'
    have HS := Lib.hid hs
    clear hs hsb
    by_cases hij : i = j
    · subst hij
      have HV : Hid (gt (ixF ops) (ng N i).1 (ng N i).1 = false) := Lib.hid (gt_irrefl _ _)
      have t0 : ((i : Int) == (i : Int)) = true := by simp
      rw [HV.out]
      clear hbox
      go_enter Tryz.func76, Tryz.ntmps76
      go_wp2_with fail
      go_ret
      exact ⟨rfl, HO.out, Upd.refl _ _⟩
    · have t0 : ((i : Int) == (j : Int)) = false := by simp; omega
      have t0' : ¬ ((i : Int) = (j : Int)) := by omega
      have HZ : Hid (Ext w (w.alloc (.cells #[natV i, natV j] 145))) := Lib.hid ((Upd.refl (fun _ => False) w).alloc _)
      have HBP : Hid ((w.alloc (.cells #[natV i, natV j] 145)).heap[w.heap.size]? = some (.cells #[natV i, natV j] 145 (0, 0))) := Lib.hid (alloc0 w (.cells #[natV i, natV j] 145))
      have o3 := cellRow (HZ.out.heap hbox (fun h => h)) 3 (.map (some bd)) rfl
      have p0 := cellRow HBP.out 0 (natV i) rfl
      have p1 := cellRow HBP.out 1 (natV j) rfl
      have hl := fun n => MpR.get (P := Tryz.prog) (t := 111) pairK Tryz.underlying111 (z := .bool false) (Tryz.zeroValue4 ((w.alloc (.cells #[natV i, natV j] 145)).drewN n)) (show MpR pairV ((w.alloc (.cells #[natV i, natV j] 145)).drewN n) bd dl from HDN.out.ext (HZ.out.drewN' n)) (i, j) true
      simp only [if_true, pairV] at hl
      clear hbox
      obtain ⟨GV, hGV⟩ : ∃ v, gt (ixF ops) (ng N i).1 (ng N j).1 = v := ⟨_, rfl⟩
      rw [hGV]
      cases hf : afind dl (i, j) with
      | some v =>
        obtain ⟨_, _, hv⟩ := HANS.out v hf
        simp only at hv
        rw [hGV] at hv
        subst hv
        rw [hf] at hl
        simp only [Option.getD_some, Option.isSome_some] at hl
        clear hf hGV
        go_enter Tryz.func76, Tryz.ntmps76
        go_wp2_with fail
        go_quiet (fail)
        go_wp2_with fail
        go_ret
        exact ⟨rfl, HO.out.ext (HZ.out.drewN' _), (HZ.out.mono (fun _ _ x => x.elim)).drewN' _⟩
      | none =>
        rw [hf] at hl
        simp only [Option.getD_none, Option.isSome_none] at hl
        clear hf
        have HCV := Lib.hid (fun W (hW : Ext w W) => covers_x ops R B base b N hNl m HG.out i j hm hi hj W (HO.out.ext hW) (HKL.out i hi) (HNUM.out.kid i hi))
        have HCI : Hid (((ng N i).2.any fun k => decide (k = j) || gt (ixF ops) (ng N k).1 (ng N j).1) = true ↔ Cov (ixF ops) (ng N i).1 (ng N j).1) := Lib.hid (cov_any HNUM.out HUN.out hi hj)
        have HAB := Lib.hid (fun (hn : ¬ Cov (ixF ops) (ng N i).1 (ng N j).1) W (hW : OrdR 144 114 ops R B base W b N) => above_x ops R B base b N hNl m HG.out i j hm hi hj W hW HNUM.out HUN.out (HKL.out i hi) (HKL.out j hj) HS.out (HIN.out i hi HS.out) (HIN.out j hj) hn)
        generalize ((ng N i).2.any fun k => decide (k = j) || gt (ixF ops) (ng N k).1 (ng N j).1) = CB at *
        rw [hGV] at HAB
        have HGV := Lib.hid hGV
        clear hGV
        have HSS := Lib.hid (gt_cov' (r := ixF ops) (s := (ng N i).1) (t := (ng N j).1) HS.out)
        go_enter Tryz.func76, Tryz.ntmps76
        go_wp2_with fail
        go_quiet (fail)
        go_wp2_with fail
        generalize hwq : (w.alloc (.cells #[natV i, natV j] 145)).drewN nq = wq at *
        have HEQ : Hid (Ext w wq) := Lib.hid (by rw [← hwq]; exact HZ.out.drewN' nq)
        have HBQ : Hid (wq.heap[w.heap.size]? = some (.cells #[natV i, natV j] 145 (0, 0))) := Lib.hid (by rw [← hwq]; exact HBP.out)
        clear hwq hl o3 p0 p1 s1' o1
        refine (HCV.out wq HEQ.out).mono ?_
        rintro e w5 ⟨rfl, hO5, hu5⟩
        have H5 := Lib.hid hO5
        have HU5 : Hid (Upd B w w5) := Lib.hid ((HEQ.out.mono (fun _ _ x => x.elim)).trans hu5)
        have HB5 : Hid (w5.heap[w.heap.size]? = some (.cells #[natV i, natV j] 145 (0, 0))) := Lib.hid (hu5.heap HBQ.out (fun hb => by have := HLT.out _ hb; omega))
        clear hO5 hu5 HCV
        cases CB
        · have HNC : Hid (¬ Cov (ixF ops) (ng N i).1 (ng N j).1) := Lib.hid (fun h => by have := HCI.out.2 h; cases this)
          go_wp2_with fail
          refine (HAB.out HNC.out w5 H5.out).mono ?_
          rintro e w6 ⟨rfl, hO6, hu6⟩
          have HU6 : Hid (Upd B w w6) := Lib.hid (HU5.out.trans hu6)
          have HB6 : Hid (w6.heap[w.heap.size]? = some (.cells #[natV i, natV j] 145 (0, 0))) := Lib.hid (hu6.heap HB5.out (fun hb => by have := HLT.out _ hb; omega))
          have HOU := Lib.hid hO6
          clear hO6 hu6 HB5 HU5 H5 HAB
          obtain ⟨nv6, br6, bk6, bd6, us6, G6, rl6, kl6, dl6, hX6⟩ := HOU.out
          have HX6 := Lib.hid hX6
          have o36 := cellRow hX6.box 3 (.map (some bd6)) rfl
          have p06 := cellRow HB6.out 0 (natV i) rfl
          have p16 := cellRow HB6.out 1 (natV j) rfl
          obtain ⟨W2, hput, hmp2, hu2⟩ := MpR.put (P := Tryz.prog) (t := 111) pairK Tryz.underlying111 (show MpR pairV w6.drew bd6 dl6 from hX6.done) (i, j) (.bool GV)
          simp only [pairV] at hput
          have HM2 := Lib.hid hmp2
          have HU2 := Lib.hid hu2
          clear hX6 hmp2 hu2
          go_wp2_with fail
          go_still_tail 6, (by kernel_rfl)
          change wpList _ _ _ _ _ w6.drew
          go_wp2_with fail
          go_ret
          exact ⟨rfl, ⟨_, _, _, _, _, _, _, _, _, (HX6.out.put hi hj (by rw [HGV.out]) (Upd.ofDrew HU2.out) HM2.out)⟩, HU6.out.trans' (Upd.ofDrew HU2.out) (fun k hk e => by rw [e]; exact HX6.out.bb.2.2.2)⟩
        · have hgv : GV = true := by rw [← HGV.out]; exact HSS.out (HCI.out.1 rfl)
          subst hgv
          have HU6 := HU5
          have HB6 := HB5
          have HOU := H5
          clear HB5 HU5 H5 HAB
          obtain ⟨w6, hw6⟩ : ∃ w6, w5 = w6 := ⟨_, rfl⟩
          rw [hw6] at HU6 HB6 HOU ⊢
          clear hw6
          obtain ⟨nv6, br6, bk6, bd6, us6, G6, rl6, kl6, dl6, hX6⟩ := HOU.out
          have HX6 := Lib.hid hX6
          have o36 := cellRow hX6.box 3 (.map (some bd6)) rfl
          have p06 := cellRow HB6.out 0 (natV i) rfl
          have p16 := cellRow HB6.out 1 (natV j) rfl
          obtain ⟨W2, hput, hmp2, hu2⟩ := MpR.put (P := Tryz.prog) (t := 111) pairK Tryz.underlying111 (show MpR pairV w6.drew bd6 dl6 from hX6.done) (i, j) (.bool true)
          simp only [pairV] at hput
          have HM2 := Lib.hid hmp2
          have HU2 := Lib.hid hu2
          clear hX6 hmp2 hu2
          go_wp2_with fail
          go_still_tail 6, (by kernel_rfl)
          change wpList _ _ _ _ _ w6.drew
          go_wp2_with fail
          go_ret
          exact ⟨rfl, ⟨_, _, _, _, _, _, _, _, _, (HX6.out.put hi hj (by rw [HGV.out]) (Upd.ofDrew HU2.out) HM2.out)⟩, HU6.out.trans' (Upd.ofDrew HU2.out) (fun k hk e => by rw [e]; exact HX6.out.bb.2.2.2)⟩
  · have HV : Hid (gt (ixF ops) (ng N i).1 (ng N j).1 = false) := Lib.hid (gt_leaf _ hs)
    have hsb : (!decide ((ng N i).1.sort = nul)) = true := by rw [decide_eq_false hs]; rfl
    rw [hsb] at s1'
    rw [HV.out]
    clear hs hsb hbox
    go_enter Tryz.func76, Tryz.ntmps76
    go_wp2_with fail
    go_ret
    exact ⟨rfl, HO.out, Upd.refl _ _⟩
theorem greater_x (ops : List By) (R B : Nat → Prop) (base b : Nat) (N : List Nt) (hNl : N.length ≤ 100000) (hkl : ∀ i, i < N.length → (ng N i).2.length ≤ 1000000) : ∀ m, ∀ (i j : Nat), i + j < m → i < N.length → j < N.length → ∀ W, OrdR 144 114 ops R B base W b N → Calls Tryz.prog 76 #[.pointer (some ⟨b, 0, none⟩), natV i, natV j] W fun e W' => e = .returned (.bool (gt (ixF ops) (ng N i).1 (ng N j).1)) ∧ OrdR 144 114 ops R B base W' b N ∧ Upd B W W'
  | 0 => fun i j h => absurd h (Nat.not_lt_zero _)
  | m + 1 => fun i j hm hi hj W hO => greater_step ops R B base b N hNl hkl m (greater_x ops R B base b N hNl hkl m) i j (by omega) hi hj W hO

end Go.Proofs.YtiimccogojkldaaGreatDoor

/- The order: number. -/
namespace Go.Proofs.YtiimccogojkldaaGreatDoor
open Go.RowKit Go.Hw Go
set_option linter.unusedVariables false
set_option linter.unusedSimpArgs false

open Tm
theorem pow_upd {F : Nat → Prop} {w w' : World} (h : Lib.TabIs Tryz.prog w "internal/strconv.uint64pow10" .u64 Lib.pow10Tab) (hb : Upd F w w') (hF : ∀ k, k < w.heap.size → ¬ F k) : Lib.TabIs Tryz.prog w' "internal/strconv.uint64pow10" .u64 Lib.pow10Tab := by
  unfold Lib.TabIs World.var? at *
  cases hg : Tryz.prog.globalNamed "internal/strconv.uint64pow10" with
  | none => simp [hg] at h
  | some g =>
    simp only [hg, Option.bind_some] at h ⊢
    have hlt : g < w.heap.size := by
      rcases Nat.lt_or_ge g w.heap.size with h' | h'
      · exact h'
      · rw [Array.getElem?_eq_none h'] at h; simp at h
    rw [hb.block g hlt (hF g hlt)]
    exact h
theorem itoa_x (n : Nat) (W : World) (h1 : n ≤ 9223372036854775807) (htab : Lib.TabIs Tryz.prog W "internal/strconv.uint64pow10" .u64 Lib.pow10Tab) : Calls Tryz.prog 103 #[natV n] W fun e w' => e = .returned (.string (nstr n)) ∧ Ext W w' :=
  (Tryz.strconv_Itoa (n : Int) (by omega) (by omega) W htab).mono fun e w' ⟨h, k, os, h'⟩ => ⟨h, by
    subst h'
    have hb := Lib.below_grow W.heap.size W (Nat.le_refl _) k os
    exact ⟨hb.os, hb.tape, hb.output, hb.size, fun k hk _ => hb.block k hk⟩⟩
/-- what is asked of the nodes that are numbered -/
def OkN (ops : List By) (x : Tm) : Prop := NoCS x.name ∧ NoCS x.sort ∧ (x.sort = nul → x.name ∈ ops) ∧ x.name.size ≤ 1000 ∧ x.sort.size ≤ 1000
theorem dec_len (m : Nat) : (Lib.decDigits m).length ≤ m + 1 := by
  induction m using Nat.strongRecOn with
  | _ m ih =>
    rw [Lib.decDigits]
    split
    · simp
    · have := ih (m / 10) (by omega)
      rw [List.length_append, List.length_singleton]
      omega
theorem nstr_size (m : Nat) : (nstr m).size ≤ m + 1 := by
  have h := nstr_list m
  have h2 : (nstr m).size = (nstr m).data.toList.length := by rw [ByteArray.size, Array.length_toList]
  rw [h2, h]
  exact dec_len m
theorem key_size (n s : By) : ∀ ks : List Nat, (∀ k ∈ ks, k ≤ 100000) → (keyK n s ks).size ≤ n.size + s.size + 1 + ks.length * 100002 := by
  have h : ∀ (ks : List Nat) (b : By), (∀ k ∈ ks, k ≤ 100000) → (ks.foldl (fun b k => b ++ (spB ++ nstr k)) b).size ≤ b.size + ks.length * 100002 := by
    intro ks
    induction ks with
    | nil => intro b _; simp
    | cons k ks ih =>
      intro b hk
      rw [List.foldl_cons]
      have h1 := ih (b ++ (spB ++ nstr k)) (fun x hx => hk x (List.mem_cons_of_mem _ hx))
      have h2 := nstr_size k
      have h3 := hk k (List.mem_cons_self ..)
      have h4 : spB.size = 1 := rfl
      rw [ByteArray.size_append, ByteArray.size_append, h4] at h1
      rw [List.length_cons]
      omega
  intro ks hk
  have := h ks ((n ++ colonB) ++ s) hk
  have h4 : colonB.size = 1 := rfl
  rw [ByteArray.size_append, ByteArray.size_append, h4] at this
  unfold keyK
  omega
theorem empty_dec (s : By) : (ByteArray.toList s).isEmpty = decide (s = nul) := by
  rw [Bool.eq_iff_iff, decide_eq_true_eq, List.isEmpty_iff, Lib.toList_data]
  constructor
  · intro h
    exact ba_list (by rw [h]; rfl)
  · intro h; rw [h]; rfl
/-- the order while the parts of a term are numbered -/
structure NumJ (ops : List By) (R B : Nat → Prop) (base n0 : Nat) (w wr : World) (N : List Nt) (L : List Tm) (b : Nat) (kidv : Value) (Nk : List Nt) (Bk : Nat → Prop) (ks : List Nat) (k c : Nat) : Prop where
  ord : OrdR 144 114 ops (fun j => R j ∨ (n0 ≤ j ∧ j < n0 + 2) ∨ kidv.ownBlock = some j) Bk base wr b Nk
  own : wr.ownsRow (n0 + 2) 3 1 kidv k (ks.map natV)
  len : ks.length = k
  map : ks.map (fun q => (ng Nk q).1) = L.take k
  lt : ∀ q ∈ ks, q < Nk.length
  blk : ∀ j, Bk j → B j ∨ n0 + 2 ≤ j
  upd : Upd B w wr
  size : n0 + 2 ≤ wr.heap.size
  pre : N <+: Nk
  cnt : Nk.length ≤ c
  hn : n0 = w.heap.size
  bn : base ≤ n0
  rb : ∀ j, R j → base ≤ j ∧ j < n0
  bb : ∀ j, B j → base ≤ j ∧ j < n0
section
variable {ops : List By} {R B B' : Nat → Prop} {base n0 b : Nat} {w wr wq w5 w6 w7 w8 w9 : World} {N Nk N' : List Nt} {L : List Tm} {kidv kidv' : Value} {Bk : Nat → Prop} {ks : List Nat} {k c c' q : Nat}
theorem ord_lt (h : OrdR 144 114 ops R B base w b N) : ∀ j, B j → base ≤ j ∧ j < w.heap.size ∧ ¬ R j := by
  obtain ⟨nv, br, bk, bd, us, G, rl, kl, dl, h⟩ := h
  exact h.lt
theorem NumJ.resB (h : NumJ ops R B base n0 w wr N L b kidv Nk Bk ks k c) : ∀ j, Bk j → ¬ (n0 ≤ j ∧ j < n0 + 2) ∧ kidv.ownBlock ≠ some j := fun j hj => by
  have := (ord_lt h.ord j hj).2.2
  exact ⟨fun x => this (.inr (.inl x)), fun x => this (.inr (.inr x))⟩
theorem NumJ.ext (h : NumJ ops R B base n0 w wr N L b kidv Nk Bk ks k c) (hq : Ext wr wq) : NumJ ops R B base n0 w wq N L b kidv Nk Bk ks k c :=
  ⟨h.ord.ext hq, own_kept h.own hq (fun _ _ x => x), h.len, h.map, h.lt, h.blk, h.upd.ext hq, Nat.le_trans h.size hq.size, h.pre, h.cnt, h.hn, h.bn, h.rb, h.bb⟩
theorem NumJ.call (h : NumJ ops R B base n0 w wr N L b kidv Nk Bk ks k c) (hs : OrdR 144 114 ops (fun j => R j ∨ (n0 ≤ j ∧ j < n0 + 2) ∨ kidv.ownBlock = some j) B' base w5 b N') (hu : Upd Bk wr w5)
    (hb : ∀ j, B' j → Bk j ∨ wr.heap.size ≤ j) (hp : Nk <+: N') (hc : N'.length ≤ c') : NumJ ops R B base n0 w w5 N L b kidv N' B' ks k c' := by
  have hkid : ∀ j, kidv.ownBlock = some j → n0 + 2 ≤ j := fun j hj => (h.own.lt j hj).1
  refine ⟨hs, own_kept h.own hu (fun j hj hx => (h.resB j hx).2 hj), h.len, ?_, fun q hq' => Nat.lt_of_lt_of_le (h.lt q hq') hp.length_le, fun j hj => ?_, h.upd.trans' hu (fun j hj hx => ?_), Nat.le_trans h.size hu.size, h.pre.trans hp, hc, h.hn, h.bn, h.rb, h.bb⟩
  · rw [← h.map]
    exact List.map_congr_left fun q hq' => by rw [ng_pre hp (h.lt q hq')]
  · rcases hb j hj with hx | hx
    · exact h.blk j hx
    · exact .inr (Nat.le_trans h.size hx)
  · rcases h.blk j hx with h2 | h2
    · exact h2
    · have := h.hn; omega
theorem NumJ.grow (h : NumJ ops R B base n0 w wr N L b kidv Nk Bk ks k c) (hA : Ext wr w7) (hG : Grew (n0 + 2) 3 1 kidv (k + 1) (ks.map natV ++ [natV q]) w7 w8 kidv') (hS : Upd (fun j => j = n0 + 1) w8 w9) (hq : q < Nk.length) (hk : k < L.length) (hx : (ng Nk q).1 = tg L k) :
    NumJ ops R B base n0 w w9 N L b kidv' Nk Bk (ks ++ [q]) (k + 1) c := by
  have hkid : ∀ j, kidv.ownBlock = some j → n0 + 2 ≤ j := fun j hj => (h.own.lt j hj).1
  have hsz : n0 + 2 ≤ w7.heap.size := Nat.le_trans h.size hA.size
  have hkid' : ∀ j, kidv'.ownBlock = some j → n0 + 2 ≤ j := fun j hj => (hG.own.lt j hj).1
  refine ⟨?_, ?_, by simp [h.len], ?_, fun p hp => ?_, h.blk, ((h.upd.ext hA).trans' hG.upd (fun j hj hx => ?_)).trans' hS (fun j hj hx => ?_), Nat.le_trans (Nat.le_trans hsz hG.upd.size) hS.size, h.pre, h.cnt, h.hn, h.bn, h.rb, h.bb⟩
  · refine ((((h.ord.ext hA).reserve).upd hG.upd (fun j hj => .inl (.inr (.inr hj)))).upd hS (fun j hj => .inl (.inr (.inl (by omega))))).weaken (fun j hj => ?_)
    rcases hj with hj | hj | hj
    · exact .inl (.inl hj)
    · exact .inl (.inr (.inl hj))
    · rcases hG.where_ with e | e
      · rw [e] at hj; exact .inl (.inr (.inr hj))
      · rw [e] at hj
        injection hj with hj
        exact .inr (by omega)
  · have := own_kept hG.own hS (fun j hj e => by have := hkid' j hj; omega)
    rw [List.map_append]
    exact this
  · rw [List.map_append, h.map, List.map_singleton, hx, List.take_add_one]
    have : L[k]?.toList = [tg L k] := by unfold tg; rw [List.getD_eq_getElem?_getD, List.getElem?_eq_getElem hk]; rfl
    rw [this]
  · rw [List.mem_append, List.mem_singleton] at hp
    rcases hp with hp | hp
    · exact h.lt p hp
    · rw [hp]; exact hq
  · have := hkid j hx; have := h.hn; omega
  · have := h.hn; omega
/-- a new node behind the map and the append -/
theorem NumJ.fin {nm so : By} {we wb wf W2 : World} {nv nv' : Value} {br bk bd : Nat} {us : List Value} {G : Nat → Prop} {rl kl : List (By × Value)} {dl : List ((Nat × Nat) × Value)}
    (h : NumJ ops R B base n0 w wr N L b kidv Nk Bk ks L.length c) (hX : OrdX 144 114 ops (fun j => R j ∨ (n0 ≤ j ∧ j < n0 + 2) ∨ kidv.ownBlock = some j) Bk base wr b Nk nv br bk bd us G rl kl dl)
    (hn : OkN ops (.mk nm so L)) (hlL : L.length ≤ 1000000) (hf : afind kl (keyK nm so ks) = none)
    (hu : Upd (fun j => j = bk) wr W2) (hm : MpR strV W2 bk (aput kl (keyK nm so ks) (natV Nk.length))) (hA : Ext W2 wb)
    (hG : Grew base 144 3 nv (Nk.length + 1) (nCells Nk us ++ [.string nm, .bool (!decide (so = nul)), kidv]) wb we nv') (hS : Upd (fun j => j = b) we wf)
    (hbox : wf.heap[b]? = some (.cells #[.map (some br), nv', .map (some bk), .map (some bd)] 114 (0, 0))) :
    ∃ N' B', OrdR 144 114 ops R B' base wf b N' ∧ Upd B w wf ∧ (∀ j, B' j → B j ∨ w.heap.size ≤ j) ∧ N <+: N' ∧ N'.length ≤ c + 1 ∧ Nk.length < N'.length ∧ (ng N' Nk.length).1 = .mk nm so L := by
  have hV : ∀ k, kidv.ownBlock = some k → n0 + 2 ≤ k ∧ k < wr.heap.size := fun k hk => ⟨(h.own.lt k hk).1, own_lt h.own k hk⟩
  have hBl := ord_lt h.ord
  have hn0 := h.size
  have hbn := h.bn
  have hs1 := hu.size
  have hs2 := hA.size
  have hs3 := hG.upd.size
  have hs4 := hS.size
  have hbb := hX.bb
  have hU1 : Upd Bk wr we := (((Upd.refl Bk wr).trans' hu (fun i hi e => by rw [e]; exact hbb.2.2.1)).ext hA).trans' hG.upd (fun i hi e => hX.bn i e)
  have hU : Upd Bk wr wf := hU1.trans' hS (fun i hi e => by rw [e]; exact hbb.1)
  have hnv' : ∀ k, nv'.ownBlock = some k → nv.ownBlock = some k ∨ wr.heap.size ≤ k := fun k hk => by
    rcases hG.where_ with e | e
    · rw [e] at hk; exact .inl hk
    · rw [e] at hk; injection hk with hk; exact .inr (by omega)
  have hne : ∀ c, Bk c → nv.ownBlock ≠ some c → nv'.ownBlock ≠ some c := fun c hc h1 e => by
    rcases hnv' c e with h8 | h8
    · exact h1 h8
    · have := (hBl c hc).2.1; omega
  have hown : wf.ownsRow base 144 3 nv' (Nk.length + 1) (nCells Nk us ++ [.string nm, .bool (!decide (so = nul)), kidv]) := own_kept hG.own hS (fun k hk e => hne b hbb.1 hX.dn.1 (by rw [← e]; exact hk))
  have hkm : ∀ c, c ≠ bk → Bk c → nv.ownBlock ≠ some c → c ≠ b → ∀ o, wr.heap[c]? = some o → wf.heap[c]? = some o := fun c h1 h2 h3 h4 o ho => hS.heap (hG.upd.heap (hA.heap (hu.heap ho h1) (fun x => x)) h3) h4
  have hmp : ∀ {κ : Type} [DecidableEq κ] {enc : κ → Value} {l : List (κ × Value)} (c : Nat), c ≠ bk → Bk c → nv.ownBlock ≠ some c → c ≠ b → MpR enc wr c l → MpR enc wf c l := fun c h1 h2 h3 h4 hm => by
    obtain ⟨es, cl, e1, e2⟩ := hm
    exact ⟨es, cl, hkm c h1 h2 h3 h4 _ e1, e2⟩
  have hknown : MpR strV wf bk (aput kl (keyK nm so ks) (natV Nk.length)) := ((hm.ext hA).kept hG.upd hX.dn.2.2.1).kept hS (fun e => hX.dis.2.1 e.symm)
  have hsl : SlR (fun k => kidv.ownBlock = some k) wr 1 kidv ks.length (ks.map natV) := by have := SlR.of_own h.own; rw [← h.len] at this; exact this
  have hP := hX.push (t := .mk nm so L) (ks := ks) (u := kidv) (V := fun k => kidv.ownBlock = some k) (R0 := R) (w' := wf) (nv' := nv') h.lt (by rw [h.map, List.take_length]; rfl) hf ⟨hn.1, hn.2.1⟩ hn.2.2.1 (by rw [h.len]; exact hlL)
    (hU.mono (fun k hk hx => .inl hx)) hbox (hmp br hX.dis.2.2.2.1 hbb.2.1 hX.dn.2.1 (fun e => hX.dis.1 e.symm) hX.rank) (hmp bd (fun e => hX.dis.2.2.2.2.2 e.symm) hbb.2.2.2 hX.dn.2.2.2 (fun e => hX.dis.2.2.1 e.symm) hX.done) hknown hown
    (fun k hk => (hnv' k hk).imp id (fun e => ⟨e, own_lt hown k hk⟩)) (by omega) hsl (fun k hk => ⟨.inr (.inr hk), by have := (hV k hk).1; omega, (hV k hk).2⟩)
    (fun k hk => ⟨.inl hk, by have := h.rb k hk; omega, fun e => by have := h.rb k hk; have := hV k e; omega⟩)
  refine ⟨_, _, ⟨_, _, _, _, _, _, _, _, _, hP⟩, h.upd.trans' hU (fun i hi hx => ?_), fun j hj => ?_, h.pre.trans (List.prefix_append _ _), by rw [List.length_append, List.length_singleton]; have := h.cnt; omega, by simp, by rw [ng_last]⟩
  · have := h.hn
    rcases h.blk i hx with h8 | h8
    · exact h8
    · omega
  · have := h.hn
    rcases hj with hj | hj
    · rcases h.blk j hj with h8 | h8
      · exact .inl h8
      · exact .inr (by omega)
    · exact .inr (by omega)
end
theorem infoN : (Tryz.prog.info? 144).map (fun i => (i.zero, i.size, i.bytes)) = some (some (.agg #[.string ⟨#[]⟩, .bool false, .slice none 0 0]), 3, 48) := by kernel_rfl
set_option maxRecDepth 100000 in
set_option maxHeartbeats 2000000 in
theorem number_x (ops : List By) (base b : Nat) : ∀ (t : Tm) (N : List Nt) (v : Value) (R B T : Nat → Prop) (w : World), OrdR 144 114 ops R B base w b N → TmR T w t v → (∀ k, T k → k < base) → base ≤ w.heap.size → (∀ j, R j → base ≤ j ∧ j < w.heap.size) → N.length + t.size ≤ 100000 →
    (∀ x ∈ sbts t, OkN ops x) → (∀ W, Upd (fun j => base ≤ j) w W → Lib.TabIs Tryz.prog W "internal/strconv.uint64pow10" .u64 Lib.pow10Tab) →
    Calls Tryz.prog 77 #[.pointer (some ⟨b, 0, none⟩), v] w fun e w' => ∃ q N' B', e = .returned (natV q) ∧ OrdR 144 114 ops R B' base w' b N' ∧ Upd B w w' ∧ (∀ j, B' j → B j ∨ w.heap.size ≤ j) ∧ N <+: N' ∧ N'.length ≤ N.length + t.size ∧ q < N'.length ∧ (ng N' q).1 = t := by
  refine Tm.ind (fun nm so L ih => ?_)
  intro N v R B T w hO hT hTb hbase hR hsz hnm hpow
  obtain ⟨a, cap, rfl, hT⟩ := hT
  dsimp only [tV, Tm.name, Tm.sort, Tm.kids] at hT ⊢
  have HTL := Lib.hid hT
  have HIH := Lib.hid ih
  have HTb := Lib.hid hTb
  have HNM := Lib.hid hnm
  have HPW := Lib.hid hpow
  have hroom : N.length + sizes L + 1 ≤ 100000 := by rw [size_eq] at hsz; simp only [Tm.kids] at hsz; omega
  have HR0 := Lib.hid hroom
  have HSZ : Hid ((Tm.mk nm so L).size = sizes L + 1) := Lib.hid (size_eq _)
  have hlL : L.length ≤ 100000 := by have h1 := length_le_sizes L; omega
  clear ih hT hsz hroom hTb hnm hpow
  have HZ : Hid (Ext w ((w.alloc (.cells #[.string nm, .string so, .slice a L.length cap] 25)).alloc (.cells #[.string nm, .bool (!decide (so = nul)), .slice none 0 0] 144))) := Lib.hid (((Upd.refl (fun _ => False) w).alloc _).alloc _)
  have HBT : Hid (((w.alloc (.cells #[.string nm, .string so, .slice a L.length cap] 25)).alloc (.cells #[.string nm, .bool (!decide (so = nul)), .slice none 0 0] 144)).heap[w.heap.size]? = some (.cells #[.string nm, .string so, .slice a L.length cap] 25 (0, 0))) := Lib.hid (allocOld (alloc0 w (.cells #[.string nm, .string so, .slice a L.length cap] 25)) (.cells #[.string nm, .bool (!decide (so = nul)), .slice none 0 0] 144))
  have HBN : Hid (((w.alloc (.cells #[.string nm, .string so, .slice a L.length cap] 25)).alloc (.cells #[.string nm, .bool (!decide (so = nul)), .slice none 0 0] 144)).heap[w.heap.size + 1]? = some (.cells #[.string nm, .bool (!decide (so = nul)), .slice none 0 0] 144 (0, 0))) := Lib.hid (alloc_at (w.alloc (.cells #[.string nm, .string so, .slice a L.length cap] 25)) (.cells #[.string nm, .bool (!decide (so = nul)), .slice none 0 0] 144) (n := w.heap.size + 1) (by simp))
  have HJ : Hid (NumJ ops R B base w.heap.size w ((w.alloc (.cells #[.string nm, .string so, .slice a L.length cap] 25)).alloc (.cells #[.string nm, .bool (!decide (so = nul)), .slice none 0 0] 144)) N L b (.slice none 0 0) N B [] 0 N.length) := Lib.hid ⟨((hO.reserve).ext HZ.out).weaken (fun j hj => by
      rcases hj with hj | hj | hj
      · exact .inl hj
      · exact .inr hj.1
      · simp [Value.ownBlock] at hj), ⟨rfl, .inl ⟨rfl, rfl⟩⟩, rfl, rfl, fun q hq => by simp at hq, fun j hj => .inl hj, HZ.out.mono (fun _ _ x => x.elim), by simp, List.prefix_refl _, Nat.le_refl _, rfl, hbase, hR, fun j hj => ⟨(ord_lt hO j hj).1, (ord_lt hO j hj).2.1⟩⟩
  have HB0 := Lib.hid hbase
  have HRR := Lib.hid hR
  clear hO hbase hR
  have hon := HNM.out (.mk nm so L) (mem_sbts_self _)
  obtain ⟨hn1, hn2, hn3, hn4, hn5⟩ := hon
  simp only [Tm.name, Tm.sort] at hn1 hn2 hn3 hn4 hn5
  have HOK := Lib.hid (And.intro hn1 (And.intro hn2 hn3))
  have s1 : ¬ 9223372036854775807 < ByteArray.size nm + 1 := by omega
  have s2 : ¬ 9223372036854775807 < ByteArray.size nm + 1 + ByteArray.size so := by omega
  have s3 := empty_dec so
  have HN45 := Lib.hid (And.intro hn4 hn5)
  clear hn1 hn2 hn3 hn4 hn5
  have t0 := cellRow HBT.out 0 (.string nm) rfl
  go_enter Tryz.func77, Tryz.ntmps77
  go_wp2_with fail
  clear s1 s2 s3 t0
  go_loopg [6, 27] L.length (fun gk keyv iv wr => ∃ (k : Nat) (kidv : Value) (Nk : List Nt) (Bk : Nat → Prop) (ks : List Nat), keyv = .string (keyK nm so ks) ∧ iv = .int .i64 (k : Int) ∧ gk = L.length - k ∧ k ≤ L.length ∧ Hid (NumJ ops R B base w.heap.size w wr N L b kidv Nk Bk ks k (N.length + sizes (L.take k))) ∧ Hid (wr.heap[w.heap.size]? = some (.cells #[.string nm, .string so, .slice a L.length cap] 25 (0, 0))) ∧ Hid (wr.heap[w.heap.size + 1]? = some (.cells #[.string nm, .bool (!decide (so = nul)), kidv] 144 (0, 0))))
  case atStart => exact ⟨0, _, N, B, [], rfl, rfl, rfl, Nat.zero_le _, HJ, HBT, HBN⟩
  case round =>
    clear HJ HBT HBN
    obtain ⟨k, kidv, Nk, Bk, ks, rfl, rfl, rfl, hk, HJ, HBT, HBN⟩ := hrel
    obtain ⟨ia, ic, hi1⟩ := own_shape HJ.out.own
    subst hi1
    by_cases hlt : k < L.length
    · obtain ⟨g, off, rfl, _, hat⟩ := (HTL.out.kept HJ.out.upd (fun j hj hx => by have := HTb.out j hj; have := (HJ.out.bb j hx).1; omega)).at_ (by omega)
      obtain ⟨xa, xc, q0, q1, q2, hkid⟩ := hat k hlt
      have z0 : (0 : Int) ≤ (k : Int) := by omega
      have z1 : (k : Int) < (L.length : Int) := by omega
      have z2 : decide ((k : Int) < (L.length : Int)) = true := decide_eq_true z1
      have z2' : decide (k < L.length) = true := decide_eq_true hlt
      have hmem := tg_mem L k hlt
      have hst := sizes_take L k hlt
      have hsl := sizes_take_le L (k + 1)
      have hcn := HJ.out.cnt
      have HIX := Lib.hid (fun W (hW : Ext wr W) => HIH.out (tg L k) hmem Nk _ _ Bk T W (HJ.out.ord.ext hW) (TmR.ext ⟨xa, xc, rfl, hkid⟩ hW) HTb.out (by have := hW.size; have := HJ.out.size; have := HJ.out.bn; omega) (fun j hj => by
        rcases hj with hj | hj | hj
        · have := HJ.out.rb j hj; have := HJ.out.size; have := hW.size; omega
        · have := HJ.out.bn; have := HJ.out.size; have := hW.size; omega
        · have := HJ.out.own.lt j hj; have := HJ.out.bn; have := hW.size; omega) (by have := HR0.out; omega) (fun y hy => HNM.out y (by rw [sbts_eq]; exact List.mem_cons_of_mem _ (List.mem_flatMap.2 ⟨_, hmem, hy⟩)))
        (fun W2 hW2 => HPW.out W2 (((HJ.out.upd.mono (fun j _ hj => (HJ.out.bb j hj).1)).ext hW).trans hW2)))
      dsimp only [tV] at HIX
      have HCN : Hid (Nk.length + (tg L k).size ≤ N.length + sizes (L.take (k + 1))) := Lib.hid (by omega)
      obtain ⟨x, hx⟩ : ∃ x, tg L k = x := ⟨_, rfl⟩
      have HX := Lib.hid hx
      rw [hx] at q0 q1 q2 HIX HCN
      rw [← Nat.add_assoc] at q1 q2
      have hal : Ext wr (wr.alloc (.cells #[.string x.name, .string x.sort, .slice xa x.kids.length xc] 25)) := (Upd.refl _ wr).alloc _
      have HAL := Lib.hid hal
      have e0 := cellRow (alloc0 wr (.cells #[.string x.name, .string x.sort, .slice xa x.kids.length xc] 25)) 0 (.string x.name) rfl
      have e1 := cellRow (alloc0 wr (.cells #[.string x.name, .string x.sort, .slice xa x.kids.length xc] 25)) 1 (.string x.sort) rfl
      have e2 := cellRow (alloc0 wr (.cells #[.string x.name, .string x.sort, .slice xa x.kids.length xc] 25)) 2 (.slice xa x.kids.length xc) rfl
      clear hmem hst hsl hcn hx hat hkid hal
      go_wp2_with fail
      refine (HIX.out _ HAL.out).mono ?_
      rintro e w5 ⟨q, N', B', rfl, ho5, hu5, hb5, hp5, hc5, hq5, hx5⟩
      have HJ5 := Lib.hid ((HJ.out.ext HAL.out).call ho5 hu5 hb5 hp5 (Nat.le_trans hc5 HCN.out))
      have HQ5 := Lib.hid (And.intro hq5 hx5)
      have HBT5 := Lib.hid (hu5.heap (allocOld HBT.out _) (fun h => (HJ.out.resB _ h).1 (by omega)))
      have HBN5 := Lib.hid (hu5.heap (allocOld HBN.out _) (fun h => (HJ.out.resB _ h).1 (by omega)))
      clear ho5 hu5 hb5 hp5 hc5 hq5 hx5 HIX HAL HJ HBT HBN q0 q1 q2 e0 e1 e2 HTL HIH
      have n2 := cellRow HBN5.out 2 (.slice ia k ic) rfl
      have fn5 := fun i => frozenRow HBN5.out i
      have hs5 : w.heap.size + 2 ≤ w5.heap.size := HJ5.out.size
      obtain ⟨iI, hi, hz0, hz1, hz2⟩ := info_parts infoI
      go_wp2_with (at_builtin; refine wpList_append_at _ rfl (.tmp 35) (.tmp 37) 59 rfl (w.heap.size + 2) 3 iI (.int .i64 0) 1 8 Tryz.underlying59 hi hz0 hz1 hz2 rfl (by decide) _ _ _ rfl (HJ5.out.own.alloc _) _ 1 1 [natV q] rfl rfl ?c1 ?c2 ?c3 ?c4 ?c5 ?_)
      case c1 =>
        intro l u hl
        match l, hl with
        | 0, hl => simp only [List.getElem?_cons_zero, Option.some.injEq] at hl; subst hl; simp only [Addr.add]; exact cellRow (alloc_at _ _ (by simp)) 0 _ rfl
      case c2 => intro u hu; simp at hu; subst hu; rfl
      case c3 => unfold maxLen; omega
      case c4 => omega
      case c5 => simp; omega
      intro v8 w8 hG
      obtain ⟨i8, c8, rfl⟩ := own_shape hG.own
      have hkn : ∀ j, j < w.heap.size + 2 → ¬ ((Value.slice ia k ic).ownBlock = some j) := fun j hj e => by have := (HJ5.out.own.lt j e).1; omega
      have HBN8 := Lib.hid (hG.upd.heap (allocOld HBN5.out _) (hkn _ (by omega)))
      have HBT8 := Lib.hid (hG.upd.heap (allocOld HBT5.out _) (hkn _ (by omega)))
      have HS9 : Hid (Upd (fun j => j = w.heap.size + 1) w8 (w8.setCell ⟨w.heap.size + 1, 2, none⟩ (.slice i8 (k + 1) c8))) := Lib.hid ((Upd.refl (fun j => j = w.heap.size + 1) w8).setCell (p := ⟨w.heap.size + 1, 2, none⟩) (.inl rfl) _)
      have HJ9 := Lib.hid (HJ5.out.grow ((Upd.refl (fun _ => False) _).alloc _) hG HS9.out HQ5.out.1 hlt (by rw [HQ5.out.2, HX.out]))
      have HBN9 := Lib.hid (setBlock HBN8.out 2 (.slice i8 (k + 1) c8))
      have HBT9 := Lib.hid (HS9.out.heap HBT8.out (by omega))
      have hqb : q < 100000 := by have h1 := HQ5.out.1; have h2 := HJ5.out.cnt; have h3 := HR0.out; have h4 := sizes_take_le L (k + 1); omega
      have HIT := Lib.hid (itoa_x q _ (by omega) (HPW.out _ (HJ9.out.upd.mono (fun j _ hj => (HJ9.out.bb j hj).1))))
      have n8 := cellRow HBN8.out 2 (.slice ia k ic) rfl
      have fn8 := fun i => frozenRow HBN8.out i
      have hky := key_size nm so ks (fun p hp => by have h1 := HJ5.out.lt p hp; have h2 := HJ5.out.cnt; have h3 := HR0.out; have h4 := sizes_take_le L (k + 1); omega)
      have hns := nstr_size q
      have hkl := HJ5.out.len
      have h45 := HN45.out
      have s4 : ¬ 9223372036854775807 < 1 + ByteArray.size (nstr q) := by omega
      have s5 : ¬ 9223372036854775807 < ByteArray.size (keyK nm so ks) + (1 + ByteArray.size (nstr q)) := by omega
      have HKY : Hid (keyK nm so ks ++ (spB ++ nstr q) = keyK nm so (ks ++ [q])) := Lib.hid (keyK_snoc _ _ _ _).symm
      clear hG hkn hky hns hkl h45 n2 fn5 HBN5 HBT5 HJ5 hi hz0 hz1 hz2
      go_wp2_with fail
      refine HIT.out.mono ?_
      rintro e w10 ⟨rfl, hw10⟩
      have HJ10 := Lib.hid (HJ9.out.ext hw10)
      have HBN10 := Lib.hid (hw10.heap HBN9.out (fun h => h))
      have HBT10 := Lib.hid (hw10.heap HBT9.out (fun h => h))
      clear hw10 n8 fn8 HIT HJ9 HBN9 HBT9 HBN8 HBT8 HS9
      go_wp2_with fail
      go_roundg (L.length - (k + 1))
      case measure => omega
      case rel => exact ⟨k + 1, _, N', _, ks ++ [q], by rw [← HKY.out]; rfl, by go_num, rfl, by omega, HJ10, HBT10, HBN10⟩
    · obtain rfl : k = L.length := by omega
      have z2 : decide ((L.length : Int) < (L.length : Int)) = false := decide_eq_false (by omega)
      obtain ⟨nv, br, bk, bd, us, G, rl, kl, dl, hX⟩ := HJ.out.ord
      obtain ⟨na, nc, hnv⟩ := own_shape hX.own
      subst hnv
      have o2 := cellRow hX.box 2 (.map (some bk)) rfl
      have hl := MpR.get (P := Tryz.prog) (t := 110) (strKey Tryz.underlying9) Tryz.underlying110 (z := .int .i64 0) (Tryz.zeroValue3 wr) hX.known (keyK nm so ks) true
      simp only [if_true] at hl
      have HX := Lib.hid hX
      have HON := Lib.hid (HNM.out (.mk nm so L) (mem_sbts_self _))
      have HCT : Hid (N.length + sizes (L.take L.length) + 1 = N.length + (Tm.mk nm so L).size) := Lib.hid (by rw [List.take_length, HSZ.out]; omega)
      cases hf : afind kl (keyK nm so ks) with
      | some v =>
        rw [hf] at hl
        obtain ⟨i, hi, hv, he⟩ := hX.found (t := .mk nm so L) (ks := ks) (by rw [HJ.out.map, List.take_length]; rfl) ⟨HON.out.1, HON.out.2.1⟩ hf
        subst hv
        simp only [Option.getD_some, Option.isSome_some] at hl
        have HI := Lib.hid (And.intro hi he)
        clear hX hf hi he
        go_wp2_with fail
        go_ret
        refine ⟨i, Nk, Bk, rfl, ⟨_, _, _, _, _, _, _, _, _, HX.out.weaken (fun j hj => .inl hj)⟩, HJ.out.upd, fun j hj => (HJ.out.blk j hj).imp id (fun e => by omega), HJ.out.pre, ?_, HI.out.1, HI.out.2⟩
        have h1 := HJ.out.cnt
        have h2 := HCT.out
        omega
      | none =>
        rw [hf] at hl
        simp only [Option.getD_none, Option.isSome_none] at hl
        have HF := Lib.hid hf
        have o1 := cellRow hX.box 1 (.slice na Nk.length nc) rfl
        obtain ⟨W2, hput, hmp2, hu2⟩ := MpR.put (P := Tryz.prog) (t := 110) (strKey Tryz.underlying9) Tryz.underlying110 (show MpR strV wr.drew bk kl from hX.known) (keyK nm so ks) (natV Nk.length)
        have HM2 := Lib.hid hmp2
        have HU2 : Hid (Upd (fun j => j = bk) wr W2) := Lib.hid (Upd.ofDrew hu2)
        have hnl : Nk.length ≤ 100000 := by have h1 := HJ.out.cnt; have h2 := HR0.out; have h3 := sizes_take_le L L.length; omega
        have hszr := HJ.out.size
        have hbn := HJ.out.bn
        clear hX hf hmp2 hu2
        go_wp2_with fail
        go_still_tail 10, (by kernel_rfl)
        change wpList _ _ _ _ _ wr.drew
        go_wp2_with fail
        have HB2 := Lib.hid (HU2.out.heap HX.out.box (fun e => HX.out.dis.2.1 e))
        have HN2 := Lib.hid (HU2.out.heap HBN.out (fun e => (HJ.out.resB _ HX.out.bb.2.2.1).1 (by omega)))
        have HOWN : Hid ((W2.alloc (.cells #[.string nm, .bool (!decide (so = nul)), .slice ia L.length ic] 144)).drew.ownsRow base 144 3 (.slice na Nk.length nc) Nk.length (nCells Nk us)) := Lib.hid (own_kept HX.out.own (HU2.out.ext ((Upd.refl (fun _ => False) W2).alloc _)).drew (fun k hk e => HX.out.dn.2.2.1 (by rw [← e]; exact hk)))
        have HSW := Lib.hid (show base ≤ W2.heap.size from by have := HU2.out.size; omega)
        have HNEW : Hid (∀ (j : Nat) (u : Value), [Value.string nm, .bool (!decide (so = nul)), .slice ia L.length ic][j]? = some u → (W2.alloc (.cells #[.string nm, .bool (!decide (so = nul)), .slice ia L.length ic] 144)).drew.cell? ((⟨W2.heap.size, 0, none⟩ : Addr).add j) = some u) := Lib.hid (fun j u hj => by
          match j, hj with
          | 0, hj => simp only [List.getElem?_cons_zero, Option.some.injEq] at hj; subst hj; simp only [Addr.add]; exact cellRow (w := W2.alloc (.cells #[.string nm, .bool (!decide (so = nul)), .slice ia L.length ic] 144)) (alloc0 _ _) 0 _ rfl
          | 1, hj => simp at hj; subst hj; simp only [Addr.add]; exact cellRow (w := W2.alloc (.cells #[.string nm, .bool (!decide (so = nul)), .slice ia L.length ic] 144)) (alloc0 _ _) 1 _ rfl
          | 2, hj => simp at hj; subst hj; simp only [Addr.add]; exact cellRow (w := W2.alloc (.cells #[.string nm, .bool (!decide (so = nul)), .slice ia L.length ic] 144)) (alloc0 _ _) 2 _ rfl)
        have HONE : Hid (∀ u ∈ [Value.string nm, .bool (!decide (so = nul)), .slice ia L.length ic], u.oneCell' = true) := Lib.hid (fun u hu => by simp at hu; rcases hu with h | h | h <;> (subst h; rfl))
        have HLM : Hid (Nk.length + 1 ≤ maxLen ∧ (Nk.length + 1) * 48 ≤ 140737488355328 ∧ base ≤ (W2.alloc (.cells #[.string nm, .bool (!decide (so = nul)), .slice ia L.length ic] 144)).drew.heap.size) := Lib.hid ⟨by unfold maxLen; omega, by omega, by have := HSW.out; simp; omega⟩
        have b1 := cellRow HB2.out 1 (.slice na Nk.length nc) rfl
        have m0 := cellRow HN2.out 0 (.string nm) rfl
        have m1 := cellRow HN2.out 1 (.bool (!decide (so = nul))) rfl
        have m2 := cellRow HN2.out 2 (.slice ia L.length ic) rfl
        have eb1 := World.new_ne W2 _ b1
        have em0 := World.new_ne W2 _ m0
        have em1 := World.new_ne W2 _ m1
        have em2 := World.new_ne W2 _ m2
        have HQ1 : Hid (¬ (Value.slice na Nk.length nc).ownBlock = some b) := Lib.hid HX.out.dn.1
        have HQ2 : Hid (¬ (Value.slice na Nk.length nc).ownBlock = some (w.heap.size + 1)) := Lib.hid (fun e => (HJ.out.resB _ (HX.out.bn _ e)).1 (by omega))
        obtain ⟨iN, hi, hz0, hz1, hz2⟩ := info_parts infoN
        clear hput hl o1 o2
        have ab1 : (W2.alloc (.cells #[.string nm, .bool (!decide (so = nul)), .slice ia L.length ic] 144)).cell? ⟨b, 1, none⟩ = some (.slice na Nk.length nc) := cellRow (allocOld HB2.out (.cells #[.string nm, .bool (!decide (so = nul)), .slice ia L.length ic] 144)) 1 _ rfl
        go_region_law (refine step_append_at _ (.tmp 71) (.tmp 73) 112 rfl base 144 iN (.agg #[.string ⟨#[]⟩, .bool false, .slice none 0 0]) 3 48 Tryz.underlying112 hi hz0 hz1 hz2 rfl (by decide) _ _ _ rfl HOWN.out _ 1 1 _ rfl rfl HNEW.out HONE.out HLM.out.1 HLM.out.2.1 HLM.out.2.2 ?_; intro v7 w7 hG1; obtain ⟨a7, c7, hv7⟩ := own_shape hG1.own; subst hv7; have fb7 := fun i => frozenRow (hG1.upd.heap (show (W2.alloc (.cells #[.string nm, .bool (!decide (so = nul)), .slice ia L.length ic] 144)).drew.heap[b]? = _ from allocOld HB2.out _) HQ1.out) i; have db7 := cellRow (hG1.upd.heap (show (W2.alloc (.cells #[.string nm, .bool (!decide (so = nul)), .slice ia L.length ic] 144)).drew.heap[b]? = _ from allocOld HB2.out _) HQ1.out) 1 (.slice na Nk.length nc) rfl; have hG1' := Lib.hid hG1; clear hG1)
        all_goals (try (go_wp2_with fail))
        all_goals go_ret
        all_goals (
          have hbox := setBlock (hG1'.out.upd.heap (show (W2.alloc (.cells #[.string nm, .bool (!decide (so = nul)), .slice ia L.length ic] 144)).drew.heap[b]? = _ from allocOld HB2.out _) HQ1.out) 1 (.slice a7 (Nk.length + 1) c7)
          obtain ⟨N', B', k1, k2, k3, k4, k5, k6, k7⟩ := HJ.out.fin HX.out HON.out (by omega) HF.out HU2.out HM2.out (((Upd.refl (fun _ => False) W2).alloc (.cells #[.string nm, .bool (!decide (so = nul)), .slice ia L.length ic] 144)).drew) hG1'.out ((Upd.refl (fun j => j = b) w7).setCell (p := ⟨b, 1, none⟩) (.inl rfl) (.slice a7 (Nk.length + 1) c7)) hbox
          exact ⟨Nk.length, rfl, N', B', k1, k2, k3, k4, by have h9 := HCT.out; omega, k6, k7⟩)

end Go.Proofs.YtiimccogojkldaaGreatDoor

/- The order: compare and a new order. -/
namespace Go.Proofs.YtiimccogojkldaaGreatDoor
open Go.RowKit Go.Hw Go
set_option linter.unusedVariables false
set_option linter.unusedSimpArgs false

open Tm
theorem ord_kb {ops : List By} {R B : Nat → Prop} {base b : Nat} {w : World} {N : List Nt} (h : OrdR 144 114 ops R B base w b N) : ∀ i, i < N.length → (ng N i).2.length ≤ 1000000 := by
  obtain ⟨nv, br, bk, bd, us, G, rl, kl, dl, h⟩ := h
  exact h.kb
set_option maxRecDepth 100000 in
set_option maxHeartbeats 2000000 in
theorem ocomp_x (ops : List By) (base b : Nat) (N : List Nt) (a c : Tm) (va vc : Value) (B T : Nat → Prop) (w : World) (hO : OrdR 144 114 ops (fun _ => False) B base w b N) (ha : TmR T w a va) (hc : TmR T w c vc) (hT : ∀ k, T k → k < base) (hb : base ≤ w.heap.size) (hsz : N.length + a.size + c.size ≤ 100000)
    (hna : ∀ x ∈ sbts a, OkN ops x) (hnc : ∀ x ∈ sbts c, OkN ops x) (hpow : ∀ W, Upd (fun j => base ≤ j) w W → Lib.TabIs Tryz.prog W "internal/strconv.uint64pow10" .u64 Lib.pow10Tab) :
    Calls Tryz.prog 43 #[.pointer (some ⟨b, 0, none⟩), va, vc] w fun e w' => ∃ N' B', e = .returned (.bool (gt (ixF ops) a c)) ∧ OrdR 144 114 ops (fun _ => False) B' base w' b N' ∧ Upd B w w' ∧ (∀ j, B' j → B j ∨ w.heap.size ≤ j) ∧ N'.length ≤ N.length + a.size + c.size := by
  obtain ⟨aa, ac, rfl, ha⟩ := ha
  obtain ⟨ca, cc, rfl, hc⟩ := hc
  dsimp only [tV]
  have HTA : Hid (TmR T w a (tV a (.slice aa a.kids.length ac))) := Lib.hid ⟨aa, ac, rfl, ha⟩
  have HTC : Hid (TmR T w c (tV c (.slice ca c.kids.length cc))) := Lib.hid ⟨ca, cc, rfl, hc⟩
  have HOO := Lib.hid hO
  have HLT := Lib.hid (ord_lt hO)
  have HBS := Lib.hid hb
  have HTT := Lib.hid hT
  have HPW := Lib.hid hpow
  have HSZ := Lib.hid hsz
  have HZ : Hid (Ext w ((w.alloc (.cells #[.string a.name, .string a.sort, .slice aa a.kids.length ac] 25)).alloc (.cells #[.string c.name, .string c.sort, .slice ca c.kids.length cc] 25))) := Lib.hid (((Upd.refl (fun _ => False) w).alloc _).alloc _)
  have hbA : ((w.alloc (.cells #[.string a.name, .string a.sort, .slice aa a.kids.length ac] 25)).alloc (.cells #[.string c.name, .string c.sort, .slice ca c.kids.length cc] 25)).heap[w.heap.size]? = some (.cells #[.string a.name, .string a.sort, .slice aa a.kids.length ac] 25 (0, 0)) := allocOld (alloc0 w (.cells #[.string a.name, .string a.sort, .slice aa a.kids.length ac] 25)) (.cells #[.string c.name, .string c.sort, .slice ca c.kids.length cc] 25)
  have hbB : ((w.alloc (.cells #[.string a.name, .string a.sort, .slice aa a.kids.length ac] 25)).alloc (.cells #[.string c.name, .string c.sort, .slice ca c.kids.length cc] 25)).heap[w.heap.size + 1]? = some (.cells #[.string c.name, .string c.sort, .slice ca c.kids.length cc] 25 (0, 0)) := alloc_at (w.alloc (.cells #[.string a.name, .string a.sort, .slice aa a.kids.length ac] 25)) (.cells #[.string c.name, .string c.sort, .slice ca c.kids.length cc] 25) (n := w.heap.size + 1) (by simp)
  have hs2 : ((w.alloc (.cells #[.string a.name, .string a.sort, .slice aa a.kids.length ac] 25)).alloc (.cells #[.string c.name, .string c.sort, .slice ca c.kids.length cc] 25)).heap.size = w.heap.size + 2 := by simp
  have hbd : ∀ j, B j → base ≤ j := fun j hj => (ord_lt hO j hj).1
  have HA := Lib.hid (fun W (hW : Ext w W) => number_x ops base b a N _ (fun _ => False) B T W (hO.ext hW) (TmR.ext ⟨aa, ac, rfl, ha⟩ hW) hT (Nat.le_trans hb hW.size) (fun j h => h.elim) (by omega) hna (fun W2 h2 => hpow W2 ((hW.mono (fun _ _ x => x.elim)).trans h2)))
  have HC := Lib.hid (fun W (hW : Upd (fun j => base ≤ j) w W) N' B' (ho : OrdR 144 114 ops (fun _ => False) B' base W b N') (hl : N'.length ≤ N.length + a.size) => number_x ops base b c N' _ (fun _ => False) B' T W ho (TmR.kept ⟨ca, cc, rfl, hc⟩ hW (fun k hk h => by have := hT k hk; omega)) hT (Nat.le_trans hb hW.size) (fun j h => h.elim) (by omega) hnc (fun W2 h2 => hpow W2 (hW.trans h2)))
  have HG := Lib.hid (fun W N' B' (ho : OrdR 144 114 ops (fun _ => False) B' base W b N') (hl : N'.length ≤ 100000) i j (hi : i < N'.length) (hj : j < N'.length) V (hv : gt (ixF ops) (ng N' i).1 (ng N' j).1 = V) => show Calls Tryz.prog 76 #[.pointer (some ⟨b, 0, none⟩), natV i, natV j] W fun e W' => e = .returned (.bool V) ∧ OrdR 144 114 ops (fun _ => False) B' base W' b N' ∧ Upd B' W W' from hv ▸ greater_x ops (fun _ => False) B' base b N' hl (ord_kb ho) (i + j + 1) i j (Nat.lt_succ_self _) hi hj W ho)
  dsimp only [tV] at HA HC
  have HBD := Lib.hid hbd
  clear hO ha hc hT hb hsz hna hnc hpow hbd
  go_enter Tryz.func43, Tryz.ntmps43
  go_wp2_with fail
  generalize hw3 : ((w.alloc (.cells #[.string a.name, .string a.sort, .slice aa a.kids.length ac] 25)).alloc (.cells #[.string c.name, .string c.sort, .slice ca c.kids.length cc] 25)) = w3 at *
  have HS2 := Lib.hid hs2
  clear hw3 hs2
  have b0 := cellRow hbA 0 (.string a.name) rfl
  have b1 := cellRow hbA 1 (.string a.sort) rfl
  have b2 := cellRow hbA 2 (.slice aa a.kids.length ac) rfl
  have c0 := cellRow hbB 0 (.string c.name) rfl
  have c1 := cellRow hbB 1 (.string c.sort) rfl
  have c2 := cellRow hbB 2 (.slice ca c.kids.length cc) rfl
  have HA3 := Lib.hid (HA.out w3.drew HZ.out.drew)
  have HBA := Lib.hid hbA
  have HBB := Lib.hid hbB
  have HU3 : Hid (Upd B w w3.drew) := Lib.hid ((HZ.out.mono (fun _ _ x => x.elim)).drew)
  clear hbA hbB
  go_region_held3 (fun w' => w'.cell? ⟨w.heap.size, 0, none⟩ = some (.string a.name) ∧ w'.cell? ⟨w.heap.size, 1, none⟩ = some (.string a.sort) ∧ w'.cell? ⟨w.heap.size, 2, none⟩ = some (.slice aa a.kids.length ac) ∧ w'.cell? ⟨w.heap.size + 1, 0, none⟩ = some (.string c.name) ∧ w'.cell? ⟨w.heap.size + 1, 1, none⟩ = some (.string c.sort) ∧ w'.cell? ⟨w.heap.size + 1, 2, none⟩ = some (.slice ca c.kids.length cc))
    (first | go_keep | exact ⟨cellRow hbA 0 (.string a.name) rfl, cellRow hbA 1 (.string a.sort) rfl, cellRow hbA 2 (.slice aa a.kids.length ac) rfl, cellRow hbB 0 (.string c.name) rfl, cellRow hbB 1 (.string c.sort) rfl, cellRow hbB 2 (.slice ca c.kids.length cc) rfl⟩)
    (first
      | (go_at_call 77; refine (HC.out _ (HU5.out.mono (fun j _ hj => HBD.out j hj)) N5 B5 HX5.out.1 HX5.out.2.2.1).mono ?_; rintro e w6 ⟨q6, N6, B6, rfl, ho6, hu6, hb6, hp6, hc6, hq6, hx6⟩; have HN5 : Hid (∀ j, j < w3.heap.size → B5 j → B j) := Lib.hid (fun j hj h => (HX5.out.2.1 j h).elim id (fun e => absurd hj (by have e' : w3.heap.size ≤ j := e; omega))); have hbA := hu6.heap HBA5.out (fun h => by have h1 := HN5.out _ (by have := HS2.out; omega) h; have := (HLT.out _ h1).2.1; omega); have hbB := hu6.heap HBB5.out (fun h => by have h1 := HN5.out _ (by have := HS2.out; omega) h; have := (HLT.out _ h1).2.1; omega); have HBA6 := Lib.hid hbA; have HBB6 := Lib.hid hbB; have HU6 := Lib.hid (HU5.out.trans' hu6 (fun j hj h => HN5.out j (by have := HS2.out; omega) h)); have HX6 := Lib.hid (And.intro ho6 (And.intro hb6 (And.intro hc6 (And.intro hq6 (And.intro hx6 hp6))))); clear ho6 hu6 hb6 hp6 hc6 hq6 hx6)
      | (go_at_call 77; refine HA3.out.mono ?_; rintro e w5 ⟨q5, N5, B5, rfl, ho5, hu5, hb5, hp5, hc5, hq5, hx5⟩; have hbA := hu5.heap HBA.out (fun h => by have := (HLT.out _ h).2.1; omega); have hbB := hu5.heap HBB.out (fun h => by have := (HLT.out _ h).2.1; omega); have HBA5 := Lib.hid hbA; have HBB5 := Lib.hid hbB; have HU5 := Lib.hid (HU3.out.trans hu5); have HS5 := Lib.hid (show w3.heap.size ≤ w5.heap.size from hu5.size); have HX5 := Lib.hid (And.intro ho5 (And.intro hb5 (And.intro hc5 (And.intro hq5 hx5)))); clear ho5 hu5 hb5 hp5 hc5 hq5 hx5)
      | (go_at_call 76; refine (HG.out _ N6 B6 HX6.out.1 (by have h1 := HX6.out.2.2.1; have h2 := HX5.out.2.2.1; have h3 := HSZ.out; omega) q5 q6 (Nat.lt_of_lt_of_le HX5.out.2.2.2.1 HX6.out.2.2.2.2.2.length_le) HX6.out.2.2.2.1 (gt (ixF ops) a c) (by rw [ng_pre HX6.out.2.2.2.2.2 HX5.out.2.2.2.1, HX5.out.2.2.2.2, HX6.out.2.2.2.2.1])).mono ?_; rintro e w7 ⟨rfl, ho7, hu7⟩; have hbA := hu7.heap HBA6.out (fun h => by have h2 := HX6.out.2.1 _ h; rcases h2 with h2 | h2; (have h1 := HN5.out _ (by have := HS2.out; omega) h2; have := (HLT.out _ h1).2.1; omega); (have := HS5.out; have := HS2.out; omega)); have hbB := hu7.heap HBB6.out (fun h => by have h2 := HX6.out.2.1 _ h; rcases h2 with h2 | h2; (have h1 := HN5.out _ (by have := HS2.out; omega) h2; have := (HLT.out _ h1).2.1; omega); (have := HS5.out; have := HS2.out; omega)); have HX7 := Lib.hid (And.intro ho7 hu7); clear ho7 hu7))
  all_goals (try (go_wp2_with fail))
  all_goals go_ret
  all_goals (
    have h6b : ∀ j, j < w3.heap.size → B6 j → B j := fun j hj h => (HX6.out.2.1 j h).elim (fun h => HN5.out j hj h) (fun e => absurd hj (by have := HS5.out; omega))
    refine ⟨N6, B6, rfl, HX7.out.1, HU6.out.trans' HX7.out.2 (fun j hj h => h6b j (by have := HS2.out; omega) h), fun j h => ?_, by have h1 := HX6.out.2.2.1; have h2 := HX5.out.2.2.1; omega⟩
    rcases HX6.out.2.1 j h with h1 | h1
    · rcases HX5.out.2.1 j h1 with h2 | h2
      · exact .inl h2
      · have h3 : w3.heap.size ≤ j := h2
        exact .inr (by have := HS2.out; omega)
    · exact .inr (by have := HS5.out; have := HS2.out; omega))
set_option maxRecDepth 100000 in
set_option maxHeartbeats 2000000 in
theorem newO_x (ops : List By) (ov : Value) (S : Nat → Prop) (base : Nat) (w : World) (hO : StR S w ov ops) (hS : ∀ k, S k → k < w.heap.size) (hd : Dif ops) (hb : base ≤ w.heap.size) (hol : ops.length ≤ 1000000) :
    Calls Tryz.prog 42 #[ov] w fun e w' => ∃ b B, e = .returned (.pointer (some ⟨b, 0, none⟩)) ∧ OrdR 144 114 ops (fun _ => False) B base w' b [] ∧ Ext w w' ∧ (∀ j, B j → w.heap.size ≤ j) := by
  obtain ⟨a, cap, rfl⟩ := SlR.shape hO
  have HO := Lib.hid hO
  have HD := Lib.hid hd
  have HB := Lib.hid hb
  have hmm := @run_makeMap Tryz.prog
  obtain ⟨n1, hn1⟩ : ∃ n, w.heap.size = n := ⟨_, rfl⟩
  obtain ⟨w5, hw5⟩ : ∃ W, (((w.alloc (.map #[] 0)).alloc (.map #[] 0)).alloc (.map #[] 0)).alloc (.cells #[.map (some w.heap.size), .slice none 0 0, .map (some (w.heap.size + 1)), .map (some (w.heap.size + 1 + 1))] 114) = W := ⟨_, rfl⟩
  have HE5 : Hid (Ext w w5) := Lib.hid (by rw [← hw5]; exact ((((Upd.refl (fun _ => False) w).alloc _).alloc _).alloc _).alloc _)
  have HM1 : Hid (MpR strV w5 w.heap.size []) := Lib.hid (by rw [← hw5]; exact ⟨#[], 0, allocOld (allocOld (allocOld (alloc0 w _) _) _) _, rfl, List.Pairwise.nil, fun _ h => by cases h⟩)
  have HM2 : Hid (MpR strV w5 (w.heap.size + 1) []) := Lib.hid (by rw [← hw5]; exact ⟨#[], 0, allocOld (allocOld (alloc_at _ _ (by simp)) _) _, rfl, List.Pairwise.nil, fun _ h => by cases h⟩)
  have HM3 : Hid (MpR pairV w5 (w.heap.size + 1 + 1) []) := Lib.hid (by rw [← hw5]; exact ⟨#[], 0, allocOld (alloc_at _ _ (by simp)) _, rfl, List.Pairwise.nil, fun _ h => by cases h⟩)
  have HBX : Hid (w5.heap[w.heap.size + 1 + 1 + 1]? = some (.cells #[.map (some w.heap.size), .slice none 0 0, .map (some (w.heap.size + 1)), .map (some (w.heap.size + 1 + 1))] 114 (0, 0))) := Lib.hid (by rw [← hw5]; exact alloc_at _ _ (by simp))
  clear hO hd hb hn1
  go_enter Tryz.func42, Tryz.ntmps42
  go_wp2_with fail
  clear hmm
  have HW5 := Lib.hid hw5
  clear hw5
  go_loopg [13] ops.length (fun gk iv wr => ∃ (k : Nat) (rl : List (By × Value)), iv = .int .i64 (k : Int) ∧ gk = ops.length - k ∧ k ≤ ops.length ∧ Hid (MpR strV wr w.heap.size rl) ∧ Hid (∀ s ∈ ops.take k, afind rl s = some (natV (ixF ops s))) ∧ Hid (Upd (fun j => j = w.heap.size) w5 wr))
  case atStart => exact ⟨0, [], rfl, rfl, Nat.zero_le _, HM1, Lib.hid (fun s hs => by simp at hs), Lib.hid (Upd.refl _ _)⟩
  case round =>
    obtain ⟨k, rl, rfl, rfl, hk, HR, HF, HU⟩ := hrel
    have HBr := Lib.hid (HU.out.heap HBX.out (by omega))
    have o0 := cellRow HBr.out 0 (.map (some w.heap.size)) rfl
    by_cases hlt : k < ops.length
    · obtain ⟨g, off, hga, hSg, hat⟩ := SlR.one_at (d := nul) (SlR.kept HO.out HE5.out (fun _ _ h => h)) (by omega)
      subst hga
      have q0 := HU.out.cell (hat k hlt) (fun e => by have := hS _ hSg; simp only at e; omega)
      have z0 : (0 : Int) ≤ (k : Int) := by omega
      have z1 : (k : Int) < (ops.length : Int) := by omega
      have z2 : decide ((k : Int) < (ops.length : Int)) = true := decide_eq_true z1
      have HST := Lib.hid (rank_step HD.out hlt HF.out)
      obtain ⟨x, hx⟩ : ∃ x, ops.getD k nul = x := ⟨_, rfl⟩
      rw [hx] at q0 HST
      obtain ⟨W2, hput, hmp2, hu2⟩ := MpR.put (P := Tryz.prog) (t := 110) (strKey Tryz.underlying9) Tryz.underlying110 HR.out x (natV k)
      have HM := Lib.hid hmp2
      have HU2 : Hid (Upd (fun j => j = w.heap.size) w5 W2) := Lib.hid (HU.out.trans hu2)
      clear hmp2 hu2 hx hat
      go_wp2_with fail
      go_roundg (ops.length - (k + 1))
      case measure => omega
      case rel => exact ⟨k + 1, _, by go_num, rfl, by omega, HM, HST, HU2⟩
    · obtain rfl : k = ops.length := by omega
      have z2 : decide ((ops.length : Int) < (ops.length : Int)) = false := decide_eq_false (by omega)
      have HFF := HF.out
      rw [List.take_length] at HFF
      have HFX := Lib.hid HFF
      clear HFF
      go_wp2_with fail
      go_ret
      have hwb := HB.out
      have hX := @OrdX.new 144 114 ops base _ _ _ _ wr rl (fun _ => False) HBr.out HR.out HFX.out (HM2.out.kept HU.out (by omega)) (HM3.out.kept HU.out (by omega)) ⟨by omega, by omega, by omega, by omega⟩ ⟨by omega, by omega, by omega, by omega, by omega, by omega⟩ ⟨fun h => h, fun h => h, fun h => h, fun h => h⟩
      refine ⟨w.heap.size + 1 + 1 + 1, _, rfl, ⟨_, _, _, _, _, _, _, _, _, hX⟩, HE5.out.trans' HU.out (fun i hi e => absurd e (by omega)), fun j hj => ?_⟩
      rcases hj with h | h | h | h <;> omega

end Go.Proofs.YtiimccogojkldaaGreatDoor
