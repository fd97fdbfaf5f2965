/- Which profiles are refused. -/
import Derived.Test.YthpekfpeoglbgaaGreatDoorW9
import Derived.Test.YthpekfpeoglbgaaGreatDoorL2
import Derived.Deep.RegionHeld3
import Derived.Deep.RegionWith
namespace Go.Proofs.YthpekfpeoglbgaaGreatDoor
open Go.RowKit Go.Hw
set_option linter.unusedVariables false
set_option linter.unusedSimpArgs false

set_option maxRecDepth 100000 in
set_option maxHeartbeats 2000000 in
theorem vp_1 (S : Nat → Prop) (p : Prof) (wv : Value) (w : World) (h : NumR S w wv p.ws) (hl : p.ws.length ≤ 100000000) (hk : knownB p.kind = false) : Calls Tryz.prog 40 #[.agg #[.int .i64 p.kind, wv, .int .i64 p.low, .int .i64 p.high]] w fun e w' => e = .returned (.bool false) ∧ Ext w w' := by
  obtain ⟨kd, ws, lo, hi⟩ := p
  simp only at *
  obtain ⟨a, cap, hv⟩ := h.shape
  subst hv
  have HN := Lib.hid h
  clear h
  generalize hm : ws.length = m at *
  have HM := Lib.hid hm
  clear hm
  have hu : Ext w (w.alloc (.cells #[.int .i64 kd, .slice a m cap, .int .i64 lo, .int .i64 hi] 51)) := (Upd.refl _ w).alloc _
  have HU := Lib.hid hu
  have hB : (w.alloc (.cells #[.int .i64 kd, .slice a m cap, .int .i64 lo, .int .i64 hi] 51)).heap[w.heap.size]? = some (.cells #[.int .i64 kd, .slice a m cap, .int .i64 lo, .int .i64 hi] 51) := alloc0 _ _
  have HB := Lib.hid hB
  clear hu hB
  have HW : Hid (∀ W, Ext w W → NumR S W (.slice a m cap) ws) := fun W hW => HN.out.kept hW (fun _ _ h => h)
  have HK : Hid (∀ W, Calls Tryz.prog 35 #[.int .i64 kd] W fun e w' => e = .returned (.bool (knownB kd)) ∧ Ext W w') := fun W => known_any kd W
  have HC : Hid (∀ W, Calls Tryz.prog 43 #[.int .i64 kd] W fun e w' => e = .returned (.int .i64 (nW kd)) ∧ Ext W w') := fun W => codes_any kd W
  rw [hk] at HK
  clear hk
  go_enter Tryz.func40, Tryz.ntmps40
  go_wp2_with fail
  generalize w.alloc (.cells #[.int .i64 kd, .slice a m cap, .int .i64 lo, .int .i64 hi] 51) = w3 at *
  generalize w.heap.size = b at *
  have Hb0 : Hid (∀ W, Ext w3 W → W.cell? ⟨b, 0, none⟩ = some (.int .i64 kd)) := fun W hW => cellRow (hW.heap HB.out (fun h => h)) 0 _ rfl
  have Hb1 : Hid (∀ W, Ext w3 W → W.cell? ⟨b, 1, none⟩ = some (.slice a m cap)) := fun W hW => cellRow (hW.heap HB.out (fun h => h)) 1 _ rfl
  have Hb2 : Hid (∀ W, Ext w3 W → W.cell? ⟨b, 2, none⟩ = some (.int .i64 lo)) := fun W hW => cellRow (hW.heap HB.out (fun h => h)) 2 _ rfl
  have Hb3 : Hid (∀ W, Ext w3 W → W.cell? ⟨b, 3, none⟩ = some (.int .i64 hi)) := fun W hW => cellRow (hW.heap HB.out (fun h => h)) 3 _ rfl
  have hx0 : Ext w3 w3.drew := (Upd.refl _ w3).drew
  have hb0 := Hb0.out _ (Upd.refl _ _)
  have hb1 := Hb1.out _ (Upd.refl _ _)
  have hb2 := Hb2.out _ (Upd.refl _ _)
  have hb3 := Hb3.out _ (Upd.refl _ _)
  have hrf : Ext w3 w3 := Upd.refl _ _
  have hX0 : ∀ x : XW w3, x.val.cell? ⟨b, 0, none⟩ = some (.int .i64 kd) := fun x => Hb0.out _ x.ext
  have hX1 : ∀ x : XW w3, x.val.cell? ⟨b, 1, none⟩ = some (.slice a m cap) := fun x => Hb1.out _ x.ext
  have hX2 : ∀ x : XW w3, x.val.cell? ⟨b, 2, none⟩ = some (.int .i64 lo) := fun x => Hb2.out _ x.ext
  have hX3 : ∀ x : XW w3, x.val.cell? ⟨b, 3, none⟩ = some (.int .i64 hi) := fun x => Hb3.out _ x.ext
  refine wp_region_ext w3 (by assumption) (by kernel_rfl) (by kernel_rfl) ?_
  repeat (first | go_big_quiet_skip | (go_big_quiet_want; go_big_quiet_op; first | go_big_quiet_on | (apply Exists.intro; refine ⟨fun x => ?_, ?_⟩; (first | (go_at_call 35; exact XW.call (HK.out _)) | (go_at_call 43; exact XW.call (HC.out _))); go_big_quiet_on)))
  refine wpQuiet_nil ?_
  rintro _ ⟨⟨w6, hyw6⟩, rfl⟩
  try dsimp only
  have hy6 := hyw6
  have e0 := Hb0.out _ hy6
  have e1 := Hb1.out _ hy6
  have e2 := Hb2.out _ hy6
  have e3 := Hb3.out _ hy6
  have H6 := Lib.hid (HU.out.ext hy6)
  clear hb0 hb1 hb2 hb3 hx0 hX0 hX1 hX2 hX3 hrf
  go_wp2_with fail
  go_ret
  exact ⟨rfl, H6.out⟩

set_option maxRecDepth 100000 in
set_option maxHeartbeats 2000000 in
theorem vp_2 (S : Nat → Prop) (p : Prof) (wv : Value) (w : World) (h : NumR S w wv p.ws) (hl : p.ws.length ≤ 100000000) (hk : knownB p.kind = true) (h1 : p.ws.length ≠ nW p.kind) : Calls Tryz.prog 40 #[.agg #[.int .i64 p.kind, wv, .int .i64 p.low, .int .i64 p.high]] w fun e w' => e = .returned (.bool false) ∧ Ext w w' := by
  obtain ⟨kd, ws, lo, hi⟩ := p
  simp only at *
  obtain ⟨a, cap, hv⟩ := h.shape
  subst hv
  have HN := Lib.hid h
  clear h
  generalize hm : ws.length = m at *
  have HM := Lib.hid hm
  clear hm
  have hu : Ext w (w.alloc (.cells #[.int .i64 kd, .slice a m cap, .int .i64 lo, .int .i64 hi] 51)) := (Upd.refl _ w).alloc _
  have HU := Lib.hid hu
  have hB : (w.alloc (.cells #[.int .i64 kd, .slice a m cap, .int .i64 lo, .int .i64 hi] 51)).heap[w.heap.size]? = some (.cells #[.int .i64 kd, .slice a m cap, .int .i64 lo, .int .i64 hi] 51) := alloc0 _ _
  have HB := Lib.hid hB
  clear hu hB
  have HW : Hid (∀ W, Ext w W → NumR S W (.slice a m cap) ws) := fun W hW => HN.out.kept hW (fun _ _ h => h)
  have HK : Hid (∀ W, Calls Tryz.prog 35 #[.int .i64 kd] W fun e w' => e = .returned (.bool (knownB kd)) ∧ Ext W w') := fun W => known_any kd W
  have HC : Hid (∀ W, Calls Tryz.prog 43 #[.int .i64 kd] W fun e w' => e = .returned (.int .i64 (nW kd)) ∧ Ext W w') := fun W => codes_any kd W
  rw [hk] at HK
  clear hk
  have t0 : ((m : Int) != (nW kd : Int)) = true := by simp; omega
  have H1 := Lib.hid h1
  clear h1
  go_enter Tryz.func40, Tryz.ntmps40
  go_wp2_with fail
  generalize w.alloc (.cells #[.int .i64 kd, .slice a m cap, .int .i64 lo, .int .i64 hi] 51) = w3 at *
  generalize w.heap.size = b at *
  have Hb0 : Hid (∀ W, Ext w3 W → W.cell? ⟨b, 0, none⟩ = some (.int .i64 kd)) := fun W hW => cellRow (hW.heap HB.out (fun h => h)) 0 _ rfl
  have Hb1 : Hid (∀ W, Ext w3 W → W.cell? ⟨b, 1, none⟩ = some (.slice a m cap)) := fun W hW => cellRow (hW.heap HB.out (fun h => h)) 1 _ rfl
  have Hb2 : Hid (∀ W, Ext w3 W → W.cell? ⟨b, 2, none⟩ = some (.int .i64 lo)) := fun W hW => cellRow (hW.heap HB.out (fun h => h)) 2 _ rfl
  have Hb3 : Hid (∀ W, Ext w3 W → W.cell? ⟨b, 3, none⟩ = some (.int .i64 hi)) := fun W hW => cellRow (hW.heap HB.out (fun h => h)) 3 _ rfl
  have hx0 : Ext w3 w3.drew := (Upd.refl _ w3).drew
  have hb0 := Hb0.out _ (Upd.refl _ _)
  have hb1 := Hb1.out _ (Upd.refl _ _)
  have hb2 := Hb2.out _ (Upd.refl _ _)
  have hb3 := Hb3.out _ (Upd.refl _ _)
  have hrf : Ext w3 w3 := Upd.refl _ _
  have hX0 : ∀ x : XW w3, x.val.cell? ⟨b, 0, none⟩ = some (.int .i64 kd) := fun x => Hb0.out _ x.ext
  have hX1 : ∀ x : XW w3, x.val.cell? ⟨b, 1, none⟩ = some (.slice a m cap) := fun x => Hb1.out _ x.ext
  have hX2 : ∀ x : XW w3, x.val.cell? ⟨b, 2, none⟩ = some (.int .i64 lo) := fun x => Hb2.out _ x.ext
  have hX3 : ∀ x : XW w3, x.val.cell? ⟨b, 3, none⟩ = some (.int .i64 hi) := fun x => Hb3.out _ x.ext
  refine wp_region_ext w3 (by assumption) (by kernel_rfl) (by kernel_rfl) ?_
  repeat (first | go_big_quiet_skip | (go_big_quiet_want; go_big_quiet_op; first | go_big_quiet_on | (apply Exists.intro; refine ⟨fun x => ?_, ?_⟩; (first | (go_at_call 35; exact XW.call (HK.out _)) | (go_at_call 43; exact XW.call (HC.out _))); go_big_quiet_on)))
  refine wpQuiet_nil ?_
  rintro _ ⟨⟨w6, hyw6⟩, rfl⟩
  try dsimp only
  have hy6 := hyw6
  have e0 := Hb0.out _ hy6
  have e1 := Hb1.out _ hy6
  have e2 := Hb2.out _ hy6
  have e3 := Hb3.out _ hy6
  have H6 := Lib.hid (HU.out.ext hy6)
  clear hb0 hb1 hb2 hb3 hx0 hX0 hX1 hX2 hX3 hrf
  go_wp2_with fail
  go_ret
  exact ⟨rfl, H6.out⟩

set_option maxRecDepth 100000 in
set_option maxHeartbeats 2000000 in
theorem vp_3 (S : Nat → Prop) (p : Prof) (wv : Value) (w : World) (h : NumR S w wv p.ws) (hl : p.ws.length ≤ 100000000) (hk : knownB p.kind = true) (h1 : p.ws.length = nW p.kind) (h2 : p.low < -1048576) : Calls Tryz.prog 40 #[.agg #[.int .i64 p.kind, wv, .int .i64 p.low, .int .i64 p.high]] w fun e w' => e = .returned (.bool false) ∧ Ext w w' := by
  obtain ⟨kd, ws, lo, hi⟩ := p
  simp only at *
  obtain ⟨a, cap, hv⟩ := h.shape
  subst hv
  have HN := Lib.hid h
  clear h
  generalize hm : ws.length = m at *
  have HM := Lib.hid hm
  clear hm
  have hu : Ext w (w.alloc (.cells #[.int .i64 kd, .slice a m cap, .int .i64 lo, .int .i64 hi] 51)) := (Upd.refl _ w).alloc _
  have HU := Lib.hid hu
  have hB : (w.alloc (.cells #[.int .i64 kd, .slice a m cap, .int .i64 lo, .int .i64 hi] 51)).heap[w.heap.size]? = some (.cells #[.int .i64 kd, .slice a m cap, .int .i64 lo, .int .i64 hi] 51) := alloc0 _ _
  have HB := Lib.hid hB
  clear hu hB
  have HW : Hid (∀ W, Ext w W → NumR S W (.slice a m cap) ws) := fun W hW => HN.out.kept hW (fun _ _ h => h)
  have HK : Hid (∀ W, Calls Tryz.prog 35 #[.int .i64 kd] W fun e w' => e = .returned (.bool (knownB kd)) ∧ Ext W w') := fun W => known_any kd W
  have HC : Hid (∀ W, Calls Tryz.prog 43 #[.int .i64 kd] W fun e w' => e = .returned (.int .i64 (nW kd)) ∧ Ext W w') := fun W => codes_any kd W
  rw [hk] at HK
  clear hk
  have t0 : ((m : Int) != (nW kd : Int)) = false := by simp; omega
  have t1 : decide (lo < -1048576) = true := by simp; omega
  have H1 := Lib.hid h1
  clear h1
  go_enter Tryz.func40, Tryz.ntmps40
  go_wp2_with fail
  generalize w.alloc (.cells #[.int .i64 kd, .slice a m cap, .int .i64 lo, .int .i64 hi] 51) = w3 at *
  generalize w.heap.size = b at *
  have Hb0 : Hid (∀ W, Ext w3 W → W.cell? ⟨b, 0, none⟩ = some (.int .i64 kd)) := fun W hW => cellRow (hW.heap HB.out (fun h => h)) 0 _ rfl
  have Hb1 : Hid (∀ W, Ext w3 W → W.cell? ⟨b, 1, none⟩ = some (.slice a m cap)) := fun W hW => cellRow (hW.heap HB.out (fun h => h)) 1 _ rfl
  have Hb2 : Hid (∀ W, Ext w3 W → W.cell? ⟨b, 2, none⟩ = some (.int .i64 lo)) := fun W hW => cellRow (hW.heap HB.out (fun h => h)) 2 _ rfl
  have Hb3 : Hid (∀ W, Ext w3 W → W.cell? ⟨b, 3, none⟩ = some (.int .i64 hi)) := fun W hW => cellRow (hW.heap HB.out (fun h => h)) 3 _ rfl
  have hx0 : Ext w3 w3.drew := (Upd.refl _ w3).drew
  have hb0 := Hb0.out _ (Upd.refl _ _)
  have hb1 := Hb1.out _ (Upd.refl _ _)
  have hb2 := Hb2.out _ (Upd.refl _ _)
  have hb3 := Hb3.out _ (Upd.refl _ _)
  have hrf : Ext w3 w3 := Upd.refl _ _
  have hX0 : ∀ x : XW w3, x.val.cell? ⟨b, 0, none⟩ = some (.int .i64 kd) := fun x => Hb0.out _ x.ext
  have hX1 : ∀ x : XW w3, x.val.cell? ⟨b, 1, none⟩ = some (.slice a m cap) := fun x => Hb1.out _ x.ext
  have hX2 : ∀ x : XW w3, x.val.cell? ⟨b, 2, none⟩ = some (.int .i64 lo) := fun x => Hb2.out _ x.ext
  have hX3 : ∀ x : XW w3, x.val.cell? ⟨b, 3, none⟩ = some (.int .i64 hi) := fun x => Hb3.out _ x.ext
  refine wp_region_ext w3 (by assumption) (by kernel_rfl) (by kernel_rfl) ?_
  repeat (first | go_big_quiet_skip | (go_big_quiet_want; go_big_quiet_op; first | go_big_quiet_on | (apply Exists.intro; refine ⟨fun x => ?_, ?_⟩; (first | (go_at_call 35; exact XW.call (HK.out _)) | (go_at_call 43; exact XW.call (HC.out _))); go_big_quiet_on)))
  refine wpQuiet_nil ?_
  rintro _ ⟨⟨w6, hyw6⟩, rfl⟩
  try dsimp only
  have hy6 := hyw6
  have e0 := Hb0.out _ hy6
  have e1 := Hb1.out _ hy6
  have e2 := Hb2.out _ hy6
  have e3 := Hb3.out _ hy6
  have H6 := Lib.hid (HU.out.ext hy6)
  clear hb0 hb1 hb2 hb3 hx0 hX0 hX1 hX2 hX3 hrf
  go_wp2_with fail
  go_ret
  exact ⟨rfl, H6.out⟩

set_option maxRecDepth 100000 in
set_option maxHeartbeats 2000000 in
theorem vp_4 (S : Nat → Prop) (p : Prof) (wv : Value) (w : World) (h : NumR S w wv p.ws) (hl : p.ws.length ≤ 100000000) (hk : knownB p.kind = true) (h1 : p.ws.length = nW p.kind) (h2 : -1048576 ≤ p.low) (h3 : 1048576 < p.high) : Calls Tryz.prog 40 #[.agg #[.int .i64 p.kind, wv, .int .i64 p.low, .int .i64 p.high]] w fun e w' => e = .returned (.bool false) ∧ Ext w w' := by
  obtain ⟨kd, ws, lo, hi⟩ := p
  simp only at *
  obtain ⟨a, cap, hv⟩ := h.shape
  subst hv
  have HN := Lib.hid h
  clear h
  generalize hm : ws.length = m at *
  have HM := Lib.hid hm
  clear hm
  have hu : Ext w (w.alloc (.cells #[.int .i64 kd, .slice a m cap, .int .i64 lo, .int .i64 hi] 51)) := (Upd.refl _ w).alloc _
  have HU := Lib.hid hu
  have hB : (w.alloc (.cells #[.int .i64 kd, .slice a m cap, .int .i64 lo, .int .i64 hi] 51)).heap[w.heap.size]? = some (.cells #[.int .i64 kd, .slice a m cap, .int .i64 lo, .int .i64 hi] 51) := alloc0 _ _
  have HB := Lib.hid hB
  clear hu hB
  have HW : Hid (∀ W, Ext w W → NumR S W (.slice a m cap) ws) := fun W hW => HN.out.kept hW (fun _ _ h => h)
  have HK : Hid (∀ W, Calls Tryz.prog 35 #[.int .i64 kd] W fun e w' => e = .returned (.bool (knownB kd)) ∧ Ext W w') := fun W => known_any kd W
  have HC : Hid (∀ W, Calls Tryz.prog 43 #[.int .i64 kd] W fun e w' => e = .returned (.int .i64 (nW kd)) ∧ Ext W w') := fun W => codes_any kd W
  rw [hk] at HK
  clear hk
  have t0 : ((m : Int) != (nW kd : Int)) = false := by simp; omega
  have t1 : decide (lo < -1048576) = false := by simp; omega
  have t2 : decide (1048576 < hi) = true := by simp; omega
  have H1 := Lib.hid h1
  clear h1
  go_enter Tryz.func40, Tryz.ntmps40
  go_wp2_with fail
  generalize w.alloc (.cells #[.int .i64 kd, .slice a m cap, .int .i64 lo, .int .i64 hi] 51) = w3 at *
  generalize w.heap.size = b at *
  have Hb0 : Hid (∀ W, Ext w3 W → W.cell? ⟨b, 0, none⟩ = some (.int .i64 kd)) := fun W hW => cellRow (hW.heap HB.out (fun h => h)) 0 _ rfl
  have Hb1 : Hid (∀ W, Ext w3 W → W.cell? ⟨b, 1, none⟩ = some (.slice a m cap)) := fun W hW => cellRow (hW.heap HB.out (fun h => h)) 1 _ rfl
  have Hb2 : Hid (∀ W, Ext w3 W → W.cell? ⟨b, 2, none⟩ = some (.int .i64 lo)) := fun W hW => cellRow (hW.heap HB.out (fun h => h)) 2 _ rfl
  have Hb3 : Hid (∀ W, Ext w3 W → W.cell? ⟨b, 3, none⟩ = some (.int .i64 hi)) := fun W hW => cellRow (hW.heap HB.out (fun h => h)) 3 _ rfl
  have hx0 : Ext w3 w3.drew := (Upd.refl _ w3).drew
  have hb0 := Hb0.out _ (Upd.refl _ _)
  have hb1 := Hb1.out _ (Upd.refl _ _)
  have hb2 := Hb2.out _ (Upd.refl _ _)
  have hb3 := Hb3.out _ (Upd.refl _ _)
  have hrf : Ext w3 w3 := Upd.refl _ _
  have hX0 : ∀ x : XW w3, x.val.cell? ⟨b, 0, none⟩ = some (.int .i64 kd) := fun x => Hb0.out _ x.ext
  have hX1 : ∀ x : XW w3, x.val.cell? ⟨b, 1, none⟩ = some (.slice a m cap) := fun x => Hb1.out _ x.ext
  have hX2 : ∀ x : XW w3, x.val.cell? ⟨b, 2, none⟩ = some (.int .i64 lo) := fun x => Hb2.out _ x.ext
  have hX3 : ∀ x : XW w3, x.val.cell? ⟨b, 3, none⟩ = some (.int .i64 hi) := fun x => Hb3.out _ x.ext
  refine wp_region_ext w3 (by assumption) (by kernel_rfl) (by kernel_rfl) ?_
  repeat (first | go_big_quiet_skip | (go_big_quiet_want; go_big_quiet_op; first | go_big_quiet_on | (apply Exists.intro; refine ⟨fun x => ?_, ?_⟩; (first | (go_at_call 35; exact XW.call (HK.out _)) | (go_at_call 43; exact XW.call (HC.out _))); go_big_quiet_on)))
  refine wpQuiet_nil ?_
  rintro _ ⟨⟨w6, hyw6⟩, rfl⟩
  try dsimp only
  have hy6 := hyw6
  have e0 := Hb0.out _ hy6
  have e1 := Hb1.out _ hy6
  have e2 := Hb2.out _ hy6
  have e3 := Hb3.out _ hy6
  have H6 := Lib.hid (HU.out.ext hy6)
  clear hb0 hb1 hb2 hb3 hx0 hX0 hX1 hX2 hX3 hrf
  go_wp2_with fail
  go_ret
  exact ⟨rfl, H6.out⟩

set_option maxRecDepth 100000 in
set_option maxHeartbeats 2000000 in
theorem vp_5 (S : Nat → Prop) (p : Prof) (wv : Value) (w : World) (h : NumR S w wv p.ws) (hl : p.ws.length ≤ 100000000) (hk : knownB p.kind = true) (h1 : p.ws.length = nW p.kind) (h2 : -1048576 ≤ p.low) (h3 : p.high ≤ 1048576) (h4 : p.high < p.low) : Calls Tryz.prog 40 #[.agg #[.int .i64 p.kind, wv, .int .i64 p.low, .int .i64 p.high]] w fun e w' => e = .returned (.bool false) ∧ Ext w w' := by
  obtain ⟨kd, ws, lo, hi⟩ := p
  simp only at *
  obtain ⟨a, cap, hv⟩ := h.shape
  subst hv
  have HN := Lib.hid h
  clear h
  generalize hm : ws.length = m at *
  have HM := Lib.hid hm
  clear hm
  have hu : Ext w (w.alloc (.cells #[.int .i64 kd, .slice a m cap, .int .i64 lo, .int .i64 hi] 51)) := (Upd.refl _ w).alloc _
  have HU := Lib.hid hu
  have hB : (w.alloc (.cells #[.int .i64 kd, .slice a m cap, .int .i64 lo, .int .i64 hi] 51)).heap[w.heap.size]? = some (.cells #[.int .i64 kd, .slice a m cap, .int .i64 lo, .int .i64 hi] 51) := alloc0 _ _
  have HB := Lib.hid hB
  clear hu hB
  have HW : Hid (∀ W, Ext w W → NumR S W (.slice a m cap) ws) := fun W hW => HN.out.kept hW (fun _ _ h => h)
  have HK : Hid (∀ W, Calls Tryz.prog 35 #[.int .i64 kd] W fun e w' => e = .returned (.bool (knownB kd)) ∧ Ext W w') := fun W => known_any kd W
  have HC : Hid (∀ W, Calls Tryz.prog 43 #[.int .i64 kd] W fun e w' => e = .returned (.int .i64 (nW kd)) ∧ Ext W w') := fun W => codes_any kd W
  rw [hk] at HK
  clear hk
  have t0 : ((m : Int) != (nW kd : Int)) = false := by simp; omega
  have t1 : decide (lo < -1048576) = false := by simp; omega
  have t2 : decide (1048576 < hi) = false := by simp; omega
  have t3 : decide (hi < lo) = true := by simp; omega
  have H1 := Lib.hid h1
  clear h1
  go_enter Tryz.func40, Tryz.ntmps40
  go_wp2_with fail
  generalize w.alloc (.cells #[.int .i64 kd, .slice a m cap, .int .i64 lo, .int .i64 hi] 51) = w3 at *
  generalize w.heap.size = b at *
  have Hb0 : Hid (∀ W, Ext w3 W → W.cell? ⟨b, 0, none⟩ = some (.int .i64 kd)) := fun W hW => cellRow (hW.heap HB.out (fun h => h)) 0 _ rfl
  have Hb1 : Hid (∀ W, Ext w3 W → W.cell? ⟨b, 1, none⟩ = some (.slice a m cap)) := fun W hW => cellRow (hW.heap HB.out (fun h => h)) 1 _ rfl
  have Hb2 : Hid (∀ W, Ext w3 W → W.cell? ⟨b, 2, none⟩ = some (.int .i64 lo)) := fun W hW => cellRow (hW.heap HB.out (fun h => h)) 2 _ rfl
  have Hb3 : Hid (∀ W, Ext w3 W → W.cell? ⟨b, 3, none⟩ = some (.int .i64 hi)) := fun W hW => cellRow (hW.heap HB.out (fun h => h)) 3 _ rfl
  have hx0 : Ext w3 w3.drew := (Upd.refl _ w3).drew
  have hb0 := Hb0.out _ (Upd.refl _ _)
  have hb1 := Hb1.out _ (Upd.refl _ _)
  have hb2 := Hb2.out _ (Upd.refl _ _)
  have hb3 := Hb3.out _ (Upd.refl _ _)
  have hrf : Ext w3 w3 := Upd.refl _ _
  have hX0 : ∀ x : XW w3, x.val.cell? ⟨b, 0, none⟩ = some (.int .i64 kd) := fun x => Hb0.out _ x.ext
  have hX1 : ∀ x : XW w3, x.val.cell? ⟨b, 1, none⟩ = some (.slice a m cap) := fun x => Hb1.out _ x.ext
  have hX2 : ∀ x : XW w3, x.val.cell? ⟨b, 2, none⟩ = some (.int .i64 lo) := fun x => Hb2.out _ x.ext
  have hX3 : ∀ x : XW w3, x.val.cell? ⟨b, 3, none⟩ = some (.int .i64 hi) := fun x => Hb3.out _ x.ext
  refine wp_region_ext w3 (by assumption) (by kernel_rfl) (by kernel_rfl) ?_
  repeat (first | go_big_quiet_skip | (go_big_quiet_want; go_big_quiet_op; first | go_big_quiet_on | (apply Exists.intro; refine ⟨fun x => ?_, ?_⟩; (first | (go_at_call 35; exact XW.call (HK.out _)) | (go_at_call 43; exact XW.call (HC.out _))); go_big_quiet_on)))
  refine wpQuiet_nil ?_
  rintro _ ⟨⟨w6, hyw6⟩, rfl⟩
  try dsimp only
  have hy6 := hyw6
  have e0 := Hb0.out _ hy6
  have e1 := Hb1.out _ hy6
  have e2 := Hb2.out _ hy6
  have e3 := Hb3.out _ hy6
  have H6 := Lib.hid (HU.out.ext hy6)
  clear hb0 hb1 hb2 hb3 hx0 hX0 hX1 hX2 hX3 hrf
  go_wp2_with fail
  go_ret
  exact ⟨rfl, H6.out⟩

set_option maxRecDepth 100000 in
set_option maxHeartbeats 2000000 in
theorem vp_6 (S : Nat → Prop) (p : Prof) (wv : Value) (w : World) (h : NumR S w wv p.ws) (hl : p.ws.length ≤ 100000000) (hk : knownB p.kind = true) (h1 : p.ws.length = nW p.kind) (h2 : -1048576 ≤ p.low) (h3 : p.high ≤ 1048576) (h4 : p.low ≤ p.high) (h5 : p.kind = 6) (h6 : p.low < 0) : Calls Tryz.prog 40 #[.agg #[.int .i64 p.kind, wv, .int .i64 p.low, .int .i64 p.high]] w fun e w' => e = .returned (.bool false) ∧ Ext w w' := by
  obtain ⟨kd, ws, lo, hi⟩ := p
  simp only at *
  obtain ⟨a, cap, hv⟩ := h.shape
  subst hv
  have HN := Lib.hid h
  clear h
  generalize hm : ws.length = m at *
  have HM := Lib.hid hm
  clear hm
  have hu : Ext w (w.alloc (.cells #[.int .i64 kd, .slice a m cap, .int .i64 lo, .int .i64 hi] 51)) := (Upd.refl _ w).alloc _
  have HU := Lib.hid hu
  have hB : (w.alloc (.cells #[.int .i64 kd, .slice a m cap, .int .i64 lo, .int .i64 hi] 51)).heap[w.heap.size]? = some (.cells #[.int .i64 kd, .slice a m cap, .int .i64 lo, .int .i64 hi] 51) := alloc0 _ _
  have HB := Lib.hid hB
  clear hu hB
  have HW : Hid (∀ W, Ext w W → NumR S W (.slice a m cap) ws) := fun W hW => HN.out.kept hW (fun _ _ h => h)
  have HK : Hid (∀ W, Calls Tryz.prog 35 #[.int .i64 kd] W fun e w' => e = .returned (.bool (knownB kd)) ∧ Ext W w') := fun W => known_any kd W
  have HC : Hid (∀ W, Calls Tryz.prog 43 #[.int .i64 kd] W fun e w' => e = .returned (.int .i64 (nW kd)) ∧ Ext W w') := fun W => codes_any kd W
  rw [hk] at HK
  clear hk
  have t0 : ((m : Int) != (nW kd : Int)) = false := by simp; omega
  have t1 : decide (lo < -1048576) = false := by simp; omega
  have t2 : decide (1048576 < hi) = false := by simp; omega
  have t3 : decide (hi < lo) = false := by simp; omega
  have H1 := Lib.hid h1
  clear h1
  have u1 : (kd == 6) = true := by simpa using h5
  have H5 := Lib.hid h5
  clear h5
  go_enter Tryz.func40, Tryz.ntmps40
  go_wp2_with fail
  generalize w.alloc (.cells #[.int .i64 kd, .slice a m cap, .int .i64 lo, .int .i64 hi] 51) = w3 at *
  generalize w.heap.size = b at *
  have Hb0 : Hid (∀ W, Ext w3 W → W.cell? ⟨b, 0, none⟩ = some (.int .i64 kd)) := fun W hW => cellRow (hW.heap HB.out (fun h => h)) 0 _ rfl
  have Hb1 : Hid (∀ W, Ext w3 W → W.cell? ⟨b, 1, none⟩ = some (.slice a m cap)) := fun W hW => cellRow (hW.heap HB.out (fun h => h)) 1 _ rfl
  have Hb2 : Hid (∀ W, Ext w3 W → W.cell? ⟨b, 2, none⟩ = some (.int .i64 lo)) := fun W hW => cellRow (hW.heap HB.out (fun h => h)) 2 _ rfl
  have Hb3 : Hid (∀ W, Ext w3 W → W.cell? ⟨b, 3, none⟩ = some (.int .i64 hi)) := fun W hW => cellRow (hW.heap HB.out (fun h => h)) 3 _ rfl
  have hx0 : Ext w3 w3.drew := (Upd.refl _ w3).drew
  have hb0 := Hb0.out _ (Upd.refl _ _)
  have hb1 := Hb1.out _ (Upd.refl _ _)
  have hb2 := Hb2.out _ (Upd.refl _ _)
  have hb3 := Hb3.out _ (Upd.refl _ _)
  have hrf : Ext w3 w3 := Upd.refl _ _
  have hX0 : ∀ x : XW w3, x.val.cell? ⟨b, 0, none⟩ = some (.int .i64 kd) := fun x => Hb0.out _ x.ext
  have hX1 : ∀ x : XW w3, x.val.cell? ⟨b, 1, none⟩ = some (.slice a m cap) := fun x => Hb1.out _ x.ext
  have hX2 : ∀ x : XW w3, x.val.cell? ⟨b, 2, none⟩ = some (.int .i64 lo) := fun x => Hb2.out _ x.ext
  have hX3 : ∀ x : XW w3, x.val.cell? ⟨b, 3, none⟩ = some (.int .i64 hi) := fun x => Hb3.out _ x.ext
  refine wp_region_ext w3 (by assumption) (by kernel_rfl) (by kernel_rfl) ?_
  repeat (first | go_big_quiet_skip | (go_big_quiet_want; go_big_quiet_op; first | go_big_quiet_on | (apply Exists.intro; refine ⟨fun x => ?_, ?_⟩; (first | (go_at_call 35; exact XW.call (HK.out _)) | (go_at_call 43; exact XW.call (HC.out _))); go_big_quiet_on)))
  refine wpQuiet_nil ?_
  rintro _ ⟨⟨w6, hyw6⟩, rfl⟩
  try dsimp only
  have hy6 := hyw6
  have e0 := Hb0.out _ hy6
  have e1 := Hb1.out _ hy6
  have e2 := Hb2.out _ hy6
  have e3 := Hb3.out _ hy6
  have H6 := Lib.hid (HU.out.ext hy6)
  clear hb0 hb1 hb2 hb3 hx0 hX0 hX1 hX2 hX3 hrf
  go_wp2_with fail
  go_ret
  exact ⟨rfl, H6.out⟩

set_option maxRecDepth 100000 in
set_option maxHeartbeats 2000000 in
theorem vp_7 (S : Nat → Prop) (p : Prof) (wv : Value) (w : World) (h : NumR S w wv p.ws) (hl : p.ws.length ≤ 100000000) (hk : knownB p.kind = true) (h1 : p.ws.length = nW p.kind) (h2 : -1048576 ≤ p.low) (h3 : p.high ≤ 1048576) (h4 : p.low ≤ p.high) (h5 : p.kind = 6) (h6 : 0 ≤ p.low) (h7 : 255 < p.high) : Calls Tryz.prog 40 #[.agg #[.int .i64 p.kind, wv, .int .i64 p.low, .int .i64 p.high]] w fun e w' => e = .returned (.bool false) ∧ Ext w w' := by
  obtain ⟨kd, ws, lo, hi⟩ := p
  simp only at *
  obtain ⟨a, cap, hv⟩ := h.shape
  subst hv
  have HN := Lib.hid h
  clear h
  generalize hm : ws.length = m at *
  have HM := Lib.hid hm
  clear hm
  have hu : Ext w (w.alloc (.cells #[.int .i64 kd, .slice a m cap, .int .i64 lo, .int .i64 hi] 51)) := (Upd.refl _ w).alloc _
  have HU := Lib.hid hu
  have hB : (w.alloc (.cells #[.int .i64 kd, .slice a m cap, .int .i64 lo, .int .i64 hi] 51)).heap[w.heap.size]? = some (.cells #[.int .i64 kd, .slice a m cap, .int .i64 lo, .int .i64 hi] 51) := alloc0 _ _
  have HB := Lib.hid hB
  clear hu hB
  have HW : Hid (∀ W, Ext w W → NumR S W (.slice a m cap) ws) := fun W hW => HN.out.kept hW (fun _ _ h => h)
  have HK : Hid (∀ W, Calls Tryz.prog 35 #[.int .i64 kd] W fun e w' => e = .returned (.bool (knownB kd)) ∧ Ext W w') := fun W => known_any kd W
  have HC : Hid (∀ W, Calls Tryz.prog 43 #[.int .i64 kd] W fun e w' => e = .returned (.int .i64 (nW kd)) ∧ Ext W w') := fun W => codes_any kd W
  rw [hk] at HK
  clear hk
  have t0 : ((m : Int) != (nW kd : Int)) = false := by simp; omega
  have t1 : decide (lo < -1048576) = false := by simp; omega
  have t2 : decide (1048576 < hi) = false := by simp; omega
  have t3 : decide (hi < lo) = false := by simp; omega
  have H1 := Lib.hid h1
  clear h1
  have u1 : (kd == 6) = true := by simpa using h5
  have H5 := Lib.hid h5
  clear h5
  go_enter Tryz.func40, Tryz.ntmps40
  go_wp2_with fail
  generalize w.alloc (.cells #[.int .i64 kd, .slice a m cap, .int .i64 lo, .int .i64 hi] 51) = w3 at *
  generalize w.heap.size = b at *
  have Hb0 : Hid (∀ W, Ext w3 W → W.cell? ⟨b, 0, none⟩ = some (.int .i64 kd)) := fun W hW => cellRow (hW.heap HB.out (fun h => h)) 0 _ rfl
  have Hb1 : Hid (∀ W, Ext w3 W → W.cell? ⟨b, 1, none⟩ = some (.slice a m cap)) := fun W hW => cellRow (hW.heap HB.out (fun h => h)) 1 _ rfl
  have Hb2 : Hid (∀ W, Ext w3 W → W.cell? ⟨b, 2, none⟩ = some (.int .i64 lo)) := fun W hW => cellRow (hW.heap HB.out (fun h => h)) 2 _ rfl
  have Hb3 : Hid (∀ W, Ext w3 W → W.cell? ⟨b, 3, none⟩ = some (.int .i64 hi)) := fun W hW => cellRow (hW.heap HB.out (fun h => h)) 3 _ rfl
  have hx0 : Ext w3 w3.drew := (Upd.refl _ w3).drew
  have hb0 := Hb0.out _ (Upd.refl _ _)
  have hb1 := Hb1.out _ (Upd.refl _ _)
  have hb2 := Hb2.out _ (Upd.refl _ _)
  have hb3 := Hb3.out _ (Upd.refl _ _)
  have hrf : Ext w3 w3 := Upd.refl _ _
  have hX0 : ∀ x : XW w3, x.val.cell? ⟨b, 0, none⟩ = some (.int .i64 kd) := fun x => Hb0.out _ x.ext
  have hX1 : ∀ x : XW w3, x.val.cell? ⟨b, 1, none⟩ = some (.slice a m cap) := fun x => Hb1.out _ x.ext
  have hX2 : ∀ x : XW w3, x.val.cell? ⟨b, 2, none⟩ = some (.int .i64 lo) := fun x => Hb2.out _ x.ext
  have hX3 : ∀ x : XW w3, x.val.cell? ⟨b, 3, none⟩ = some (.int .i64 hi) := fun x => Hb3.out _ x.ext
  refine wp_region_ext w3 (by assumption) (by kernel_rfl) (by kernel_rfl) ?_
  repeat (first | go_big_quiet_skip | (go_big_quiet_want; go_big_quiet_op; first | go_big_quiet_on | (apply Exists.intro; refine ⟨fun x => ?_, ?_⟩; (first | (go_at_call 35; exact XW.call (HK.out _)) | (go_at_call 43; exact XW.call (HC.out _))); go_big_quiet_on)))
  refine wpQuiet_nil ?_
  rintro _ ⟨⟨w6, hyw6⟩, rfl⟩
  try dsimp only
  have hy6 := hyw6
  have e0 := Hb0.out _ hy6
  have e1 := Hb1.out _ hy6
  have e2 := Hb2.out _ hy6
  have e3 := Hb3.out _ hy6
  have H6 := Lib.hid (HU.out.ext hy6)
  clear hb0 hb1 hb2 hb3 hx0 hX0 hX1 hX2 hX3 hrf
  go_wp2_with fail
  go_ret
  exact ⟨rfl, H6.out⟩

end Go.Proofs.YthpekfpeoglbgaaGreatDoor
