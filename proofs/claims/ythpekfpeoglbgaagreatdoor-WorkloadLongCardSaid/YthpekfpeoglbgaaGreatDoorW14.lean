/- workload.ValidProfile. -/
import Derived.Test.YthpekfpeoglbgaaGreatDoorW12
import Derived.Test.YthpekfpeoglbgaaGreatDoorW10
namespace Go.Proofs.YthpekfpeoglbgaaGreatDoor
open Go.RowKit Go.Hw
set_option linter.unusedVariables false
set_option linter.unusedSimpArgs false

theorem max_pos (l : List Int) (h : l ≠ []) : decide (0 < maxL l) = l.any fun n => decide (0 < n) := by
  obtain ⟨a, b, c⟩ := minmax_in l h
  rw [Bool.eq_iff_iff]
  simp only [decide_eq_true_eq, List.any_eq_true]
  constructor
  · intro h; exact ⟨_, c, h⟩
  · rintro ⟨x, hx, hp⟩; have := a x hx; omega

set_option maxRecDepth 100000 in
set_option maxHeartbeats 2000000 in
theorem vp_8b (S : Nat → Prop) (p : Prof) (wv : Value) (w : World) (h : NumR S w wv p.ws) (hl : p.ws.length ≤ 100000000) (hk : knownB p.kind = true) (h1 : p.ws.length = nW p.kind) (h2 : -1048576 ≤ p.low) (h3 : p.high ≤ 1048576) (h4 : p.low ≤ p.high) (h5 : p.kind ≠ 6) : Calls Tryz.prog 40 #[.agg #[.int .i64 p.kind, wv, .int .i64 p.low, .int .i64 p.high]] w fun e w' => e = .returned (.bool (p.ws.all wtB && p.ws.any (fun n => decide (0 < n)))) ∧ Ext w w' := by
  obtain ⟨kd, ws, lo, hi⟩ := p
  simp only at *
  obtain ⟨a, cap, hv⟩ := h.shape
  subst hv
  have HN := Lib.hid h
  clear h
  generalize hm : ws.length = m at *
  have HM := Lib.hid hm
  clear hm
  have hu : Ext w (w.alloc (.cells #[.int .i64 kd, .slice a m cap, .int .i64 lo, .int .i64 hi] 51)) := (Upd.refl _ w).alloc _
  have HU := Lib.hid hu
  have hB : (w.alloc (.cells #[.int .i64 kd, .slice a m cap, .int .i64 lo, .int .i64 hi] 51)).heap[w.heap.size]? = some (.cells #[.int .i64 kd, .slice a m cap, .int .i64 lo, .int .i64 hi] 51) := alloc0 _ _
  have HB := Lib.hid hB
  clear hu hB
  have HW : Hid (∀ W, Ext w W → NumR S W (.slice a m cap) ws) := fun W hW => HN.out.kept hW (fun _ _ h => h)
  have HK : Hid (∀ W, Calls Tryz.prog 35 #[.int .i64 kd] W fun e w' => e = .returned (.bool (knownB kd)) ∧ Ext W w') := fun W => known_any kd W
  have HC : Hid (∀ W, Calls Tryz.prog 43 #[.int .i64 kd] W fun e w' => e = .returned (.int .i64 (nW kd)) ∧ Ext W w') := fun W => codes_any kd W
  have HF : Hid (∀ W, Ext w W → Calls Tryz.prog 63 #[.slice a m cap, .func (.func 68) #[] #[]] W fun e w' => e = .returned (.bool (ws.any fun x => !wtB x)) ∧ Ext W w') := fun W hW =>
    con_int 68 _ S _ ws W (HW.out W hW) (by rw [HM.out]; exact hl) Tryz.call68 (fun x _ W' _ => (clo31_any x W').mono fun e w' ⟨h1, h2⟩ => ⟨h1, h2 ▸ Upd.refl _ _⟩)
  have HMX : Hid (∀ W, Ext w W → 0 < m → Calls Tryz.prog 69 #[.slice a m cap] W fun e w' => e = .returned (.int .i64 (maxL ws)) ∧ W = w') := fun W hW h0 =>
    smax_any S _ ws W (HW.out W hW) (by rw [HM.out]; exact hl) (by rw [HM.out]; exact h0)
  have HA := Lib.hid (any_not wtB ws)
  have HMA : Hid (0 < m → decide (0 < maxL ws) = ws.any fun n => decide (0 < n)) := fun h0 => max_pos ws (by intro e; rw [e] at HM; have := HM.out; simp at this; omega)
  have Hkn : Hid (0 < nW kd) := by
    unfold knownB at hk; simp at hk; exact (nW_known kd).2 hk
  have hm0 : 0 < m := by have := Hkn.out; omega
  obtain ⟨R, hR⟩ : ∃ R, R = (ws.all wtB && ws.any (fun n => decide (0 < n))) := ⟨_, rfl⟩
  rw [← hR]
  have HR : Hid (R = ((!(ws.any fun x => !wtB x)) && decide (0 < maxL ws))) := by show R = _; rw [hR, HMA.out hm0, HA.out]
  clear hR
  generalize maxL ws = MX at *
  cases hA1 : (ws.any fun x => !wtB x) with
  | true =>
    rw [hA1] at HF
    obtain rfl : R = false := by rw [HR.out, hA1]; rfl
    clear hA1 HR
    rw [hk] at HK
    clear hk
    have t0 : ((m : Int) != (nW kd : Int)) = false := by simp; omega
    have t1 : decide (lo < -1048576) = false := by simp; omega
    have t2 : decide (1048576 < hi) = false := by simp; omega
    have t3 : decide (hi < lo) = false := by simp; omega
    have H1 := Lib.hid h1
    clear h1
    have u1 : (kd == 6) = false := by simpa using h5
    go_enter Tryz.func40, Tryz.ntmps40
    go_wp2_with fail
    generalize w.alloc (.cells #[.int .i64 kd, .slice a m cap, .int .i64 lo, .int .i64 hi] 51) = w3 at *
    generalize w.heap.size = b at *
    have Hb0 : Hid (∀ W, Ext w3 W → W.cell? ⟨b, 0, none⟩ = some (.int .i64 kd)) := fun W hW => cellRow (hW.heap HB.out (fun h => h)) 0 _ rfl
    have Hb1 : Hid (∀ W, Ext w3 W → W.cell? ⟨b, 1, none⟩ = some (.slice a m cap)) := fun W hW => cellRow (hW.heap HB.out (fun h => h)) 1 _ rfl
    have Hb2 : Hid (∀ W, Ext w3 W → W.cell? ⟨b, 2, none⟩ = some (.int .i64 lo)) := fun W hW => cellRow (hW.heap HB.out (fun h => h)) 2 _ rfl
    have Hb3 : Hid (∀ W, Ext w3 W → W.cell? ⟨b, 3, none⟩ = some (.int .i64 hi)) := fun W hW => cellRow (hW.heap HB.out (fun h => h)) 3 _ rfl
    have hx0 : Ext w3 w3.drew := (Upd.refl _ w3).drew
    have hb0 := Hb0.out _ (Upd.refl _ _)
    have hb1 := Hb1.out _ (Upd.refl _ _)
    have hb2 := Hb2.out _ (Upd.refl _ _)
    have hb3 := Hb3.out _ (Upd.refl _ _)
    have hrf : Ext w3 w3 := Upd.refl _ _
    have hX0 : ∀ x : XW w3, x.val.cell? ⟨b, 0, none⟩ = some (.int .i64 kd) := fun x => Hb0.out _ x.ext
    have hX1 : ∀ x : XW w3, x.val.cell? ⟨b, 1, none⟩ = some (.slice a m cap) := fun x => Hb1.out _ x.ext
    have hX2 : ∀ x : XW w3, x.val.cell? ⟨b, 2, none⟩ = some (.int .i64 lo) := fun x => Hb2.out _ x.ext
    have hX3 : ∀ x : XW w3, x.val.cell? ⟨b, 3, none⟩ = some (.int .i64 hi) := fun x => Hb3.out _ x.ext
    refine wp_region_ext w3 (by assumption) (by kernel_rfl) (by kernel_rfl) ?_
    repeat (first | go_big_quiet_skip | (go_big_quiet_want; go_big_quiet_op; first | go_big_quiet_on | (apply Exists.intro; refine ⟨fun x => ?_, ?_⟩; (first | (go_at_call 35; exact XW.call (HK.out _)) | (go_at_call 43; exact XW.call (HC.out _))); go_big_quiet_on)))
    refine wpQuiet_nil ?_
    rintro _ ⟨⟨w6, hyw6⟩, rfl⟩
    try dsimp only
    have hy6 := hyw6
    have e0 := Hb0.out _ hy6
    have e1 := Hb1.out _ hy6
    have e2 := Hb2.out _ hy6
    have e3 := Hb3.out _ hy6
    have H6 := Lib.hid (HU.out.ext hy6)
    clear hb0 hb1 hb2 hb3 hx0 hX0 hX1 hX2 hX3 hrf
    go_wp2_with fail
    refine (HF.out _ H6.out).mono ?_
    rintro e w7 ⟨rfl, h7⟩
    have hy7 : Ext w3 w7 := hy6.ext h7
    have f1 := Hb1.out _ hy7
    have H7 := Lib.hid (H6.out.ext h7)
    clear h7
    go_wp2_with fail
    go_ret
    exact ⟨rfl, H7.out⟩
  | false =>
    rw [hA1] at HF
    have hr : R = decide (0 < MX) := by rw [HR.out, hA1]; rfl
    subst hr
    clear hA1 HR
    rw [hk] at HK
    clear hk
    have t0 : ((m : Int) != (nW kd : Int)) = false := by simp; omega
    have t1 : decide (lo < -1048576) = false := by simp; omega
    have t2 : decide (1048576 < hi) = false := by simp; omega
    have t3 : decide (hi < lo) = false := by simp; omega
    have H1 := Lib.hid h1
    clear h1
    have u1 : (kd == 6) = false := by simpa using h5
    go_enter Tryz.func40, Tryz.ntmps40
    go_wp2_with fail
    generalize w.alloc (.cells #[.int .i64 kd, .slice a m cap, .int .i64 lo, .int .i64 hi] 51) = w3 at *
    generalize w.heap.size = b at *
    have Hb0 : Hid (∀ W, Ext w3 W → W.cell? ⟨b, 0, none⟩ = some (.int .i64 kd)) := fun W hW => cellRow (hW.heap HB.out (fun h => h)) 0 _ rfl
    have Hb1 : Hid (∀ W, Ext w3 W → W.cell? ⟨b, 1, none⟩ = some (.slice a m cap)) := fun W hW => cellRow (hW.heap HB.out (fun h => h)) 1 _ rfl
    have Hb2 : Hid (∀ W, Ext w3 W → W.cell? ⟨b, 2, none⟩ = some (.int .i64 lo)) := fun W hW => cellRow (hW.heap HB.out (fun h => h)) 2 _ rfl
    have Hb3 : Hid (∀ W, Ext w3 W → W.cell? ⟨b, 3, none⟩ = some (.int .i64 hi)) := fun W hW => cellRow (hW.heap HB.out (fun h => h)) 3 _ rfl
    have hx0 : Ext w3 w3.drew := (Upd.refl _ w3).drew
    have hb0 := Hb0.out _ (Upd.refl _ _)
    have hb1 := Hb1.out _ (Upd.refl _ _)
    have hb2 := Hb2.out _ (Upd.refl _ _)
    have hb3 := Hb3.out _ (Upd.refl _ _)
    have hrf : Ext w3 w3 := Upd.refl _ _
    have hX0 : ∀ x : XW w3, x.val.cell? ⟨b, 0, none⟩ = some (.int .i64 kd) := fun x => Hb0.out _ x.ext
    have hX1 : ∀ x : XW w3, x.val.cell? ⟨b, 1, none⟩ = some (.slice a m cap) := fun x => Hb1.out _ x.ext
    have hX2 : ∀ x : XW w3, x.val.cell? ⟨b, 2, none⟩ = some (.int .i64 lo) := fun x => Hb2.out _ x.ext
    have hX3 : ∀ x : XW w3, x.val.cell? ⟨b, 3, none⟩ = some (.int .i64 hi) := fun x => Hb3.out _ x.ext
    refine wp_region_ext w3 (by assumption) (by kernel_rfl) (by kernel_rfl) ?_
    repeat (first | go_big_quiet_skip | (go_big_quiet_want; go_big_quiet_op; first | go_big_quiet_on | (apply Exists.intro; refine ⟨fun x => ?_, ?_⟩; (first | (go_at_call 35; exact XW.call (HK.out _)) | (go_at_call 43; exact XW.call (HC.out _))); go_big_quiet_on)))
    refine wpQuiet_nil ?_
    rintro _ ⟨⟨w6, hyw6⟩, rfl⟩
    try dsimp only
    have hy6 := hyw6
    have e0 := Hb0.out _ hy6
    have e1 := Hb1.out _ hy6
    have e2 := Hb2.out _ hy6
    have e3 := Hb3.out _ hy6
    have H6 := Lib.hid (HU.out.ext hy6)
    clear hb0 hb1 hb2 hb3 hx0 hX0 hX1 hX2 hX3 hrf
    go_wp2_with fail
    refine (HF.out _ H6.out).mono ?_
    rintro e w7 ⟨rfl, h7⟩
    have hy7 : Ext w3 w7 := hy6.ext h7
    have f1 := Hb1.out _ hy7
    have H7 := Lib.hid (H6.out.ext h7)
    clear h7
    go_wp2_with fail
    refine (HMX.out _ H7.out hm0).mono ?_
    rintro e w8 ⟨rfl, rfl⟩
    go_wp2_with fail
    go_ret
    exact ⟨rfl, H7.out⟩

set_option maxRecDepth 100000 in
set_option maxHeartbeats 2000000 in
theorem vp_9b (S : Nat → Prop) (p : Prof) (wv : Value) (w : World) (h : NumR S w wv p.ws) (hl : p.ws.length ≤ 100000000) (hk : knownB p.kind = true) (h1 : p.ws.length = nW p.kind) (h2 : -1048576 ≤ p.low) (h3 : p.high ≤ 1048576) (h4 : p.low ≤ p.high) (h5 : p.kind = 6) (h6 : 0 ≤ p.low) (h7 : p.high ≤ 255) : Calls Tryz.prog 40 #[.agg #[.int .i64 p.kind, wv, .int .i64 p.low, .int .i64 p.high]] w fun e w' => e = .returned (.bool (p.ws.all wtB && p.ws.any (fun n => decide (0 < n)))) ∧ Ext w w' := by
  obtain ⟨kd, ws, lo, hi⟩ := p
  simp only at *
  obtain ⟨a, cap, hv⟩ := h.shape
  subst hv
  have HN := Lib.hid h
  clear h
  generalize hm : ws.length = m at *
  have HM := Lib.hid hm
  clear hm
  have hu : Ext w (w.alloc (.cells #[.int .i64 kd, .slice a m cap, .int .i64 lo, .int .i64 hi] 51)) := (Upd.refl _ w).alloc _
  have HU := Lib.hid hu
  have hB : (w.alloc (.cells #[.int .i64 kd, .slice a m cap, .int .i64 lo, .int .i64 hi] 51)).heap[w.heap.size]? = some (.cells #[.int .i64 kd, .slice a m cap, .int .i64 lo, .int .i64 hi] 51) := alloc0 _ _
  have HB := Lib.hid hB
  clear hu hB
  have HW : Hid (∀ W, Ext w W → NumR S W (.slice a m cap) ws) := fun W hW => HN.out.kept hW (fun _ _ h => h)
  have HK : Hid (∀ W, Calls Tryz.prog 35 #[.int .i64 kd] W fun e w' => e = .returned (.bool (knownB kd)) ∧ Ext W w') := fun W => known_any kd W
  have HC : Hid (∀ W, Calls Tryz.prog 43 #[.int .i64 kd] W fun e w' => e = .returned (.int .i64 (nW kd)) ∧ Ext W w') := fun W => codes_any kd W
  have HF : Hid (∀ W, Ext w W → Calls Tryz.prog 63 #[.slice a m cap, .func (.func 68) #[] #[]] W fun e w' => e = .returned (.bool (ws.any fun x => !wtB x)) ∧ Ext W w') := fun W hW =>
    con_int 68 _ S _ ws W (HW.out W hW) (by rw [HM.out]; exact hl) Tryz.call68 (fun x _ W' _ => (clo31_any x W').mono fun e w' ⟨h1, h2⟩ => ⟨h1, h2 ▸ Upd.refl _ _⟩)
  have HMX : Hid (∀ W, Ext w W → 0 < m → Calls Tryz.prog 69 #[.slice a m cap] W fun e w' => e = .returned (.int .i64 (maxL ws)) ∧ W = w') := fun W hW h0 =>
    smax_any S _ ws W (HW.out W hW) (by rw [HM.out]; exact hl) (by rw [HM.out]; exact h0)
  have HA := Lib.hid (any_not wtB ws)
  have HMA : Hid (0 < m → decide (0 < maxL ws) = ws.any fun n => decide (0 < n)) := fun h0 => max_pos ws (by intro e; rw [e] at HM; have := HM.out; simp at this; omega)
  have Hkn : Hid (0 < nW kd) := by
    unfold knownB at hk; simp at hk; exact (nW_known kd).2 hk
  have hm0 : 0 < m := by have := Hkn.out; omega
  obtain ⟨R, hR⟩ : ∃ R, R = (ws.all wtB && ws.any (fun n => decide (0 < n))) := ⟨_, rfl⟩
  rw [← hR]
  have HR : Hid (R = ((!(ws.any fun x => !wtB x)) && decide (0 < maxL ws))) := by show R = _; rw [hR, HMA.out hm0, HA.out]
  clear hR
  generalize maxL ws = MX at *
  cases hA1 : (ws.any fun x => !wtB x) with
  | true =>
    rw [hA1] at HF
    obtain rfl : R = false := by rw [HR.out, hA1]; rfl
    clear hA1 HR
    rw [hk] at HK
    clear hk
    have t0 : ((m : Int) != (nW kd : Int)) = false := by simp; omega
    have t1 : decide (lo < -1048576) = false := by simp; omega
    have t2 : decide (1048576 < hi) = false := by simp; omega
    have t3 : decide (hi < lo) = false := by simp; omega
    have H1 := Lib.hid h1
    clear h1
    have u1 : (kd == 6) = true := by simpa using h5
    have H5 := Lib.hid h5
    clear h5
    go_enter Tryz.func40, Tryz.ntmps40
    go_wp2_with fail
    generalize w.alloc (.cells #[.int .i64 kd, .slice a m cap, .int .i64 lo, .int .i64 hi] 51) = w3 at *
    generalize w.heap.size = b at *
    have Hb0 : Hid (∀ W, Ext w3 W → W.cell? ⟨b, 0, none⟩ = some (.int .i64 kd)) := fun W hW => cellRow (hW.heap HB.out (fun h => h)) 0 _ rfl
    have Hb1 : Hid (∀ W, Ext w3 W → W.cell? ⟨b, 1, none⟩ = some (.slice a m cap)) := fun W hW => cellRow (hW.heap HB.out (fun h => h)) 1 _ rfl
    have Hb2 : Hid (∀ W, Ext w3 W → W.cell? ⟨b, 2, none⟩ = some (.int .i64 lo)) := fun W hW => cellRow (hW.heap HB.out (fun h => h)) 2 _ rfl
    have Hb3 : Hid (∀ W, Ext w3 W → W.cell? ⟨b, 3, none⟩ = some (.int .i64 hi)) := fun W hW => cellRow (hW.heap HB.out (fun h => h)) 3 _ rfl
    have hx0 : Ext w3 w3.drew := (Upd.refl _ w3).drew
    have hb0 := Hb0.out _ (Upd.refl _ _)
    have hb1 := Hb1.out _ (Upd.refl _ _)
    have hb2 := Hb2.out _ (Upd.refl _ _)
    have hb3 := Hb3.out _ (Upd.refl _ _)
    have hrf : Ext w3 w3 := Upd.refl _ _
    have hX0 : ∀ x : XW w3, x.val.cell? ⟨b, 0, none⟩ = some (.int .i64 kd) := fun x => Hb0.out _ x.ext
    have hX1 : ∀ x : XW w3, x.val.cell? ⟨b, 1, none⟩ = some (.slice a m cap) := fun x => Hb1.out _ x.ext
    have hX2 : ∀ x : XW w3, x.val.cell? ⟨b, 2, none⟩ = some (.int .i64 lo) := fun x => Hb2.out _ x.ext
    have hX3 : ∀ x : XW w3, x.val.cell? ⟨b, 3, none⟩ = some (.int .i64 hi) := fun x => Hb3.out _ x.ext
    refine wp_region_ext w3 (by assumption) (by kernel_rfl) (by kernel_rfl) ?_
    repeat (first | go_big_quiet_skip | (go_big_quiet_want; go_big_quiet_op; first | go_big_quiet_on | (apply Exists.intro; refine ⟨fun x => ?_, ?_⟩; (first | (go_at_call 35; exact XW.call (HK.out _)) | (go_at_call 43; exact XW.call (HC.out _))); go_big_quiet_on)))
    refine wpQuiet_nil ?_
    rintro _ ⟨⟨w6, hyw6⟩, rfl⟩
    try dsimp only
    have hy6 := hyw6
    have e0 := Hb0.out _ hy6
    have e1 := Hb1.out _ hy6
    have e2 := Hb2.out _ hy6
    have e3 := Hb3.out _ hy6
    have H6 := Lib.hid (HU.out.ext hy6)
    clear hb0 hb1 hb2 hb3 hx0 hX0 hX1 hX2 hX3 hrf
    go_wp2_with fail
    refine (HF.out _ H6.out).mono ?_
    rintro e w7 ⟨rfl, h7⟩
    have hy7 : Ext w3 w7 := hy6.ext h7
    have f1 := Hb1.out _ hy7
    have H7 := Lib.hid (H6.out.ext h7)
    clear h7
    go_wp2_with fail
    go_ret
    exact ⟨rfl, H7.out⟩
  | false =>
    rw [hA1] at HF
    have hr : R = decide (0 < MX) := by rw [HR.out, hA1]; rfl
    subst hr
    clear hA1 HR
    rw [hk] at HK
    clear hk
    have t0 : ((m : Int) != (nW kd : Int)) = false := by simp; omega
    have t1 : decide (lo < -1048576) = false := by simp; omega
    have t2 : decide (1048576 < hi) = false := by simp; omega
    have t3 : decide (hi < lo) = false := by simp; omega
    have H1 := Lib.hid h1
    clear h1
    have u1 : (kd == 6) = true := by simpa using h5
    have H5 := Lib.hid h5
    clear h5
    go_enter Tryz.func40, Tryz.ntmps40
    go_wp2_with fail
    generalize w.alloc (.cells #[.int .i64 kd, .slice a m cap, .int .i64 lo, .int .i64 hi] 51) = w3 at *
    generalize w.heap.size = b at *
    have Hb0 : Hid (∀ W, Ext w3 W → W.cell? ⟨b, 0, none⟩ = some (.int .i64 kd)) := fun W hW => cellRow (hW.heap HB.out (fun h => h)) 0 _ rfl
    have Hb1 : Hid (∀ W, Ext w3 W → W.cell? ⟨b, 1, none⟩ = some (.slice a m cap)) := fun W hW => cellRow (hW.heap HB.out (fun h => h)) 1 _ rfl
    have Hb2 : Hid (∀ W, Ext w3 W → W.cell? ⟨b, 2, none⟩ = some (.int .i64 lo)) := fun W hW => cellRow (hW.heap HB.out (fun h => h)) 2 _ rfl
    have Hb3 : Hid (∀ W, Ext w3 W → W.cell? ⟨b, 3, none⟩ = some (.int .i64 hi)) := fun W hW => cellRow (hW.heap HB.out (fun h => h)) 3 _ rfl
    have hx0 : Ext w3 w3.drew := (Upd.refl _ w3).drew
    have hb0 := Hb0.out _ (Upd.refl _ _)
    have hb1 := Hb1.out _ (Upd.refl _ _)
    have hb2 := Hb2.out _ (Upd.refl _ _)
    have hb3 := Hb3.out _ (Upd.refl _ _)
    have hrf : Ext w3 w3 := Upd.refl _ _
    have hX0 : ∀ x : XW w3, x.val.cell? ⟨b, 0, none⟩ = some (.int .i64 kd) := fun x => Hb0.out _ x.ext
    have hX1 : ∀ x : XW w3, x.val.cell? ⟨b, 1, none⟩ = some (.slice a m cap) := fun x => Hb1.out _ x.ext
    have hX2 : ∀ x : XW w3, x.val.cell? ⟨b, 2, none⟩ = some (.int .i64 lo) := fun x => Hb2.out _ x.ext
    have hX3 : ∀ x : XW w3, x.val.cell? ⟨b, 3, none⟩ = some (.int .i64 hi) := fun x => Hb3.out _ x.ext
    refine wp_region_ext w3 (by assumption) (by kernel_rfl) (by kernel_rfl) ?_
    repeat (first | go_big_quiet_skip | (go_big_quiet_want; go_big_quiet_op; first | go_big_quiet_on | (apply Exists.intro; refine ⟨fun x => ?_, ?_⟩; (first | (go_at_call 35; exact XW.call (HK.out _)) | (go_at_call 43; exact XW.call (HC.out _))); go_big_quiet_on)))
    refine wpQuiet_nil ?_
    rintro _ ⟨⟨w6, hyw6⟩, rfl⟩
    try dsimp only
    have hy6 := hyw6
    have e0 := Hb0.out _ hy6
    have e1 := Hb1.out _ hy6
    have e2 := Hb2.out _ hy6
    have e3 := Hb3.out _ hy6
    have H6 := Lib.hid (HU.out.ext hy6)
    clear hb0 hb1 hb2 hb3 hx0 hX0 hX1 hX2 hX3 hrf
    go_wp2_with fail
    refine (HF.out _ H6.out).mono ?_
    rintro e w7 ⟨rfl, h7⟩
    have hy7 : Ext w3 w7 := hy6.ext h7
    have f1 := Hb1.out _ hy7
    have H7 := Lib.hid (H6.out.ext h7)
    clear h7
    go_wp2_with fail
    refine (HMX.out _ H7.out hm0).mono ?_
    rintro e w8 ⟨rfl, rfl⟩
    go_wp2_with fail
    go_ret
    exact ⟨rfl, H7.out⟩

/-- workload.ValidProfile -/
theorem vp_any (S : Nat → Prop) (p : Prof) (wv : Value) (w : World) (h : NumR S w wv p.ws) (hl : p.ws.length ≤ 100000000) : Calls Tryz.prog 40 #[.agg #[.int .i64 p.kind, wv, .int .i64 p.low, .int .i64 p.high]] w fun e w' => e = .returned (.bool (validP p)) ∧ Ext w w' := by
  cases hk : knownB p.kind with
  | false =>
    have : validP p = false := by unfold validP; rw [hk]; rfl
    rw [this]; exact vp_1 S p wv w h hl hk
  | true =>
  by_cases h1 : p.ws.length ≠ nW p.kind
  · have : validP p = false := by unfold validP; rw [decide_eq_false h1]; simp
    rw [this]; exact vp_2 S p wv w h hl hk h1
  replace h1 : p.ws.length = nW p.kind := Decidable.not_not.1 h1
  by_cases h2 : p.low < -1048576
  · have : validP p = false := by unfold validP spanB; rw [decide_eq_false (by omega : ¬ (-1048576 ≤ p.low ∧ p.high ≤ 1048576 ∧ p.low ≤ p.high))]; simp
    rw [this]; exact vp_3 S p wv w h hl hk h1 h2
  by_cases h3 : 1048576 < p.high
  · have : validP p = false := by unfold validP spanB; rw [decide_eq_false (by omega : ¬ (-1048576 ≤ p.low ∧ p.high ≤ 1048576 ∧ p.low ≤ p.high))]; simp
    rw [this]; exact vp_4 S p wv w h hl hk h1 (by omega) h3
  by_cases h4 : p.high < p.low
  · have : validP p = false := by unfold validP spanB; rw [decide_eq_false (by omega : ¬ (-1048576 ≤ p.low ∧ p.high ≤ 1048576 ∧ p.low ≤ p.high))]; simp
    rw [this]; exact vp_5 S p wv w h hl hk h1 (by omega) (by omega) h4
  have hs1 : decide (-1048576 ≤ p.low ∧ p.high ≤ 1048576 ∧ p.low ≤ p.high) = true := decide_eq_true (by omega)
  have hv : validP p = (((decide (p.kind ≠ 6) || decide (0 ≤ p.low ∧ p.high ≤ 255))) && (p.ws.all wtB && p.ws.any (fun n => decide (0 < n)))) := by
    unfold validP spanB; rw [hk, decide_eq_true h1, hs1]; rfl
  rw [hv]
  by_cases h5 : p.kind = 6
  · by_cases h6 : p.low < 0
    · rw [show (decide (p.kind ≠ 6) || decide (0 ≤ p.low ∧ p.high ≤ 255)) = false by simp [h5]; omega]
      exact vp_6 S p wv w h hl hk h1 (by omega) (by omega) (by omega) h5 h6
    · by_cases h7 : 255 < p.high
      · rw [show (decide (p.kind ≠ 6) || decide (0 ≤ p.low ∧ p.high ≤ 255)) = false by simp [h5]; omega]
        exact vp_7 S p wv w h hl hk h1 (by omega) (by omega) (by omega) h5 (by omega) h7
      · rw [show (decide (p.kind ≠ 6) || decide (0 ≤ p.low ∧ p.high ≤ 255)) = true by simp [h5]; omega, Bool.true_and]
        exact vp_9b S p wv w h hl hk h1 (by omega) (by omega) (by omega) h5 (by omega) (by omega)
  · rw [show (decide (p.kind ≠ 6) || decide (0 ≤ p.low ∧ p.high ≤ 255)) = true by simp [h5], Bool.true_and]
    exact vp_8b S p wv w h hl hk h1 (by omega) (by omega) (by omega) h5

end Go.Proofs.YthpekfpeoglbgaaGreatDoor
