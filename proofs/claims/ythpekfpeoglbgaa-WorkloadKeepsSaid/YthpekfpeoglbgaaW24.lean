/- WorkloadGenerates. -/
import Derived.Test.YthpekfpeoglbgaaW23
namespace Go.Proofs.Ythpekfpeoglbgaa
open Go.RowKit Go.Hw
set_option linter.unusedVariables false
set_option linter.unusedSimpArgs false

set_option maxRecDepth 100000 in
theorem short_any (p : Prof) (a : Option Addr) (m cap : Nat) (w : World) : Calls Try.prog 9 #[(.agg #[.int .i64 p.kind, .slice a m cap, .int .i64 p.low, .int .i64 p.high])] w fun e w' => e = .returned (.bool (decide ((m : Int) ≤ 20))) ∧ Ext w w' := by
  have hb := alloc0 w (.cells #[.int .i64 p.kind, .slice a m cap, .int .i64 p.low, .int .i64 p.high] 24)
  have c1 := cellRow hb 1 _ rfl
  have HU : Hid (Ext w (w.alloc (.cells #[.int .i64 p.kind, .slice a m cap, .int .i64 p.low, .int .i64 p.high] 24))) := (Upd.refl _ w).alloc _
  clear hb
  go_enter Try.func9, Try.ntmps9
  go_wp2_with fail
  go_ret
  exact ⟨by first | rfl | simp, HU.out⟩
set_option maxRecDepth 100000 in
set_option maxHeartbeats 1000000 in
theorem gen_long (S : Nat → Prop) (p : Prof) (wv : Value) (w : World) (h : NumR S w wv p.ws) (seed n : Int) (hl : 20 < p.ws.length) : Calls Try.prog 3 #[.agg #[.int .i64 p.kind, wv, .int .i64 p.low, .int .i64 p.high], .int .i64 seed, .int .i64 n] w fun e w' => e = .returned (.bool true) ∧ Ext w w' := by
  obtain ⟨a, cap, hv⟩ := h.shape
  subst hv
  have HN := Lib.hid h
  clear h
  generalize hm : p.ws.length = m at *
  have HM := Lib.hid hm
  clear hm
  have HAW := Lib.hid (fun W : World => awake_any W)
  have HU : Hid (Ext w (w.alloc (.cells #[.int .i64 p.kind, .slice a m cap, .int .i64 p.low, .int .i64 p.high] 24))) := (Upd.refl _ w).alloc _
  have HSH := Lib.hid (fun W : World => short_any p a m cap W)
  have HC : Hid (∀ W, Ext (w.alloc (.cells #[.int .i64 p.kind, .slice a m cap, .int .i64 p.low, .int .i64 p.high] 24)) W → W.cell? ⟨w.heap.size, 0, none⟩ = some (.int .i64 p.kind) ∧ W.cell? ⟨w.heap.size, 1, none⟩ = some (.slice a m cap) ∧ W.cell? ⟨w.heap.size, 2, none⟩ = some (.int .i64 p.low) ∧ W.cell? ⟨w.heap.size, 3, none⟩ = some (.int .i64 p.high)) := fun W hW => by
    have hb := hW.heap (alloc0 w (.cells #[.int .i64 p.kind, .slice a m cap, .int .i64 p.low, .int .i64 p.high] 24)) (fun h => h)
    exact ⟨cellRow hb 0 _ rfl, cellRow hb 1 _ rfl, cellRow hb 2 _ rfl, cellRow hb 3 _ rfl⟩
  have HNW : Hid (∀ W, Ext (w.alloc (.cells #[.int .i64 p.kind, .slice a m cap, .int .i64 p.low, .int .i64 p.high] 24)) W → NumR S W (.slice a m cap) p.ws) := fun W hW => HN.out.kept (HU.out.ext hW) (fun _ _ h => h)
  have t0 : decide ((m : Int) ≤ 20) = false := by simp; omega
  rw [t0] at HSH
  go_enter Try.func3, Try.ntmps3
  go_wp2_with fail
  refine (HAW.out _).mono ?_
  rintro e w2 ⟨rfl, h2⟩
  have HE2 := Lib.hid h2
  clear h2
  obtain ⟨c0, c1, c2, c3⟩ := HC.out _ HE2.out
  go_wp2_with fail
  refine (HSH.out _).mono ?_
  rintro e w3 ⟨rfl, h3⟩
  have HE3 := Lib.hid (HE2.out.ext h3)
  clear h3 c0 c1 c2 c3
  go_wp2_with fail
  refine (HAW.out _).mono ?_
  rintro e w4 ⟨rfl, h4⟩
  have HE4 := Lib.hid (HE3.out.ext h4)
  go_wp2_with fail
  go_ret
  exact ⟨rfl, HU.out.ext HE4.out⟩

set_option maxRecDepth 100000 in
set_option maxHeartbeats 4000000 in
theorem gen_nn (S : Nat → Prop) (p : Prof) (wv : Value) (w : World) (h : NumR S w wv p.ws) (seed n : Int) (hl : p.ws.length ≤ 20) (hV : validP p = false) (hs : seedB seed = false) : Calls Try.prog 3 #[.agg #[.int .i64 p.kind, wv, .int .i64 p.low, .int .i64 p.high], .int .i64 seed, .int .i64 n] w fun e w' => e = .returned (.bool true) ∧ Ext w w' := by
  obtain ⟨a, cap, hv⟩ := h.shape
  subst hv
  have HN := Lib.hid h
  clear h
  generalize hm : p.ws.length = m at *
  have HM := Lib.hid hm
  clear hm
  have HAW := Lib.hid (fun W : World => awake_any W)
  have HU : Hid (Ext w (w.alloc (.cells #[.int .i64 p.kind, .slice a m cap, .int .i64 p.low, .int .i64 p.high] 24))) := (Upd.refl _ w).alloc _
  have HSH := Lib.hid (fun W : World => short_any p a m cap W)
  have HC : Hid (∀ W, Ext (w.alloc (.cells #[.int .i64 p.kind, .slice a m cap, .int .i64 p.low, .int .i64 p.high] 24)) W → W.cell? ⟨w.heap.size, 0, none⟩ = some (.int .i64 p.kind) ∧ W.cell? ⟨w.heap.size, 1, none⟩ = some (.slice a m cap) ∧ W.cell? ⟨w.heap.size, 2, none⟩ = some (.int .i64 p.low) ∧ W.cell? ⟨w.heap.size, 3, none⟩ = some (.int .i64 p.high)) := fun W hW => by
    have hb := hW.heap (alloc0 w (.cells #[.int .i64 p.kind, .slice a m cap, .int .i64 p.low, .int .i64 p.high] 24)) (fun h => h)
    exact ⟨cellRow hb 0 _ rfl, cellRow hb 1 _ rfl, cellRow hb 2 _ rfl, cellRow hb 3 _ rfl⟩
  have HNW : Hid (∀ W, Ext (w.alloc (.cells #[.int .i64 p.kind, .slice a m cap, .int .i64 p.low, .int .i64 p.high] 24)) W → NumR S W (.slice a m cap) p.ws) := fun W hW => HN.out.kept (HU.out.ext hW) (fun _ _ h => h)
  have t0 : decide ((m : Int) ≤ 20) = true := by simp; omega
  rw [t0] at HSH
  have HPV : Hid (∀ W, Ext (w.alloc (.cells #[.int .i64 p.kind, .slice a m cap, .int .i64 p.low, .int .i64 p.high] 24)) W → Calls Try.prog 10 #[(.agg #[.int .i64 p.kind, .slice a m cap, .int .i64 p.low, .int .i64 p.high])] W fun e w' => e = .returned (.bool false) ∧ Ext W w') := fun W hW => by
    have := vp_any S p _ W (HNW.out W hW) (by have := HM.out; omega)
    rw [hV] at this; exact this
  have HRV : Hid (∀ W, Ext (w.alloc (.cells #[.int .i64 p.kind, .slice a m cap, .int .i64 p.low, .int .i64 p.high] 24)) W → Calls Try.prog 11 #[(.agg #[.int .i64 p.kind, .slice a m cap, .int .i64 p.low, .int .i64 p.high])] W fun e w' => e = .returned (.bool false) ∧ Ext W w') := fun W hW => by
    have := rvp_any S p _ W (HNW.out W hW) (by have := HM.out; omega)
    rw [hV] at this; exact this
  have HSD : Hid (∀ W, Calls Try.prog 13 #[.int .i64 seed] W fun e w' => e = .returned (.bool false) ∧ W = w') := fun W => by
    have := rseed_any seed W
    rw [hs] at this; exact this
  go_enter Try.func3, Try.ntmps3
  go_wp2_with fail
  refine (HAW.out _).mono ?_
  rintro e w2 ⟨rfl, h2⟩
  have HE2 := Lib.hid h2
  clear h2
  obtain ⟨c0, c1, c2, c3⟩ := HC.out _ HE2.out
  go_wp2_with fail
  refine (HSH.out _).mono ?_
  rintro e w3 ⟨rfl, h3⟩
  have HE3 := Lib.hid (HE2.out.ext h3)
  clear h3 c0 c1 c2 c3
  have hX0 : ∀ x : XW w3, x.val.cell? ⟨w.heap.size, 0, none⟩ = some (.int .i64 p.kind) := fun x => (HC.out _ (HE3.out.ext x.ext)).1
  have hX1 : ∀ x : XW w3, x.val.cell? ⟨w.heap.size, 1, none⟩ = some (.slice a m cap) := fun x => (HC.out _ (HE3.out.ext x.ext)).2.1
  have hX2 : ∀ x : XW w3, x.val.cell? ⟨w.heap.size, 2, none⟩ = some (.int .i64 p.low) := fun x => (HC.out _ (HE3.out.ext x.ext)).2.2.1
  have hX3 : ∀ x : XW w3, x.val.cell? ⟨w.heap.size, 3, none⟩ = some (.int .i64 p.high) := fun x => (HC.out _ (HE3.out.ext x.ext)).2.2.2
  have HPX : Hid (∀ x : XW w3, Calls Try.prog 10 #[(.agg #[.int .i64 p.kind, .slice a m cap, .int .i64 p.low, .int .i64 p.high])] x.val fun e w' => e = .returned (.bool false) ∧ Ext x.val w') := fun x => HPV.out _ (HE3.out.ext x.ext)
  have HRX : Hid (∀ x : XW w3, Calls Try.prog 11 #[(.agg #[.int .i64 p.kind, .slice a m cap, .int .i64 p.low, .int .i64 p.high])] x.val fun e w' => e = .returned (.bool false) ∧ Ext x.val w') := fun x => HRV.out _ (HE3.out.ext x.ext)
  have hrf : Ext w3 w3 := Upd.refl _ _
  go_wp2_with fail
  refine wp_region_ext w3 (by assumption) (by kernel_rfl) (by kernel_rfl) ?_
  repeat (first | go_big_quiet_skip | (go_big_quiet_want; go_big_quiet_op; first | go_big_quiet_on | (apply Exists.intro; refine ⟨fun x => ?_, ?_⟩; (first | (go_at_call 10; exact XW.call (HPX.out _)) | (go_at_call 11; exact XW.call (HRX.out _))); go_big_quiet_on)))
  refine wpQuiet_nil ?_
  rintro _ ⟨⟨w4, hyw4⟩, rfl⟩
  try dsimp only
  have HE4 := Lib.hid (HE3.out.ext hyw4)
  clear hrf hyw4 hX0 hX1 hX2 hX3 HPX HRX
  go_wp2_with fail
  rcases (by omega : n < 0 ∨ (0 ≤ n ∧ n ≤ 60) ∨ (60 < n ∧ n ≤ 500) ∨ (500 < n ∧ n ≤ 2000) ∨ (2000 < n ∧ n ≤ 65536) ∨ 65536 < n) with hr | hr | hr | hr | hr | hr
  · have q0 : decide (n < 0) = true := by simp; omega
    have q1 : decide (65536 < n) = false := by simp; omega
    have q2 : decide (n ≤ 500) = true := by simp; omega
    have q3 : decide (60 < n) = false := by simp; omega
    have q4 : decide (n ≤ 2000) = true := by simp; omega
    have q5 : decide (2000 < n) = false := by simp; omega
    have HRD := Lib.hid (fun W : World => random_bad seed n W (by rw [hs]; first | (simp; done) | (simp; omega) | (intro h; omega)))
    have HGE : Hid (∀ W, Ext (w.alloc (.cells #[.int .i64 p.kind, .slice a m cap, .int .i64 p.low, .int .i64 p.high] 24)) W → Calls Try.prog 15 #[(.agg #[.int .i64 p.kind, .slice a m cap, .int .i64 p.low, .int .i64 p.high]), .int .i64 seed, .int .i64 n] W fun e w' => e = .returned (.tuple #[.slice none 0 0, .int .i64 1]) ∧ Ext W w') := fun W hW => gen_bad1 S p _ W (HNW.out W hW) (by have := HM.out; omega) seed n hV
    refine (HRD.out _).mono ?_
    rintro e w5 ⟨rfl, h5⟩
    have HE5 := Lib.hid (HE4.out.ext h5)
    clear h5 HRD
    obtain ⟨c0, c1, c2, c3⟩ := HC.out _ HE5.out
    go_wp2_with fail
    refine (HSD.out _).mono ?_
    rintro e w6 ⟨rfl, rfl⟩
    go_wp2_with fail
    refine (HGE.out _ HE5.out).mono ?_
    rintro e w7 ⟨rfl, h7⟩
    have HE7 := Lib.hid (HE5.out.ext h7)
    clear h7
    clear c0 c1 c2 c3
    obtain ⟨c0, c1, c2, c3⟩ := HC.out _ HE7.out
    go_wp2_with fail
    refine (HRV.out _ HE7.out).mono ?_
    rintro e w8 ⟨rfl, h8⟩
    have HE8 := Lib.hid (HE7.out.ext h8)
    have HX8 := Lib.hid h8
    clear h8 c0 c1 c2 c3
    go_wp2_with fail
    go_ret
    exact ⟨rfl, HU.out.ext HE8.out⟩
  · obtain ⟨k, rfl⟩ : ∃ k : Nat, n = k := ⟨n.toNat, by omega⟩
    have q0 : decide ((k : Int) < 0) = false := by first | (simp; done) | (simp; omega)
    have q1 : decide (65536 < (k : Int)) = false := by simp; omega
    have q2 : decide ((k : Int) ≤ 500) = true := by simp; omega
    have q3 : decide (60 < (k : Int)) = false := by simp; omega
    have q4 : decide ((k : Int) ≤ 2000) = true := by simp; omega
    have q5 : decide (2000 < (k : Int)) = false := by simp; omega
    have HRD := Lib.hid (fun W : World => random_bad seed k W (by rw [hs]; first | (simp; done) | (simp; omega) | (intro h; omega)))
    have HGE : Hid (∀ W, Ext (w.alloc (.cells #[.int .i64 p.kind, .slice a m cap, .int .i64 p.low, .int .i64 p.high] 24)) W → Calls Try.prog 15 #[(.agg #[.int .i64 p.kind, .slice a m cap, .int .i64 p.low, .int .i64 p.high]), .int .i64 seed, .int .i64 (k : Int)] W fun e w' => e = .returned (.tuple #[.slice none 0 0, .int .i64 1]) ∧ Ext W w') := fun W hW => gen_bad1 S p _ W (HNW.out W hW) (by have := HM.out; omega) seed (k : Int) hV
    refine (HRD.out _).mono ?_
    rintro e w5 ⟨rfl, h5⟩
    have HE5 := Lib.hid (HE4.out.ext h5)
    clear h5 HRD
    obtain ⟨c0, c1, c2, c3⟩ := HC.out _ HE5.out
    go_wp2_with fail
    refine (HSD.out _).mono ?_
    rintro e w6 ⟨rfl, rfl⟩
    go_wp2_with fail
    refine (HGE.out _ HE5.out).mono ?_
    rintro e w7 ⟨rfl, h7⟩
    have HE7 := Lib.hid (HE5.out.ext h7)
    clear h7
    clear c0 c1 c2 c3
    obtain ⟨c0, c1, c2, c3⟩ := HC.out _ HE7.out
    go_wp2_with fail
    refine (HRV.out _ HE7.out).mono ?_
    rintro e w8 ⟨rfl, h8⟩
    have HE8 := Lib.hid (HE7.out.ext h8)
    have HX8 := Lib.hid h8
    clear h8 c0 c1 c2 c3
    go_wp2_with fail
    go_ret
    exact ⟨rfl, HU.out.ext HE8.out⟩
  · obtain ⟨k, rfl⟩ : ∃ k : Nat, n = k := ⟨n.toNat, by omega⟩
    have q0 : decide ((k : Int) < 0) = false := by first | (simp; done) | (simp; omega)
    have q1 : decide (65536 < (k : Int)) = false := by simp; omega
    have q2 : decide ((k : Int) ≤ 500) = true := by simp; omega
    have q3 : decide (60 < (k : Int)) = true := by simp; omega
    have q4 : decide ((k : Int) ≤ 2000) = true := by simp; omega
    have q5 : decide (2000 < (k : Int)) = false := by simp; omega
    have HRD := Lib.hid (fun W : World => random_bad seed k W (by rw [hs]; first | (simp; done) | (simp; omega) | (intro h; omega)))
    refine (HRD.out _).mono ?_
    rintro e w5 ⟨rfl, h5⟩
    have HE5 := Lib.hid (HE4.out.ext h5)
    clear h5 HRD
    obtain ⟨c0, c1, c2, c3⟩ := HC.out _ HE5.out
    go_wp2_with fail
    refine (HSD.out _).mono ?_
    rintro e w6 ⟨rfl, rfl⟩
    go_wp2_with fail
    go_ret
    exact ⟨rfl, HU.out.ext HE5.out⟩
  · obtain ⟨k, rfl⟩ : ∃ k : Nat, n = k := ⟨n.toNat, by omega⟩
    have q0 : decide ((k : Int) < 0) = false := by first | (simp; done) | (simp; omega)
    have q1 : decide (65536 < (k : Int)) = false := by simp; omega
    have q2 : decide ((k : Int) ≤ 500) = false := by simp; omega
    have q3 : decide (60 < (k : Int)) = true := by simp; omega
    have q4 : decide ((k : Int) ≤ 2000) = true := by simp; omega
    have q5 : decide (2000 < (k : Int)) = false := by simp; omega
    have HRD := Lib.hid (fun W : World => random_bad seed k W (by rw [hs]; first | (simp; done) | (simp; omega) | (intro h; omega)))
    refine (HRD.out _).mono ?_
    rintro e w5 ⟨rfl, h5⟩
    have HE5 := Lib.hid (HE4.out.ext h5)
    clear h5 HRD
    obtain ⟨c0, c1, c2, c3⟩ := HC.out _ HE5.out
    go_wp2_with fail
    refine (HSD.out _).mono ?_
    rintro e w6 ⟨rfl, rfl⟩
    go_wp2_with fail
    go_ret
    exact ⟨rfl, HU.out.ext HE5.out⟩
  · obtain ⟨k, rfl⟩ : ∃ k : Nat, n = k := ⟨n.toNat, by omega⟩
    have q0 : decide ((k : Int) < 0) = false := by first | (simp; done) | (simp; omega)
    have q1 : decide (65536 < (k : Int)) = false := by simp; omega
    have q2 : decide ((k : Int) ≤ 500) = false := by simp; omega
    have q3 : decide (60 < (k : Int)) = true := by simp; omega
    have q4 : decide ((k : Int) ≤ 2000) = false := by simp; omega
    have q5 : decide (2000 < (k : Int)) = true := by simp; omega
    have HRD := Lib.hid (fun W : World => random_bad seed k W (by rw [hs]; first | (simp; done) | (simp; omega) | (intro h; omega)))
    have HGE : Hid (∀ W, Ext (w.alloc (.cells #[.int .i64 p.kind, .slice a m cap, .int .i64 p.low, .int .i64 p.high] 24)) W → Calls Try.prog 15 #[(.agg #[.int .i64 p.kind, .slice a m cap, .int .i64 p.low, .int .i64 p.high]), .int .i64 seed, .int .i64 (k : Int)] W fun e w' => e = .returned (.tuple #[.slice none 0 0, .int .i64 1]) ∧ Ext W w') := fun W hW => gen_bad1 S p _ W (HNW.out W hW) (by have := HM.out; omega) seed (k : Int) hV
    refine (HRD.out _).mono ?_
    rintro e w5 ⟨rfl, h5⟩
    have HE5 := Lib.hid (HE4.out.ext h5)
    clear h5 HRD
    obtain ⟨c0, c1, c2, c3⟩ := HC.out _ HE5.out
    go_wp2_with fail
    refine (HSD.out _).mono ?_
    rintro e w6 ⟨rfl, rfl⟩
    go_wp2_with fail
    refine (HGE.out _ HE5.out).mono ?_
    rintro e w7 ⟨rfl, h7⟩
    have HE7 := Lib.hid (HE5.out.ext h7)
    clear h7
    clear c0 c1 c2 c3
    obtain ⟨c0, c1, c2, c3⟩ := HC.out _ HE7.out
    go_wp2_with fail
    refine (HRV.out _ HE7.out).mono ?_
    rintro e w8 ⟨rfl, h8⟩
    have HE8 := Lib.hid (HE7.out.ext h8)
    have HX8 := Lib.hid h8
    clear h8 c0 c1 c2 c3
    go_wp2_with fail
    go_ret
    exact ⟨rfl, HU.out.ext HE8.out⟩
  · obtain ⟨k, rfl⟩ : ∃ k : Nat, n = k := ⟨n.toNat, by omega⟩
    have q0 : decide ((k : Int) < 0) = false := by first | (simp; done) | (simp; omega)
    have q1 : decide (65536 < (k : Int)) = true := by simp; omega
    have q2 : decide ((k : Int) ≤ 500) = false := by simp; omega
    have q3 : decide (60 < (k : Int)) = true := by simp; omega
    have q4 : decide ((k : Int) ≤ 2000) = false := by simp; omega
    have q5 : decide (2000 < (k : Int)) = true := by simp; omega
    have HRD := Lib.hid (fun W : World => random_bad seed k W (by rw [hs]; first | (simp; done) | (simp; omega) | (intro h; omega)))
    have HGE : Hid (∀ W, Ext (w.alloc (.cells #[.int .i64 p.kind, .slice a m cap, .int .i64 p.low, .int .i64 p.high] 24)) W → Calls Try.prog 15 #[(.agg #[.int .i64 p.kind, .slice a m cap, .int .i64 p.low, .int .i64 p.high]), .int .i64 seed, .int .i64 (k : Int)] W fun e w' => e = .returned (.tuple #[.slice none 0 0, .int .i64 1]) ∧ Ext W w') := fun W hW => gen_bad1 S p _ W (HNW.out W hW) (by have := HM.out; omega) seed (k : Int) hV
    refine (HRD.out _).mono ?_
    rintro e w5 ⟨rfl, h5⟩
    have HE5 := Lib.hid (HE4.out.ext h5)
    clear h5 HRD
    obtain ⟨c0, c1, c2, c3⟩ := HC.out _ HE5.out
    go_wp2_with fail
    refine (HSD.out _).mono ?_
    rintro e w6 ⟨rfl, rfl⟩
    go_wp2_with fail
    refine (HGE.out _ HE5.out).mono ?_
    rintro e w7 ⟨rfl, h7⟩
    have HE7 := Lib.hid (HE5.out.ext h7)
    clear h7
    clear c0 c1 c2 c3
    obtain ⟨c0, c1, c2, c3⟩ := HC.out _ HE7.out
    go_wp2_with fail
    refine (HRV.out _ HE7.out).mono ?_
    rintro e w8 ⟨rfl, h8⟩
    have HE8 := Lib.hid (HE7.out.ext h8)
    have HX8 := Lib.hid h8
    clear h8 c0 c1 c2 c3
    go_wp2_with fail
    go_ret
    exact ⟨rfl, HU.out.ext HE8.out⟩

set_option maxRecDepth 100000 in
set_option maxHeartbeats 4000000 in
theorem gen_ns (S : Nat → Prop) (p : Prof) (wv : Value) (w : World) (h : NumR S w wv p.ws) (seed n : Int) (hl : p.ws.length ≤ 20) (hV : validP p = false) (hs : seedB seed = true) : Calls Try.prog 3 #[.agg #[.int .i64 p.kind, wv, .int .i64 p.low, .int .i64 p.high], .int .i64 seed, .int .i64 n] w fun e w' => e = .returned (.bool true) ∧ Ext w w' := by
  obtain ⟨a, cap, hv⟩ := h.shape
  subst hv
  have HN := Lib.hid h
  clear h
  generalize hm : p.ws.length = m at *
  have HM := Lib.hid hm
  clear hm
  have HAW := Lib.hid (fun W : World => awake_any W)
  have HU : Hid (Ext w (w.alloc (.cells #[.int .i64 p.kind, .slice a m cap, .int .i64 p.low, .int .i64 p.high] 24))) := (Upd.refl _ w).alloc _
  have HSH := Lib.hid (fun W : World => short_any p a m cap W)
  have HC : Hid (∀ W, Ext (w.alloc (.cells #[.int .i64 p.kind, .slice a m cap, .int .i64 p.low, .int .i64 p.high] 24)) W → W.cell? ⟨w.heap.size, 0, none⟩ = some (.int .i64 p.kind) ∧ W.cell? ⟨w.heap.size, 1, none⟩ = some (.slice a m cap) ∧ W.cell? ⟨w.heap.size, 2, none⟩ = some (.int .i64 p.low) ∧ W.cell? ⟨w.heap.size, 3, none⟩ = some (.int .i64 p.high)) := fun W hW => by
    have hb := hW.heap (alloc0 w (.cells #[.int .i64 p.kind, .slice a m cap, .int .i64 p.low, .int .i64 p.high] 24)) (fun h => h)
    exact ⟨cellRow hb 0 _ rfl, cellRow hb 1 _ rfl, cellRow hb 2 _ rfl, cellRow hb 3 _ rfl⟩
  have HNW : Hid (∀ W, Ext (w.alloc (.cells #[.int .i64 p.kind, .slice a m cap, .int .i64 p.low, .int .i64 p.high] 24)) W → NumR S W (.slice a m cap) p.ws) := fun W hW => HN.out.kept (HU.out.ext hW) (fun _ _ h => h)
  have t0 : decide ((m : Int) ≤ 20) = true := by simp; omega
  rw [t0] at HSH
  have HPV : Hid (∀ W, Ext (w.alloc (.cells #[.int .i64 p.kind, .slice a m cap, .int .i64 p.low, .int .i64 p.high] 24)) W → Calls Try.prog 10 #[(.agg #[.int .i64 p.kind, .slice a m cap, .int .i64 p.low, .int .i64 p.high])] W fun e w' => e = .returned (.bool false) ∧ Ext W w') := fun W hW => by
    have := vp_any S p _ W (HNW.out W hW) (by have := HM.out; omega)
    rw [hV] at this; exact this
  have HRV : Hid (∀ W, Ext (w.alloc (.cells #[.int .i64 p.kind, .slice a m cap, .int .i64 p.low, .int .i64 p.high] 24)) W → Calls Try.prog 11 #[(.agg #[.int .i64 p.kind, .slice a m cap, .int .i64 p.low, .int .i64 p.high])] W fun e w' => e = .returned (.bool false) ∧ Ext W w') := fun W hW => by
    have := rvp_any S p _ W (HNW.out W hW) (by have := HM.out; omega)
    rw [hV] at this; exact this
  have HSD : Hid (∀ W, Calls Try.prog 13 #[.int .i64 seed] W fun e w' => e = .returned (.bool true) ∧ W = w') := fun W => by
    have := rseed_any seed W
    rw [hs] at this; exact this
  go_enter Try.func3, Try.ntmps3
  go_wp2_with fail
  refine (HAW.out _).mono ?_
  rintro e w2 ⟨rfl, h2⟩
  have HE2 := Lib.hid h2
  clear h2
  obtain ⟨c0, c1, c2, c3⟩ := HC.out _ HE2.out
  go_wp2_with fail
  refine (HSH.out _).mono ?_
  rintro e w3 ⟨rfl, h3⟩
  have HE3 := Lib.hid (HE2.out.ext h3)
  clear h3 c0 c1 c2 c3
  have hX0 : ∀ x : XW w3, x.val.cell? ⟨w.heap.size, 0, none⟩ = some (.int .i64 p.kind) := fun x => (HC.out _ (HE3.out.ext x.ext)).1
  have hX1 : ∀ x : XW w3, x.val.cell? ⟨w.heap.size, 1, none⟩ = some (.slice a m cap) := fun x => (HC.out _ (HE3.out.ext x.ext)).2.1
  have hX2 : ∀ x : XW w3, x.val.cell? ⟨w.heap.size, 2, none⟩ = some (.int .i64 p.low) := fun x => (HC.out _ (HE3.out.ext x.ext)).2.2.1
  have hX3 : ∀ x : XW w3, x.val.cell? ⟨w.heap.size, 3, none⟩ = some (.int .i64 p.high) := fun x => (HC.out _ (HE3.out.ext x.ext)).2.2.2
  have HPX : Hid (∀ x : XW w3, Calls Try.prog 10 #[(.agg #[.int .i64 p.kind, .slice a m cap, .int .i64 p.low, .int .i64 p.high])] x.val fun e w' => e = .returned (.bool false) ∧ Ext x.val w') := fun x => HPV.out _ (HE3.out.ext x.ext)
  have HRX : Hid (∀ x : XW w3, Calls Try.prog 11 #[(.agg #[.int .i64 p.kind, .slice a m cap, .int .i64 p.low, .int .i64 p.high])] x.val fun e w' => e = .returned (.bool false) ∧ Ext x.val w') := fun x => HRV.out _ (HE3.out.ext x.ext)
  have hrf : Ext w3 w3 := Upd.refl _ _
  go_wp2_with fail
  refine wp_region_ext w3 (by assumption) (by kernel_rfl) (by kernel_rfl) ?_
  repeat (first | go_big_quiet_skip | (go_big_quiet_want; go_big_quiet_op; first | go_big_quiet_on | (apply Exists.intro; refine ⟨fun x => ?_, ?_⟩; (first | (go_at_call 10; exact XW.call (HPX.out _)) | (go_at_call 11; exact XW.call (HRX.out _))); go_big_quiet_on)))
  refine wpQuiet_nil ?_
  rintro _ ⟨⟨w4, hyw4⟩, rfl⟩
  try dsimp only
  have HE4 := Lib.hid (HE3.out.ext hyw4)
  clear hrf hyw4 hX0 hX1 hX2 hX3 HPX HRX
  go_wp2_with fail
  rcases (by omega : n < 0 ∨ (0 ≤ n ∧ n ≤ 60) ∨ (60 < n ∧ n ≤ 500) ∨ (500 < n ∧ n ≤ 2000) ∨ (2000 < n ∧ n ≤ 65536) ∨ 65536 < n) with hr | hr | hr | hr | hr | hr
  · have q0 : decide (n < 0) = true := by simp; omega
    have q1 : decide (65536 < n) = false := by simp; omega
    have q2 : decide (n ≤ 500) = true := by simp; omega
    have q3 : decide (60 < n) = false := by simp; omega
    have q4 : decide (n ≤ 2000) = true := by simp; omega
    have q5 : decide (2000 < n) = false := by simp; omega
    have HRD := Lib.hid (fun W : World => random_bad seed n W (by rw [hs]; first | (simp; done) | (simp; omega) | (intro h; omega)))
    have HGE : Hid (∀ W, Ext (w.alloc (.cells #[.int .i64 p.kind, .slice a m cap, .int .i64 p.low, .int .i64 p.high] 24)) W → Calls Try.prog 15 #[(.agg #[.int .i64 p.kind, .slice a m cap, .int .i64 p.low, .int .i64 p.high]), .int .i64 seed, .int .i64 n] W fun e w' => e = .returned (.tuple #[.slice none 0 0, .int .i64 1]) ∧ Ext W w') := fun W hW => gen_bad1 S p _ W (HNW.out W hW) (by have := HM.out; omega) seed n hV
    refine (HRD.out _).mono ?_
    rintro e w5 ⟨rfl, h5⟩
    have HE5 := Lib.hid (HE4.out.ext h5)
    clear h5 HRD
    obtain ⟨c0, c1, c2, c3⟩ := HC.out _ HE5.out
    go_wp2_with fail
    refine (HSD.out _).mono ?_
    rintro e w6 ⟨rfl, rfl⟩
    go_wp2_with fail
    refine (HGE.out _ HE5.out).mono ?_
    rintro e w7 ⟨rfl, h7⟩
    have HE7 := Lib.hid (HE5.out.ext h7)
    clear h7
    clear c0 c1 c2 c3
    obtain ⟨c0, c1, c2, c3⟩ := HC.out _ HE7.out
    go_wp2_with fail
    refine (HRV.out _ HE7.out).mono ?_
    rintro e w8 ⟨rfl, h8⟩
    have HE8 := Lib.hid (HE7.out.ext h8)
    have HX8 := Lib.hid h8
    clear h8 c0 c1 c2 c3
    go_wp2_with fail
    go_ret
    exact ⟨rfl, HU.out.ext HE8.out⟩
  · obtain ⟨k, rfl⟩ : ∃ k : Nat, n = k := ⟨n.toNat, by omega⟩
    have q0 : decide ((k : Int) < 0) = false := by first | (simp; done) | (simp; omega)
    have q1 : decide (65536 < (k : Int)) = false := by simp; omega
    have q2 : decide ((k : Int) ≤ 500) = true := by simp; omega
    have q3 : decide (60 < (k : Int)) = false := by simp; omega
    have q4 : decide ((k : Int) ≤ 2000) = true := by simp; omega
    have q5 : decide (2000 < (k : Int)) = false := by simp; omega
    have HRD := Lib.hid (fun W : World => random_ok seed k W hs (by omega))
    have HGE : Hid (∀ W, Ext (w.alloc (.cells #[.int .i64 p.kind, .slice a m cap, .int .i64 p.low, .int .i64 p.high] 24)) W → Calls Try.prog 15 #[(.agg #[.int .i64 p.kind, .slice a m cap, .int .i64 p.low, .int .i64 p.high]), .int .i64 seed, .int .i64 (k : Int)] W fun e w' => e = .returned (.tuple #[.slice none 0 0, .int .i64 1]) ∧ Ext W w') := fun W hW => gen_bad1 S p _ W (HNW.out W hW) (by have := HM.out; omega) seed (k : Int) hV
    have HSQ : Hid (∀ W, Calls Try.prog 14 #[.int .i64 seed, .int .i64 ((k : Int) + 1)] W fun e w' => ∃ v, e = .returned v ∧ w'.ownsRow W.heap.size 3 1 v (k + 1) (nums (sqL seed (k + 1))) ∧ Ext W w') := fun W => seq_any seed (k + 1) W hs (by omega) (by omega)
    have s1 : (0 : Int) ≤ (k : Int) := by omega
    refine (HRD.out _).mono ?_
    rintro e w5 ⟨rfl, h5⟩
    have HE5 := Lib.hid (HE4.out.ext h5)
    clear h5 HRD
    obtain ⟨c0, c1, c2, c3⟩ := HC.out _ HE5.out
    go_wp2_with fail
    refine (HSD.out _).mono ?_
    rintro e w6 ⟨rfl, rfl⟩
    go_wp2_with fail
    refine (HSQ.out _).mono ?_
    rintro e w6 ⟨v, rfl, g1, g2⟩
    obtain ⟨g, cp, rfl, _, _, _, gc, _⟩ := ownAt g1 (by omega)
    have g3 := gc k (by omega)
    rw [nums_get _ _ (by rw [sqL_length]; omega), sqL_get _ _ _ (by omega)] at g3
    have HE6 := Lib.hid (HE5.out.ext g2)
    clear g1 g2 gc c0 c1 c2 c3
    obtain ⟨c0, c1, c2, c3⟩ := HC.out _ HE6.out
    go_wp2_with fail
    refine (HGE.out _ HE6.out).mono ?_
    rintro e w7 ⟨rfl, h7⟩
    have HE7 := Lib.hid (HE6.out.ext h7)
    clear h7
    clear c0 c1 c2 c3
    obtain ⟨c0, c1, c2, c3⟩ := HC.out _ HE7.out
    go_wp2_with fail
    refine (HRV.out _ HE7.out).mono ?_
    rintro e w8 ⟨rfl, h8⟩
    have HE8 := Lib.hid (HE7.out.ext h8)
    have HX8 := Lib.hid h8
    clear h8 c0 c1 c2 c3
    go_wp2_with fail
    go_ret
    exact ⟨rfl, HU.out.ext HE8.out⟩
  · obtain ⟨k, rfl⟩ : ∃ k : Nat, n = k := ⟨n.toNat, by omega⟩
    have q0 : decide ((k : Int) < 0) = false := by first | (simp; done) | (simp; omega)
    have q1 : decide (65536 < (k : Int)) = false := by simp; omega
    have q2 : decide ((k : Int) ≤ 500) = true := by simp; omega
    have q3 : decide (60 < (k : Int)) = true := by simp; omega
    have q4 : decide ((k : Int) ≤ 2000) = true := by simp; omega
    have q5 : decide (2000 < (k : Int)) = false := by simp; omega
    have HRD := Lib.hid (fun W : World => random_ok seed k W hs (by omega))
    have HSQ : Hid (∀ W, Calls Try.prog 14 #[.int .i64 seed, .int .i64 ((k : Int) + 1)] W fun e w' => ∃ v, e = .returned v ∧ w'.ownsRow W.heap.size 3 1 v (k + 1) (nums (sqL seed (k + 1))) ∧ Ext W w') := fun W => seq_any seed (k + 1) W hs (by omega) (by omega)
    have s1 : (0 : Int) ≤ (k : Int) := by omega
    refine (HRD.out _).mono ?_
    rintro e w5 ⟨rfl, h5⟩
    have HE5 := Lib.hid (HE4.out.ext h5)
    clear h5 HRD
    obtain ⟨c0, c1, c2, c3⟩ := HC.out _ HE5.out
    go_wp2_with fail
    refine (HSD.out _).mono ?_
    rintro e w6 ⟨rfl, rfl⟩
    go_wp2_with fail
    refine (HSQ.out _).mono ?_
    rintro e w6 ⟨v, rfl, g1, g2⟩
    obtain ⟨g, cp, rfl, _, _, _, gc, _⟩ := ownAt g1 (by omega)
    have g3 := gc k (by omega)
    rw [nums_get _ _ (by rw [sqL_length]; omega), sqL_get _ _ _ (by omega)] at g3
    have HE6 := Lib.hid (HE5.out.ext g2)
    clear g1 g2 gc c0 c1 c2 c3
    obtain ⟨c0, c1, c2, c3⟩ := HC.out _ HE6.out
    go_wp2_with fail
    go_ret
    exact ⟨rfl, HU.out.ext HE6.out⟩
  · obtain ⟨k, rfl⟩ : ∃ k : Nat, n = k := ⟨n.toNat, by omega⟩
    have q0 : decide ((k : Int) < 0) = false := by first | (simp; done) | (simp; omega)
    have q1 : decide (65536 < (k : Int)) = false := by simp; omega
    have q2 : decide ((k : Int) ≤ 500) = false := by simp; omega
    have q3 : decide (60 < (k : Int)) = true := by simp; omega
    have q4 : decide ((k : Int) ≤ 2000) = true := by simp; omega
    have q5 : decide (2000 < (k : Int)) = false := by simp; omega
    have HRD := Lib.hid (fun W : World => random_ok seed k W hs (by omega))
    refine (HRD.out _).mono ?_
    rintro e w5 ⟨rfl, h5⟩
    have HE5 := Lib.hid (HE4.out.ext h5)
    clear h5 HRD
    obtain ⟨c0, c1, c2, c3⟩ := HC.out _ HE5.out
    go_wp2_with fail
    refine (HSD.out _).mono ?_
    rintro e w6 ⟨rfl, rfl⟩
    go_wp2_with fail
    go_ret
    exact ⟨rfl, HU.out.ext HE5.out⟩
  · obtain ⟨k, rfl⟩ : ∃ k : Nat, n = k := ⟨n.toNat, by omega⟩
    have q0 : decide ((k : Int) < 0) = false := by first | (simp; done) | (simp; omega)
    have q1 : decide (65536 < (k : Int)) = false := by simp; omega
    have q2 : decide ((k : Int) ≤ 500) = false := by simp; omega
    have q3 : decide (60 < (k : Int)) = true := by simp; omega
    have q4 : decide ((k : Int) ≤ 2000) = false := by simp; omega
    have q5 : decide (2000 < (k : Int)) = true := by simp; omega
    have HRD := Lib.hid (fun W : World => random_ok seed k W hs (by omega))
    have HGE : Hid (∀ W, Ext (w.alloc (.cells #[.int .i64 p.kind, .slice a m cap, .int .i64 p.low, .int .i64 p.high] 24)) W → Calls Try.prog 15 #[(.agg #[.int .i64 p.kind, .slice a m cap, .int .i64 p.low, .int .i64 p.high]), .int .i64 seed, .int .i64 (k : Int)] W fun e w' => e = .returned (.tuple #[.slice none 0 0, .int .i64 1]) ∧ Ext W w') := fun W hW => gen_bad1 S p _ W (HNW.out W hW) (by have := HM.out; omega) seed (k : Int) hV
    refine (HRD.out _).mono ?_
    rintro e w5 ⟨rfl, h5⟩
    have HE5 := Lib.hid (HE4.out.ext h5)
    clear h5 HRD
    obtain ⟨c0, c1, c2, c3⟩ := HC.out _ HE5.out
    go_wp2_with fail
    refine (HSD.out _).mono ?_
    rintro e w6 ⟨rfl, rfl⟩
    go_wp2_with fail
    refine (HGE.out _ HE5.out).mono ?_
    rintro e w7 ⟨rfl, h7⟩
    have HE7 := Lib.hid (HE5.out.ext h7)
    clear h7
    clear c0 c1 c2 c3
    obtain ⟨c0, c1, c2, c3⟩ := HC.out _ HE7.out
    go_wp2_with fail
    refine (HRV.out _ HE7.out).mono ?_
    rintro e w8 ⟨rfl, h8⟩
    have HE8 := Lib.hid (HE7.out.ext h8)
    have HX8 := Lib.hid h8
    clear h8 c0 c1 c2 c3
    go_wp2_with fail
    go_ret
    exact ⟨rfl, HU.out.ext HE8.out⟩
  · obtain ⟨k, rfl⟩ : ∃ k : Nat, n = k := ⟨n.toNat, by omega⟩
    have q0 : decide ((k : Int) < 0) = false := by first | (simp; done) | (simp; omega)
    have q1 : decide (65536 < (k : Int)) = true := by simp; omega
    have q2 : decide ((k : Int) ≤ 500) = false := by simp; omega
    have q3 : decide (60 < (k : Int)) = true := by simp; omega
    have q4 : decide ((k : Int) ≤ 2000) = false := by simp; omega
    have q5 : decide (2000 < (k : Int)) = true := by simp; omega
    have HRD := Lib.hid (fun W : World => random_bad seed k W (by rw [hs]; first | (simp; done) | (simp; omega) | (intro h; omega)))
    have HGE : Hid (∀ W, Ext (w.alloc (.cells #[.int .i64 p.kind, .slice a m cap, .int .i64 p.low, .int .i64 p.high] 24)) W → Calls Try.prog 15 #[(.agg #[.int .i64 p.kind, .slice a m cap, .int .i64 p.low, .int .i64 p.high]), .int .i64 seed, .int .i64 (k : Int)] W fun e w' => e = .returned (.tuple #[.slice none 0 0, .int .i64 1]) ∧ Ext W w') := fun W hW => gen_bad1 S p _ W (HNW.out W hW) (by have := HM.out; omega) seed (k : Int) hV
    refine (HRD.out _).mono ?_
    rintro e w5 ⟨rfl, h5⟩
    have HE5 := Lib.hid (HE4.out.ext h5)
    clear h5 HRD
    obtain ⟨c0, c1, c2, c3⟩ := HC.out _ HE5.out
    go_wp2_with fail
    refine (HSD.out _).mono ?_
    rintro e w6 ⟨rfl, rfl⟩
    go_wp2_with fail
    refine (HGE.out _ HE5.out).mono ?_
    rintro e w7 ⟨rfl, h7⟩
    have HE7 := Lib.hid (HE5.out.ext h7)
    clear h7
    clear c0 c1 c2 c3
    obtain ⟨c0, c1, c2, c3⟩ := HC.out _ HE7.out
    go_wp2_with fail
    refine (HRV.out _ HE7.out).mono ?_
    rintro e w8 ⟨rfl, h8⟩
    have HE8 := Lib.hid (HE7.out.ext h8)
    have HX8 := Lib.hid h8
    clear h8 c0 c1 c2 c3
    go_wp2_with fail
    go_ret
    exact ⟨rfl, HU.out.ext HE8.out⟩

set_option maxRecDepth 100000 in
set_option maxHeartbeats 4000000 in
theorem gen_vn (S : Nat → Prop) (p : Prof) (wv : Value) (w : World) (h : NumR S w wv p.ws) (seed n : Int) (hl : p.ws.length ≤ 20) (hV : validP p = true) (hs : seedB seed = false) : Calls Try.prog 3 #[.agg #[.int .i64 p.kind, wv, .int .i64 p.low, .int .i64 p.high], .int .i64 seed, .int .i64 n] w fun e w' => e = .returned (.bool true) ∧ Ext w w' := by
  obtain ⟨a, cap, hv⟩ := h.shape
  subst hv
  have HN := Lib.hid h
  clear h
  generalize hm : p.ws.length = m at *
  have HM := Lib.hid hm
  clear hm
  have HAW := Lib.hid (fun W : World => awake_any W)
  have HU : Hid (Ext w (w.alloc (.cells #[.int .i64 p.kind, .slice a m cap, .int .i64 p.low, .int .i64 p.high] 24))) := (Upd.refl _ w).alloc _
  have HSH := Lib.hid (fun W : World => short_any p a m cap W)
  have HC : Hid (∀ W, Ext (w.alloc (.cells #[.int .i64 p.kind, .slice a m cap, .int .i64 p.low, .int .i64 p.high] 24)) W → W.cell? ⟨w.heap.size, 0, none⟩ = some (.int .i64 p.kind) ∧ W.cell? ⟨w.heap.size, 1, none⟩ = some (.slice a m cap) ∧ W.cell? ⟨w.heap.size, 2, none⟩ = some (.int .i64 p.low) ∧ W.cell? ⟨w.heap.size, 3, none⟩ = some (.int .i64 p.high)) := fun W hW => by
    have hb := hW.heap (alloc0 w (.cells #[.int .i64 p.kind, .slice a m cap, .int .i64 p.low, .int .i64 p.high] 24)) (fun h => h)
    exact ⟨cellRow hb 0 _ rfl, cellRow hb 1 _ rfl, cellRow hb 2 _ rfl, cellRow hb 3 _ rfl⟩
  have HNW : Hid (∀ W, Ext (w.alloc (.cells #[.int .i64 p.kind, .slice a m cap, .int .i64 p.low, .int .i64 p.high] 24)) W → NumR S W (.slice a m cap) p.ws) := fun W hW => HN.out.kept (HU.out.ext hW) (fun _ _ h => h)
  have t0 : decide ((m : Int) ≤ 20) = true := by simp; omega
  rw [t0] at HSH
  have HPV : Hid (∀ W, Ext (w.alloc (.cells #[.int .i64 p.kind, .slice a m cap, .int .i64 p.low, .int .i64 p.high] 24)) W → Calls Try.prog 10 #[(.agg #[.int .i64 p.kind, .slice a m cap, .int .i64 p.low, .int .i64 p.high])] W fun e w' => e = .returned (.bool true) ∧ Ext W w') := fun W hW => by
    have := vp_any S p _ W (HNW.out W hW) (by have := HM.out; omega)
    rw [hV] at this; exact this
  have HRV : Hid (∀ W, Ext (w.alloc (.cells #[.int .i64 p.kind, .slice a m cap, .int .i64 p.low, .int .i64 p.high] 24)) W → Calls Try.prog 11 #[(.agg #[.int .i64 p.kind, .slice a m cap, .int .i64 p.low, .int .i64 p.high])] W fun e w' => e = .returned (.bool true) ∧ Ext W w') := fun W hW => by
    have := rvp_any S p _ W (HNW.out W hW) (by have := HM.out; omega)
    rw [hV] at this; exact this
  have HSD : Hid (∀ W, Calls Try.prog 13 #[.int .i64 seed] W fun e w' => e = .returned (.bool false) ∧ W = w') := fun W => by
    have := rseed_any seed W
    rw [hs] at this; exact this
  go_enter Try.func3, Try.ntmps3
  go_wp2_with fail
  refine (HAW.out _).mono ?_
  rintro e w2 ⟨rfl, h2⟩
  have HE2 := Lib.hid h2
  clear h2
  obtain ⟨c0, c1, c2, c3⟩ := HC.out _ HE2.out
  go_wp2_with fail
  refine (HSH.out _).mono ?_
  rintro e w3 ⟨rfl, h3⟩
  have HE3 := Lib.hid (HE2.out.ext h3)
  clear h3 c0 c1 c2 c3
  have hX0 : ∀ x : XW w3, x.val.cell? ⟨w.heap.size, 0, none⟩ = some (.int .i64 p.kind) := fun x => (HC.out _ (HE3.out.ext x.ext)).1
  have hX1 : ∀ x : XW w3, x.val.cell? ⟨w.heap.size, 1, none⟩ = some (.slice a m cap) := fun x => (HC.out _ (HE3.out.ext x.ext)).2.1
  have hX2 : ∀ x : XW w3, x.val.cell? ⟨w.heap.size, 2, none⟩ = some (.int .i64 p.low) := fun x => (HC.out _ (HE3.out.ext x.ext)).2.2.1
  have hX3 : ∀ x : XW w3, x.val.cell? ⟨w.heap.size, 3, none⟩ = some (.int .i64 p.high) := fun x => (HC.out _ (HE3.out.ext x.ext)).2.2.2
  have HPX : Hid (∀ x : XW w3, Calls Try.prog 10 #[(.agg #[.int .i64 p.kind, .slice a m cap, .int .i64 p.low, .int .i64 p.high])] x.val fun e w' => e = .returned (.bool true) ∧ Ext x.val w') := fun x => HPV.out _ (HE3.out.ext x.ext)
  have HRX : Hid (∀ x : XW w3, Calls Try.prog 11 #[(.agg #[.int .i64 p.kind, .slice a m cap, .int .i64 p.low, .int .i64 p.high])] x.val fun e w' => e = .returned (.bool true) ∧ Ext x.val w') := fun x => HRV.out _ (HE3.out.ext x.ext)
  have hrf : Ext w3 w3 := Upd.refl _ _
  go_wp2_with fail
  refine wp_region_ext w3 (by assumption) (by kernel_rfl) (by kernel_rfl) ?_
  repeat (first | go_big_quiet_skip | (go_big_quiet_want; go_big_quiet_op; first | go_big_quiet_on | (apply Exists.intro; refine ⟨fun x => ?_, ?_⟩; (first | (go_at_call 10; exact XW.call (HPX.out _)) | (go_at_call 11; exact XW.call (HRX.out _))); go_big_quiet_on)))
  refine wpQuiet_nil ?_
  rintro _ ⟨⟨w4, hyw4⟩, rfl⟩
  try dsimp only
  have HE4 := Lib.hid (HE3.out.ext hyw4)
  clear hrf hyw4 hX0 hX1 hX2 hX3 HPX HRX
  go_wp2_with fail
  rcases (by omega : n < 0 ∨ (0 ≤ n ∧ n ≤ 60) ∨ (60 < n ∧ n ≤ 500) ∨ (500 < n ∧ n ≤ 2000) ∨ (2000 < n ∧ n ≤ 65536) ∨ 65536 < n) with hr | hr | hr | hr | hr | hr
  · have q0 : decide (n < 0) = true := by simp; omega
    have q1 : decide (65536 < n) = false := by simp; omega
    have q2 : decide (n ≤ 500) = true := by simp; omega
    have q3 : decide (60 < n) = false := by simp; omega
    have q4 : decide (n ≤ 2000) = true := by simp; omega
    have q5 : decide (2000 < n) = false := by simp; omega
    have HRD := Lib.hid (fun W : World => random_bad seed n W (by rw [hs]; first | (simp; done) | (simp; omega) | (intro h; omega)))
    have HGE : Hid (∀ W, Ext (w.alloc (.cells #[.int .i64 p.kind, .slice a m cap, .int .i64 p.low, .int .i64 p.high] 24)) W → Calls Try.prog 15 #[(.agg #[.int .i64 p.kind, .slice a m cap, .int .i64 p.low, .int .i64 p.high]), .int .i64 seed, .int .i64 n] W fun e w' => e = .returned (.tuple #[.slice none 0 0, .int .i64 2]) ∧ Ext W w') := fun W hW => gen_bad2 S p _ W (HNW.out W hW) (by have := HM.out; omega) seed n hV (by rw [hs]; first | (simp; done) | (simp; omega) | (intro h; omega))
    refine (HRD.out _).mono ?_
    rintro e w5 ⟨rfl, h5⟩
    have HE5 := Lib.hid (HE4.out.ext h5)
    clear h5 HRD
    obtain ⟨c0, c1, c2, c3⟩ := HC.out _ HE5.out
    go_wp2_with fail
    refine (HSD.out _).mono ?_
    rintro e w6 ⟨rfl, rfl⟩
    go_wp2_with fail
    refine (HGE.out _ HE5.out).mono ?_
    rintro e w7 ⟨rfl, h7⟩
    have HE7 := Lib.hid (HE5.out.ext h7)
    clear h7
    clear c0 c1 c2 c3
    obtain ⟨c0, c1, c2, c3⟩ := HC.out _ HE7.out
    go_wp2_with fail
    refine (HRV.out _ HE7.out).mono ?_
    rintro e w8 ⟨rfl, h8⟩
    have HE8 := Lib.hid (HE7.out.ext h8)
    have HX8 := Lib.hid h8
    clear h8 c0 c1 c2 c3
    go_wp2_with fail
    refine (HSD.out _).mono ?_
    rintro e w9 ⟨rfl, rfl⟩
    go_wp2_with fail
    go_ret
    exact ⟨rfl, HU.out.ext HE8.out⟩
  · obtain ⟨k, rfl⟩ : ∃ k : Nat, n = k := ⟨n.toNat, by omega⟩
    have q0 : decide ((k : Int) < 0) = false := by first | (simp; done) | (simp; omega)
    have q1 : decide (65536 < (k : Int)) = false := by simp; omega
    have q2 : decide ((k : Int) ≤ 500) = true := by simp; omega
    have q3 : decide (60 < (k : Int)) = false := by simp; omega
    have q4 : decide ((k : Int) ≤ 2000) = true := by simp; omega
    have q5 : decide (2000 < (k : Int)) = false := by simp; omega
    have HRD := Lib.hid (fun W : World => random_bad seed k W (by rw [hs]; first | (simp; done) | (simp; omega) | (intro h; omega)))
    have HGE : Hid (∀ W, Ext (w.alloc (.cells #[.int .i64 p.kind, .slice a m cap, .int .i64 p.low, .int .i64 p.high] 24)) W → Calls Try.prog 15 #[(.agg #[.int .i64 p.kind, .slice a m cap, .int .i64 p.low, .int .i64 p.high]), .int .i64 seed, .int .i64 (k : Int)] W fun e w' => e = .returned (.tuple #[.slice none 0 0, .int .i64 2]) ∧ Ext W w') := fun W hW => gen_bad2 S p _ W (HNW.out W hW) (by have := HM.out; omega) seed (k : Int) hV (by rw [hs]; first | (simp; done) | (simp; omega) | (intro h; omega))
    refine (HRD.out _).mono ?_
    rintro e w5 ⟨rfl, h5⟩
    have HE5 := Lib.hid (HE4.out.ext h5)
    clear h5 HRD
    obtain ⟨c0, c1, c2, c3⟩ := HC.out _ HE5.out
    go_wp2_with fail
    refine (HSD.out _).mono ?_
    rintro e w6 ⟨rfl, rfl⟩
    go_wp2_with fail
    refine (HGE.out _ HE5.out).mono ?_
    rintro e w7 ⟨rfl, h7⟩
    have HE7 := Lib.hid (HE5.out.ext h7)
    clear h7
    clear c0 c1 c2 c3
    obtain ⟨c0, c1, c2, c3⟩ := HC.out _ HE7.out
    go_wp2_with fail
    refine (HRV.out _ HE7.out).mono ?_
    rintro e w8 ⟨rfl, h8⟩
    have HE8 := Lib.hid (HE7.out.ext h8)
    have HX8 := Lib.hid h8
    clear h8 c0 c1 c2 c3
    go_wp2_with fail
    refine (HSD.out _).mono ?_
    rintro e w9 ⟨rfl, rfl⟩
    go_wp2_with fail
    go_ret
    exact ⟨rfl, HU.out.ext HE8.out⟩
  · obtain ⟨k, rfl⟩ : ∃ k : Nat, n = k := ⟨n.toNat, by omega⟩
    have q0 : decide ((k : Int) < 0) = false := by first | (simp; done) | (simp; omega)
    have q1 : decide (65536 < (k : Int)) = false := by simp; omega
    have q2 : decide ((k : Int) ≤ 500) = true := by simp; omega
    have q3 : decide (60 < (k : Int)) = true := by simp; omega
    have q4 : decide ((k : Int) ≤ 2000) = true := by simp; omega
    have q5 : decide (2000 < (k : Int)) = false := by simp; omega
    have HRD := Lib.hid (fun W : World => random_bad seed k W (by rw [hs]; first | (simp; done) | (simp; omega) | (intro h; omega)))
    refine (HRD.out _).mono ?_
    rintro e w5 ⟨rfl, h5⟩
    have HE5 := Lib.hid (HE4.out.ext h5)
    clear h5 HRD
    obtain ⟨c0, c1, c2, c3⟩ := HC.out _ HE5.out
    go_wp2_with fail
    refine (HSD.out _).mono ?_
    rintro e w6 ⟨rfl, rfl⟩
    go_wp2_with fail
    go_ret
    exact ⟨rfl, HU.out.ext HE5.out⟩
  · obtain ⟨k, rfl⟩ : ∃ k : Nat, n = k := ⟨n.toNat, by omega⟩
    have q0 : decide ((k : Int) < 0) = false := by first | (simp; done) | (simp; omega)
    have q1 : decide (65536 < (k : Int)) = false := by simp; omega
    have q2 : decide ((k : Int) ≤ 500) = false := by simp; omega
    have q3 : decide (60 < (k : Int)) = true := by simp; omega
    have q4 : decide ((k : Int) ≤ 2000) = true := by simp; omega
    have q5 : decide (2000 < (k : Int)) = false := by simp; omega
    have HRD := Lib.hid (fun W : World => random_bad seed k W (by rw [hs]; first | (simp; done) | (simp; omega) | (intro h; omega)))
    refine (HRD.out _).mono ?_
    rintro e w5 ⟨rfl, h5⟩
    have HE5 := Lib.hid (HE4.out.ext h5)
    clear h5 HRD
    obtain ⟨c0, c1, c2, c3⟩ := HC.out _ HE5.out
    go_wp2_with fail
    refine (HSD.out _).mono ?_
    rintro e w6 ⟨rfl, rfl⟩
    go_wp2_with fail
    go_ret
    exact ⟨rfl, HU.out.ext HE5.out⟩
  · obtain ⟨k, rfl⟩ : ∃ k : Nat, n = k := ⟨n.toNat, by omega⟩
    have q0 : decide ((k : Int) < 0) = false := by first | (simp; done) | (simp; omega)
    have q1 : decide (65536 < (k : Int)) = false := by simp; omega
    have q2 : decide ((k : Int) ≤ 500) = false := by simp; omega
    have q3 : decide (60 < (k : Int)) = true := by simp; omega
    have q4 : decide ((k : Int) ≤ 2000) = false := by simp; omega
    have q5 : decide (2000 < (k : Int)) = true := by simp; omega
    have HRD := Lib.hid (fun W : World => random_bad seed k W (by rw [hs]; first | (simp; done) | (simp; omega) | (intro h; omega)))
    have HGE : Hid (∀ W, Ext (w.alloc (.cells #[.int .i64 p.kind, .slice a m cap, .int .i64 p.low, .int .i64 p.high] 24)) W → Calls Try.prog 15 #[(.agg #[.int .i64 p.kind, .slice a m cap, .int .i64 p.low, .int .i64 p.high]), .int .i64 seed, .int .i64 (k : Int)] W fun e w' => e = .returned (.tuple #[.slice none 0 0, .int .i64 2]) ∧ Ext W w') := fun W hW => gen_bad2 S p _ W (HNW.out W hW) (by have := HM.out; omega) seed (k : Int) hV (by rw [hs]; first | (simp; done) | (simp; omega) | (intro h; omega))
    refine (HRD.out _).mono ?_
    rintro e w5 ⟨rfl, h5⟩
    have HE5 := Lib.hid (HE4.out.ext h5)
    clear h5 HRD
    obtain ⟨c0, c1, c2, c3⟩ := HC.out _ HE5.out
    go_wp2_with fail
    refine (HSD.out _).mono ?_
    rintro e w6 ⟨rfl, rfl⟩
    go_wp2_with fail
    refine (HGE.out _ HE5.out).mono ?_
    rintro e w7 ⟨rfl, h7⟩
    have HE7 := Lib.hid (HE5.out.ext h7)
    clear h7
    clear c0 c1 c2 c3
    obtain ⟨c0, c1, c2, c3⟩ := HC.out _ HE7.out
    go_wp2_with fail
    refine (HRV.out _ HE7.out).mono ?_
    rintro e w8 ⟨rfl, h8⟩
    have HE8 := Lib.hid (HE7.out.ext h8)
    have HX8 := Lib.hid h8
    clear h8 c0 c1 c2 c3
    go_wp2_with fail
    refine (HSD.out _).mono ?_
    rintro e w9 ⟨rfl, rfl⟩
    go_wp2_with fail
    go_ret
    exact ⟨rfl, HU.out.ext HE8.out⟩
  · obtain ⟨k, rfl⟩ : ∃ k : Nat, n = k := ⟨n.toNat, by omega⟩
    have q0 : decide ((k : Int) < 0) = false := by first | (simp; done) | (simp; omega)
    have q1 : decide (65536 < (k : Int)) = true := by simp; omega
    have q2 : decide ((k : Int) ≤ 500) = false := by simp; omega
    have q3 : decide (60 < (k : Int)) = true := by simp; omega
    have q4 : decide ((k : Int) ≤ 2000) = false := by simp; omega
    have q5 : decide (2000 < (k : Int)) = true := by simp; omega
    have HRD := Lib.hid (fun W : World => random_bad seed k W (by rw [hs]; first | (simp; done) | (simp; omega) | (intro h; omega)))
    have HGE : Hid (∀ W, Ext (w.alloc (.cells #[.int .i64 p.kind, .slice a m cap, .int .i64 p.low, .int .i64 p.high] 24)) W → Calls Try.prog 15 #[(.agg #[.int .i64 p.kind, .slice a m cap, .int .i64 p.low, .int .i64 p.high]), .int .i64 seed, .int .i64 (k : Int)] W fun e w' => e = .returned (.tuple #[.slice none 0 0, .int .i64 2]) ∧ Ext W w') := fun W hW => gen_bad2 S p _ W (HNW.out W hW) (by have := HM.out; omega) seed (k : Int) hV (by rw [hs]; first | (simp; done) | (simp; omega) | (intro h; omega))
    refine (HRD.out _).mono ?_
    rintro e w5 ⟨rfl, h5⟩
    have HE5 := Lib.hid (HE4.out.ext h5)
    clear h5 HRD
    obtain ⟨c0, c1, c2, c3⟩ := HC.out _ HE5.out
    go_wp2_with fail
    refine (HSD.out _).mono ?_
    rintro e w6 ⟨rfl, rfl⟩
    go_wp2_with fail
    refine (HGE.out _ HE5.out).mono ?_
    rintro e w7 ⟨rfl, h7⟩
    have HE7 := Lib.hid (HE5.out.ext h7)
    clear h7
    clear c0 c1 c2 c3
    obtain ⟨c0, c1, c2, c3⟩ := HC.out _ HE7.out
    go_wp2_with fail
    refine (HRV.out _ HE7.out).mono ?_
    rintro e w8 ⟨rfl, h8⟩
    have HE8 := Lib.hid (HE7.out.ext h8)
    have HX8 := Lib.hid h8
    clear h8 c0 c1 c2 c3
    go_wp2_with fail
    refine (HSD.out _).mono ?_
    rintro e w9 ⟨rfl, rfl⟩
    go_wp2_with fail
    go_ret
    exact ⟨rfl, HU.out.ext HE8.out⟩

set_option maxRecDepth 100000 in
set_option maxHeartbeats 4000000 in
theorem gen_vs (S : Nat → Prop) (p : Prof) (wv : Value) (w : World) (h : NumR S w wv p.ws) (seed n : Int) (hl : p.ws.length ≤ 20) (hV : validP p = true) (hs : seedB seed = true) : Calls Try.prog 3 #[.agg #[.int .i64 p.kind, wv, .int .i64 p.low, .int .i64 p.high], .int .i64 seed, .int .i64 n] w fun e w' => e = .returned (.bool true) ∧ Ext w w' := by
  obtain ⟨a, cap, hv⟩ := h.shape
  subst hv
  have HN := Lib.hid h
  clear h
  generalize hm : p.ws.length = m at *
  have HM := Lib.hid hm
  clear hm
  have HAW := Lib.hid (fun W : World => awake_any W)
  have HU : Hid (Ext w (w.alloc (.cells #[.int .i64 p.kind, .slice a m cap, .int .i64 p.low, .int .i64 p.high] 24))) := (Upd.refl _ w).alloc _
  have HSH := Lib.hid (fun W : World => short_any p a m cap W)
  have HC : Hid (∀ W, Ext (w.alloc (.cells #[.int .i64 p.kind, .slice a m cap, .int .i64 p.low, .int .i64 p.high] 24)) W → W.cell? ⟨w.heap.size, 0, none⟩ = some (.int .i64 p.kind) ∧ W.cell? ⟨w.heap.size, 1, none⟩ = some (.slice a m cap) ∧ W.cell? ⟨w.heap.size, 2, none⟩ = some (.int .i64 p.low) ∧ W.cell? ⟨w.heap.size, 3, none⟩ = some (.int .i64 p.high)) := fun W hW => by
    have hb := hW.heap (alloc0 w (.cells #[.int .i64 p.kind, .slice a m cap, .int .i64 p.low, .int .i64 p.high] 24)) (fun h => h)
    exact ⟨cellRow hb 0 _ rfl, cellRow hb 1 _ rfl, cellRow hb 2 _ rfl, cellRow hb 3 _ rfl⟩
  have HNW : Hid (∀ W, Ext (w.alloc (.cells #[.int .i64 p.kind, .slice a m cap, .int .i64 p.low, .int .i64 p.high] 24)) W → NumR S W (.slice a m cap) p.ws) := fun W hW => HN.out.kept (HU.out.ext hW) (fun _ _ h => h)
  have t0 : decide ((m : Int) ≤ 20) = true := by simp; omega
  rw [t0] at HSH
  have HPV : Hid (∀ W, Ext (w.alloc (.cells #[.int .i64 p.kind, .slice a m cap, .int .i64 p.low, .int .i64 p.high] 24)) W → Calls Try.prog 10 #[(.agg #[.int .i64 p.kind, .slice a m cap, .int .i64 p.low, .int .i64 p.high])] W fun e w' => e = .returned (.bool true) ∧ Ext W w') := fun W hW => by
    have := vp_any S p _ W (HNW.out W hW) (by have := HM.out; omega)
    rw [hV] at this; exact this
  have HRV : Hid (∀ W, Ext (w.alloc (.cells #[.int .i64 p.kind, .slice a m cap, .int .i64 p.low, .int .i64 p.high] 24)) W → Calls Try.prog 11 #[(.agg #[.int .i64 p.kind, .slice a m cap, .int .i64 p.low, .int .i64 p.high])] W fun e w' => e = .returned (.bool true) ∧ Ext W w') := fun W hW => by
    have := rvp_any S p _ W (HNW.out W hW) (by have := HM.out; omega)
    rw [hV] at this; exact this
  have HSD : Hid (∀ W, Calls Try.prog 13 #[.int .i64 seed] W fun e w' => e = .returned (.bool true) ∧ W = w') := fun W => by
    have := rseed_any seed W
    rw [hs] at this; exact this
  go_enter Try.func3, Try.ntmps3
  go_wp2_with fail
  refine (HAW.out _).mono ?_
  rintro e w2 ⟨rfl, h2⟩
  have HE2 := Lib.hid h2
  clear h2
  obtain ⟨c0, c1, c2, c3⟩ := HC.out _ HE2.out
  go_wp2_with fail
  refine (HSH.out _).mono ?_
  rintro e w3 ⟨rfl, h3⟩
  have HE3 := Lib.hid (HE2.out.ext h3)
  clear h3 c0 c1 c2 c3
  have hX0 : ∀ x : XW w3, x.val.cell? ⟨w.heap.size, 0, none⟩ = some (.int .i64 p.kind) := fun x => (HC.out _ (HE3.out.ext x.ext)).1
  have hX1 : ∀ x : XW w3, x.val.cell? ⟨w.heap.size, 1, none⟩ = some (.slice a m cap) := fun x => (HC.out _ (HE3.out.ext x.ext)).2.1
  have hX2 : ∀ x : XW w3, x.val.cell? ⟨w.heap.size, 2, none⟩ = some (.int .i64 p.low) := fun x => (HC.out _ (HE3.out.ext x.ext)).2.2.1
  have hX3 : ∀ x : XW w3, x.val.cell? ⟨w.heap.size, 3, none⟩ = some (.int .i64 p.high) := fun x => (HC.out _ (HE3.out.ext x.ext)).2.2.2
  have HPX : Hid (∀ x : XW w3, Calls Try.prog 10 #[(.agg #[.int .i64 p.kind, .slice a m cap, .int .i64 p.low, .int .i64 p.high])] x.val fun e w' => e = .returned (.bool true) ∧ Ext x.val w') := fun x => HPV.out _ (HE3.out.ext x.ext)
  have HRX : Hid (∀ x : XW w3, Calls Try.prog 11 #[(.agg #[.int .i64 p.kind, .slice a m cap, .int .i64 p.low, .int .i64 p.high])] x.val fun e w' => e = .returned (.bool true) ∧ Ext x.val w') := fun x => HRV.out _ (HE3.out.ext x.ext)
  have hrf : Ext w3 w3 := Upd.refl _ _
  go_wp2_with fail
  refine wp_region_ext w3 (by assumption) (by kernel_rfl) (by kernel_rfl) ?_
  repeat (first | go_big_quiet_skip | (go_big_quiet_want; go_big_quiet_op; first | go_big_quiet_on | (apply Exists.intro; refine ⟨fun x => ?_, ?_⟩; (first | (go_at_call 10; exact XW.call (HPX.out _)) | (go_at_call 11; exact XW.call (HRX.out _))); go_big_quiet_on)))
  refine wpQuiet_nil ?_
  rintro _ ⟨⟨w4, hyw4⟩, rfl⟩
  try dsimp only
  have HE4 := Lib.hid (HE3.out.ext hyw4)
  clear hrf hyw4 hX0 hX1 hX2 hX3 HPX HRX
  go_wp2_with fail
  rcases (by omega : n < 0 ∨ (0 ≤ n ∧ n ≤ 60) ∨ (60 < n ∧ n ≤ 500) ∨ (500 < n ∧ n ≤ 2000) ∨ (2000 < n ∧ n ≤ 65536) ∨ 65536 < n) with hr | hr | hr | hr | hr | hr
  · have q0 : decide (n < 0) = true := by simp; omega
    have q1 : decide (65536 < n) = false := by simp; omega
    have q2 : decide (n ≤ 500) = true := by simp; omega
    have q3 : decide (60 < n) = false := by simp; omega
    have q4 : decide (n ≤ 2000) = true := by simp; omega
    have q5 : decide (2000 < n) = false := by simp; omega
    have HRD := Lib.hid (fun W : World => random_bad seed n W (by rw [hs]; first | (simp; done) | (simp; omega) | (intro h; omega)))
    have HGE : Hid (∀ W, Ext (w.alloc (.cells #[.int .i64 p.kind, .slice a m cap, .int .i64 p.low, .int .i64 p.high] 24)) W → Calls Try.prog 15 #[(.agg #[.int .i64 p.kind, .slice a m cap, .int .i64 p.low, .int .i64 p.high]), .int .i64 seed, .int .i64 n] W fun e w' => e = .returned (.tuple #[.slice none 0 0, .int .i64 2]) ∧ Ext W w') := fun W hW => gen_bad2 S p _ W (HNW.out W hW) (by have := HM.out; omega) seed n hV (by rw [hs]; first | (simp; done) | (simp; omega) | (intro h; omega))
    refine (HRD.out _).mono ?_
    rintro e w5 ⟨rfl, h5⟩
    have HE5 := Lib.hid (HE4.out.ext h5)
    clear h5 HRD
    obtain ⟨c0, c1, c2, c3⟩ := HC.out _ HE5.out
    go_wp2_with fail
    refine (HSD.out _).mono ?_
    rintro e w6 ⟨rfl, rfl⟩
    go_wp2_with fail
    refine (HGE.out _ HE5.out).mono ?_
    rintro e w7 ⟨rfl, h7⟩
    have HE7 := Lib.hid (HE5.out.ext h7)
    clear h7
    clear c0 c1 c2 c3
    obtain ⟨c0, c1, c2, c3⟩ := HC.out _ HE7.out
    go_wp2_with fail
    refine (HRV.out _ HE7.out).mono ?_
    rintro e w8 ⟨rfl, h8⟩
    have HE8 := Lib.hid (HE7.out.ext h8)
    have HX8 := Lib.hid h8
    clear h8 c0 c1 c2 c3
    go_wp2_with fail
    refine (HSD.out _).mono ?_
    rintro e w9 ⟨rfl, rfl⟩
    go_wp2_with fail
    go_ret
    exact ⟨rfl, HU.out.ext HE8.out⟩
  · obtain ⟨k, rfl⟩ : ∃ k : Nat, n = k := ⟨n.toNat, by omega⟩
    have q0 : decide ((k : Int) < 0) = false := by first | (simp; done) | (simp; omega)
    have q1 : decide (65536 < (k : Int)) = false := by simp; omega
    have q2 : decide ((k : Int) ≤ 500) = true := by simp; omega
    have q3 : decide (60 < (k : Int)) = false := by simp; omega
    have q4 : decide ((k : Int) ≤ 2000) = true := by simp; omega
    have q5 : decide (2000 < (k : Int)) = false := by simp; omega
    have HRD := Lib.hid (fun W : World => random_ok seed k W hs (by omega))
    have HGE : Hid (∀ W, Ext (w.alloc (.cells #[.int .i64 p.kind, .slice a m cap, .int .i64 p.low, .int .i64 p.high] 24)) W → Calls Try.prog 15 #[(.agg #[.int .i64 p.kind, .slice a m cap, .int .i64 p.low, .int .i64 p.high]), .int .i64 seed, .int .i64 (k : Int)] W fun e w' => ∃ v L, e = .returned (.tuple #[v, .int .i64 0]) ∧ OpsR (fun k => k < w'.heap.size) w' v L ∧ opsL L = gens p seed k ∧ Ext W w') := fun W hW => gen_ok S p _ W (HNW.out W hW) (by have := HM.out; omega) seed k hV hs (by omega)
    have HRG : Hid (∀ W, Ext (w.alloc (.cells #[.int .i64 p.kind, .slice a m cap, .int .i64 p.low, .int .i64 p.high] 24)) W → Calls Try.prog 17 #[(.agg #[.int .i64 p.kind, .slice a m cap, .int .i64 p.low, .int .i64 p.high]), .int .i64 seed, .int .i64 (k : Int)] W fun e w' => ∃ v L, e = .returned v ∧ OpsR (fun k => k < w'.heap.size) w' v L ∧ opsL L = gens p seed k ∧ Ext W w') := fun W hW => rgen_ok S p _ W (HNW.out W hW) seed k hV hs (by omega)
    have HGA : Hid (∀ o ∈ gens p seed k, o.args.length ≤ 100000000) := fun o ho => by
      have := validOp_len (((validL_iff _ _).1 (gens_valid p seed k ((validP_iff p).1 hV) (by omega))).2.2 o ho)
      omega
    have HSQ : Hid (∀ W, Calls Try.prog 14 #[.int .i64 seed, .int .i64 ((k : Int) + 1)] W fun e w' => ∃ v, e = .returned v ∧ w'.ownsRow W.heap.size 3 1 v (k + 1) (nums (sqL seed (k + 1))) ∧ Ext W w') := fun W => seq_any seed (k + 1) W hs (by omega) (by omega)
    have s1 : (0 : Int) ≤ (k : Int) := by omega
    refine (HRD.out _).mono ?_
    rintro e w5 ⟨rfl, h5⟩
    have HE5 := Lib.hid (HE4.out.ext h5)
    clear h5 HRD
    obtain ⟨c0, c1, c2, c3⟩ := HC.out _ HE5.out
    go_wp2_with fail
    refine (HSD.out _).mono ?_
    rintro e w6 ⟨rfl, rfl⟩
    go_wp2_with fail
    refine (HSQ.out _).mono ?_
    rintro e w6 ⟨v, rfl, g1, g2⟩
    obtain ⟨g, cp, rfl, _, _, _, gc, _⟩ := ownAt g1 (by omega)
    have g3 := gc k (by omega)
    rw [nums_get _ _ (by rw [sqL_length]; omega), sqL_get _ _ _ (by omega)] at g3
    have HE6 := Lib.hid (HE5.out.ext g2)
    clear g1 g2 gc c0 c1 c2 c3
    obtain ⟨c0, c1, c2, c3⟩ := HC.out _ HE6.out
    go_wp2_with fail
    refine (HGE.out _ HE6.out).mono ?_
    rintro e w7 ⟨v7, L7, rfl, l1, l2, h7⟩
    have HL1 := Lib.hid l1
    have HL2 := Lib.hid l2
    obtain ⟨oa, oc, hov⟩ := l1.shape
    subst hov
    clear l1 l2
    have HE7 := Lib.hid (HE6.out.ext h7)
    clear h7
    clear c0 c1 c2 c3
    obtain ⟨c0, c1, c2, c3⟩ := HC.out _ HE7.out
    go_wp2_with fail
    refine (HRV.out _ HE7.out).mono ?_
    rintro e w8 ⟨rfl, h8⟩
    have HE8 := Lib.hid (HE7.out.ext h8)
    have HX8 := Lib.hid h8
    clear h8 c0 c1 c2 c3
    obtain ⟨c0, c1, c2, c3⟩ := HC.out _ HE8.out
    go_wp2_with fail
    refine (HSD.out _).mono ?_
    rintro e w9 ⟨rfl, rfl⟩
    go_wp2_with fail
    refine (HRG.out _ HE8.out).mono ?_
    rintro e w9 ⟨v9, L9, rfl, r1, r2, h9⟩
    have hc : Calls Try.prog 16 #[.slice oa L7.length oc, v9] w9 fun e w' => e = .returned (.bool true) ∧ Ext w9 w' := by
      have a1 : ∀ (L : List OpV), opsL L = gens p seed k → (L.length ≤ 100000000 ∧ ∀ o ∈ L, o.op.args.length ≤ 100000000) := fun L hL => by
        refine ⟨?_, fun o ho => HGA.out _ (by rw [← hL]; exact List.mem_map_of_mem ho)⟩
        have := congrArg List.length hL
        rw [opsL_length, gens_length] at this; omega
      have := sameops_any _ _ _ v9 L7 L9 w9 ((HL1.out.kept HX8.out (fun _ _ h => h)).kept h9 (fun _ _ h => h)) r1 (a1 _ HL2.out).1 (a1 _ r2).1 (a1 _ HL2.out).2 (a1 _ r2).2
      rw [show decide (opsL L7 = opsL L9) = true by rw [HL2.out, r2]; simp] at this
      exact this
    have HCC := Lib.hid hc
    have HE9 := Lib.hid (HE8.out.ext h9)
    clear hc h9 r1 r2
    go_wp2_with fail
    refine HCC.out.mono ?_
    rintro e w10 ⟨rfl, h10⟩
    have HE10 := Lib.hid (HE9.out.ext h10)
    clear h10
    go_wp2_with fail
    go_ret
    exact ⟨rfl, HU.out.ext HE10.out⟩
  · obtain ⟨k, rfl⟩ : ∃ k : Nat, n = k := ⟨n.toNat, by omega⟩
    have q0 : decide ((k : Int) < 0) = false := by first | (simp; done) | (simp; omega)
    have q1 : decide (65536 < (k : Int)) = false := by simp; omega
    have q2 : decide ((k : Int) ≤ 500) = true := by simp; omega
    have q3 : decide (60 < (k : Int)) = true := by simp; omega
    have q4 : decide ((k : Int) ≤ 2000) = true := by simp; omega
    have q5 : decide (2000 < (k : Int)) = false := by simp; omega
    have HRD := Lib.hid (fun W : World => random_ok seed k W hs (by omega))
    have HSQ : Hid (∀ W, Calls Try.prog 14 #[.int .i64 seed, .int .i64 ((k : Int) + 1)] W fun e w' => ∃ v, e = .returned v ∧ w'.ownsRow W.heap.size 3 1 v (k + 1) (nums (sqL seed (k + 1))) ∧ Ext W w') := fun W => seq_any seed (k + 1) W hs (by omega) (by omega)
    have s1 : (0 : Int) ≤ (k : Int) := by omega
    refine (HRD.out _).mono ?_
    rintro e w5 ⟨rfl, h5⟩
    have HE5 := Lib.hid (HE4.out.ext h5)
    clear h5 HRD
    obtain ⟨c0, c1, c2, c3⟩ := HC.out _ HE5.out
    go_wp2_with fail
    refine (HSD.out _).mono ?_
    rintro e w6 ⟨rfl, rfl⟩
    go_wp2_with fail
    refine (HSQ.out _).mono ?_
    rintro e w6 ⟨v, rfl, g1, g2⟩
    obtain ⟨g, cp, rfl, _, _, _, gc, _⟩ := ownAt g1 (by omega)
    have g3 := gc k (by omega)
    rw [nums_get _ _ (by rw [sqL_length]; omega), sqL_get _ _ _ (by omega)] at g3
    have HE6 := Lib.hid (HE5.out.ext g2)
    clear g1 g2 gc c0 c1 c2 c3
    obtain ⟨c0, c1, c2, c3⟩ := HC.out _ HE6.out
    go_wp2_with fail
    go_ret
    exact ⟨rfl, HU.out.ext HE6.out⟩
  · obtain ⟨k, rfl⟩ : ∃ k : Nat, n = k := ⟨n.toNat, by omega⟩
    have q0 : decide ((k : Int) < 0) = false := by first | (simp; done) | (simp; omega)
    have q1 : decide (65536 < (k : Int)) = false := by simp; omega
    have q2 : decide ((k : Int) ≤ 500) = false := by simp; omega
    have q3 : decide (60 < (k : Int)) = true := by simp; omega
    have q4 : decide ((k : Int) ≤ 2000) = true := by simp; omega
    have q5 : decide (2000 < (k : Int)) = false := by simp; omega
    have HRD := Lib.hid (fun W : World => random_ok seed k W hs (by omega))
    refine (HRD.out _).mono ?_
    rintro e w5 ⟨rfl, h5⟩
    have HE5 := Lib.hid (HE4.out.ext h5)
    clear h5 HRD
    obtain ⟨c0, c1, c2, c3⟩ := HC.out _ HE5.out
    go_wp2_with fail
    refine (HSD.out _).mono ?_
    rintro e w6 ⟨rfl, rfl⟩
    go_wp2_with fail
    go_ret
    exact ⟨rfl, HU.out.ext HE5.out⟩
  · obtain ⟨k, rfl⟩ : ∃ k : Nat, n = k := ⟨n.toNat, by omega⟩
    have q0 : decide ((k : Int) < 0) = false := by first | (simp; done) | (simp; omega)
    have q1 : decide (65536 < (k : Int)) = false := by simp; omega
    have q2 : decide ((k : Int) ≤ 500) = false := by simp; omega
    have q3 : decide (60 < (k : Int)) = true := by simp; omega
    have q4 : decide ((k : Int) ≤ 2000) = false := by simp; omega
    have q5 : decide (2000 < (k : Int)) = true := by simp; omega
    have HRD := Lib.hid (fun W : World => random_ok seed k W hs (by omega))
    have HGE : Hid (∀ W, Ext (w.alloc (.cells #[.int .i64 p.kind, .slice a m cap, .int .i64 p.low, .int .i64 p.high] 24)) W → Calls Try.prog 15 #[(.agg #[.int .i64 p.kind, .slice a m cap, .int .i64 p.low, .int .i64 p.high]), .int .i64 seed, .int .i64 (k : Int)] W fun e w' => e = .returned (.tuple #[.slice none 0 0, .int .i64 2]) ∧ Ext W w') := fun W hW => gen_bad2 S p _ W (HNW.out W hW) (by have := HM.out; omega) seed (k : Int) hV (by rw [hs]; first | (simp; done) | (simp; omega) | (intro h; omega))
    refine (HRD.out _).mono ?_
    rintro e w5 ⟨rfl, h5⟩
    have HE5 := Lib.hid (HE4.out.ext h5)
    clear h5 HRD
    obtain ⟨c0, c1, c2, c3⟩ := HC.out _ HE5.out
    go_wp2_with fail
    refine (HSD.out _).mono ?_
    rintro e w6 ⟨rfl, rfl⟩
    go_wp2_with fail
    refine (HGE.out _ HE5.out).mono ?_
    rintro e w7 ⟨rfl, h7⟩
    have HE7 := Lib.hid (HE5.out.ext h7)
    clear h7
    clear c0 c1 c2 c3
    obtain ⟨c0, c1, c2, c3⟩ := HC.out _ HE7.out
    go_wp2_with fail
    refine (HRV.out _ HE7.out).mono ?_
    rintro e w8 ⟨rfl, h8⟩
    have HE8 := Lib.hid (HE7.out.ext h8)
    have HX8 := Lib.hid h8
    clear h8 c0 c1 c2 c3
    go_wp2_with fail
    refine (HSD.out _).mono ?_
    rintro e w9 ⟨rfl, rfl⟩
    go_wp2_with fail
    go_ret
    exact ⟨rfl, HU.out.ext HE8.out⟩
  · obtain ⟨k, rfl⟩ : ∃ k : Nat, n = k := ⟨n.toNat, by omega⟩
    have q0 : decide ((k : Int) < 0) = false := by first | (simp; done) | (simp; omega)
    have q1 : decide (65536 < (k : Int)) = true := by simp; omega
    have q2 : decide ((k : Int) ≤ 500) = false := by simp; omega
    have q3 : decide (60 < (k : Int)) = true := by simp; omega
    have q4 : decide ((k : Int) ≤ 2000) = false := by simp; omega
    have q5 : decide (2000 < (k : Int)) = true := by simp; omega
    have HRD := Lib.hid (fun W : World => random_bad seed k W (by rw [hs]; first | (simp; done) | (simp; omega) | (intro h; omega)))
    have HGE : Hid (∀ W, Ext (w.alloc (.cells #[.int .i64 p.kind, .slice a m cap, .int .i64 p.low, .int .i64 p.high] 24)) W → Calls Try.prog 15 #[(.agg #[.int .i64 p.kind, .slice a m cap, .int .i64 p.low, .int .i64 p.high]), .int .i64 seed, .int .i64 (k : Int)] W fun e w' => e = .returned (.tuple #[.slice none 0 0, .int .i64 2]) ∧ Ext W w') := fun W hW => gen_bad2 S p _ W (HNW.out W hW) (by have := HM.out; omega) seed (k : Int) hV (by rw [hs]; first | (simp; done) | (simp; omega) | (intro h; omega))
    refine (HRD.out _).mono ?_
    rintro e w5 ⟨rfl, h5⟩
    have HE5 := Lib.hid (HE4.out.ext h5)
    clear h5 HRD
    obtain ⟨c0, c1, c2, c3⟩ := HC.out _ HE5.out
    go_wp2_with fail
    refine (HSD.out _).mono ?_
    rintro e w6 ⟨rfl, rfl⟩
    go_wp2_with fail
    refine (HGE.out _ HE5.out).mono ?_
    rintro e w7 ⟨rfl, h7⟩
    have HE7 := Lib.hid (HE5.out.ext h7)
    clear h7
    clear c0 c1 c2 c3
    obtain ⟨c0, c1, c2, c3⟩ := HC.out _ HE7.out
    go_wp2_with fail
    refine (HRV.out _ HE7.out).mono ?_
    rintro e w8 ⟨rfl, h8⟩
    have HE8 := Lib.hid (HE7.out.ext h8)
    have HX8 := Lib.hid h8
    clear h8 c0 c1 c2 c3
    go_wp2_with fail
    refine (HSD.out _).mono ?_
    rintro e w9 ⟨rfl, rfl⟩
    go_wp2_with fail
    go_ret
    exact ⟨rfl, HU.out.ext HE8.out⟩

theorem generates_any (S : Nat → Prop) (p : Prof) (wv : Value) (w : World) (h : NumR S w wv p.ws) (seed n : Int) : Calls Try.prog 3 #[.agg #[.int .i64 p.kind, wv, .int .i64 p.low, .int .i64 p.high], .int .i64 seed, .int .i64 n] w fun e w' => e = .returned (.bool true) ∧ Ext w w' := by
  by_cases hl : p.ws.length ≤ 20
  · cases hV : validP p <;> cases hs : seedB seed
    · exact gen_nn S p wv w h seed n hl hV hs
    · exact gen_ns S p wv w h seed n hl hV hs
    · exact gen_vn S p wv w h seed n hl hV hs
    · exact gen_vs S p wv w h seed n hl hV hs
  · exact gen_long S p wv w h seed n (by omega)

end Go.Proofs.Ythpekfpeoglbgaa
