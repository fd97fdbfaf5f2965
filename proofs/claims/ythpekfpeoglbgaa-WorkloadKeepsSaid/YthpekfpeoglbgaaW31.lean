/- WorkloadKeeps. -/
import Derived.Test.YthpekfpeoglbgaaW36
import Derived.Test.YthpekfpeoglbgaaW28
import Derived.Test.YthpekfpeoglbgaaW24
import Derived.Test.YthpekfpeoglbgaaW29
import Derived.Deep.RegionHeld3
namespace Go.Proofs.Ythpekfpeoglbgaa
open Go.RowKit Go.Hw
set_option linter.unusedVariables false
set_option linter.unusedSimpArgs false

set_option maxRecDepth 100000 in
set_option maxHeartbeats 4000000 in
theorem keeps_long (S : Nat → Prop) (p : Prof) (wv : Value) (w : World) (h : NumR S w wv p.ws) (seed n cut : Int) (hl : 20 < p.ws.length) : Calls Try.prog 7 #[.agg #[.int .i64 p.kind, wv, .int .i64 p.low, .int .i64 p.high], .int .i64 seed, .int .i64 n, .int .u8 cut] w fun e w' => e = .returned (.bool true) ∧ Ext w w' := by
  obtain ⟨a, cap, hv⟩ := h.shape
  subst hv
  have HN := Lib.hid h
  clear h
  generalize hm : p.ws.length = m at *
  have HM := Lib.hid hm
  clear hm
  have HAW := Lib.hid (fun W : World => awake_any W)
  have HU : Hid (Ext w (w.alloc (.cells #[.int .i64 p.kind, .slice a m cap, .int .i64 p.low, .int .i64 p.high] 24))) := (Upd.refl _ w).alloc _
  have HSH := Lib.hid (fun W : World => short_any p a m cap W)
  have HC : Hid (∀ W, Ext (w.alloc (.cells #[.int .i64 p.kind, .slice a m cap, .int .i64 p.low, .int .i64 p.high] 24)) W → W.cell? ⟨w.heap.size, 0, none⟩ = some (.int .i64 p.kind) ∧ W.cell? ⟨w.heap.size, 1, none⟩ = some (.slice a m cap) ∧ W.cell? ⟨w.heap.size, 2, none⟩ = some (.int .i64 p.low) ∧ W.cell? ⟨w.heap.size, 3, none⟩ = some (.int .i64 p.high)) := fun W hW => by
    have hb := hW.heap (alloc0 w (.cells #[.int .i64 p.kind, .slice a m cap, .int .i64 p.low, .int .i64 p.high] 24)) (fun h => h)
    exact ⟨cellRow hb 0 _ rfl, cellRow hb 1 _ rfl, cellRow hb 2 _ rfl, cellRow hb 3 _ rfl⟩
  have HNW : Hid (∀ W, Ext (w.alloc (.cells #[.int .i64 p.kind, .slice a m cap, .int .i64 p.low, .int .i64 p.high] 24)) W → NumR S W (.slice a m cap) p.ws) := fun W hW => HN.out.kept (HU.out.ext hW) (fun _ _ h => h)
  have t0 : decide ((m : Int) ≤ 20) = false := by simp; omega
  rw [t0] at HSH
  go_enter Try.func7, Try.ntmps7
  go_wp2_with fail
  refine (HAW.out _).mono ?_
  rintro e w2 ⟨rfl, h2⟩
  have HE2 := Lib.hid h2
  clear h2
  obtain ⟨c0, c1, c2, c3⟩ := HC.out _ HE2.out
  go_wp2_with fail
  refine (HSH.out _).mono ?_
  rintro e w3 ⟨rfl, h3⟩
  have HE3 := Lib.hid (HE2.out.ext h3)
  clear h3 c0 c1 c2 c3
  go_wp2_with fail
  refine (HAW.out _).mono ?_
  rintro e w9 ⟨rfl, h9⟩
  have HE9 := Lib.hid (HE3.out.ext h9)
  clear h9
  go_wp2_with fail
  go_ret
  exact ⟨rfl, HU.out.ext HE9.out⟩

set_option maxRecDepth 100000 in
set_option maxHeartbeats 4000000 in
theorem keeps_n1 (S : Nat → Prop) (p : Prof) (wv : Value) (w : World) (h : NumR S w wv p.ws) (seed n cut : Int) (hl : p.ws.length ≤ 20) (hn : n < 0) : Calls Try.prog 7 #[.agg #[.int .i64 p.kind, wv, .int .i64 p.low, .int .i64 p.high], .int .i64 seed, .int .i64 n, .int .u8 cut] w fun e w' => e = .returned (.bool true) ∧ Ext w w' := by
  obtain ⟨a, cap, hv⟩ := h.shape
  subst hv
  have HN := Lib.hid h
  clear h
  generalize hm : p.ws.length = m at *
  have HM := Lib.hid hm
  clear hm
  have HAW := Lib.hid (fun W : World => awake_any W)
  have HU : Hid (Ext w (w.alloc (.cells #[.int .i64 p.kind, .slice a m cap, .int .i64 p.low, .int .i64 p.high] 24))) := (Upd.refl _ w).alloc _
  have HSH := Lib.hid (fun W : World => short_any p a m cap W)
  have HC : Hid (∀ W, Ext (w.alloc (.cells #[.int .i64 p.kind, .slice a m cap, .int .i64 p.low, .int .i64 p.high] 24)) W → W.cell? ⟨w.heap.size, 0, none⟩ = some (.int .i64 p.kind) ∧ W.cell? ⟨w.heap.size, 1, none⟩ = some (.slice a m cap) ∧ W.cell? ⟨w.heap.size, 2, none⟩ = some (.int .i64 p.low) ∧ W.cell? ⟨w.heap.size, 3, none⟩ = some (.int .i64 p.high)) := fun W hW => by
    have hb := hW.heap (alloc0 w (.cells #[.int .i64 p.kind, .slice a m cap, .int .i64 p.low, .int .i64 p.high] 24)) (fun h => h)
    exact ⟨cellRow hb 0 _ rfl, cellRow hb 1 _ rfl, cellRow hb 2 _ rfl, cellRow hb 3 _ rfl⟩
  have HNW : Hid (∀ W, Ext (w.alloc (.cells #[.int .i64 p.kind, .slice a m cap, .int .i64 p.low, .int .i64 p.high] 24)) W → NumR S W (.slice a m cap) p.ws) := fun W hW => HN.out.kept (HU.out.ext hW) (fun _ _ h => h)
  have t0 : decide ((m : Int) ≤ 20) = true := by simp; omega
  rw [t0] at HSH
  have q1 : decide (n < 0) = true := by simp; omega
  go_enter Try.func7, Try.ntmps7
  go_wp2_with fail
  refine (HAW.out _).mono ?_
  rintro e w2 ⟨rfl, h2⟩
  have HE2 := Lib.hid h2
  clear h2
  obtain ⟨c0, c1, c2, c3⟩ := HC.out _ HE2.out
  go_wp2_with fail
  refine (HSH.out _).mono ?_
  rintro e w3 ⟨rfl, h3⟩
  have HE3 := Lib.hid (HE2.out.ext h3)
  clear h3 c0 c1 c2 c3
  go_wp2_with fail
  refine (HAW.out _).mono ?_
  rintro e w9 ⟨rfl, h9⟩
  have HE9 := Lib.hid (HE3.out.ext h9)
  clear h9
  go_wp2_with fail
  go_ret
  exact ⟨rfl, HU.out.ext HE9.out⟩

set_option maxRecDepth 100000 in
set_option maxHeartbeats 4000000 in
theorem keeps_n2 (S : Nat → Prop) (p : Prof) (wv : Value) (w : World) (h : NumR S w wv p.ws) (seed n cut : Int) (hl : p.ws.length ≤ 20) (hn : 60 < n) : Calls Try.prog 7 #[.agg #[.int .i64 p.kind, wv, .int .i64 p.low, .int .i64 p.high], .int .i64 seed, .int .i64 n, .int .u8 cut] w fun e w' => e = .returned (.bool true) ∧ Ext w w' := by
  obtain ⟨a, cap, hv⟩ := h.shape
  subst hv
  have HN := Lib.hid h
  clear h
  generalize hm : p.ws.length = m at *
  have HM := Lib.hid hm
  clear hm
  have HAW := Lib.hid (fun W : World => awake_any W)
  have HU : Hid (Ext w (w.alloc (.cells #[.int .i64 p.kind, .slice a m cap, .int .i64 p.low, .int .i64 p.high] 24))) := (Upd.refl _ w).alloc _
  have HSH := Lib.hid (fun W : World => short_any p a m cap W)
  have HC : Hid (∀ W, Ext (w.alloc (.cells #[.int .i64 p.kind, .slice a m cap, .int .i64 p.low, .int .i64 p.high] 24)) W → W.cell? ⟨w.heap.size, 0, none⟩ = some (.int .i64 p.kind) ∧ W.cell? ⟨w.heap.size, 1, none⟩ = some (.slice a m cap) ∧ W.cell? ⟨w.heap.size, 2, none⟩ = some (.int .i64 p.low) ∧ W.cell? ⟨w.heap.size, 3, none⟩ = some (.int .i64 p.high)) := fun W hW => by
    have hb := hW.heap (alloc0 w (.cells #[.int .i64 p.kind, .slice a m cap, .int .i64 p.low, .int .i64 p.high] 24)) (fun h => h)
    exact ⟨cellRow hb 0 _ rfl, cellRow hb 1 _ rfl, cellRow hb 2 _ rfl, cellRow hb 3 _ rfl⟩
  have HNW : Hid (∀ W, Ext (w.alloc (.cells #[.int .i64 p.kind, .slice a m cap, .int .i64 p.low, .int .i64 p.high] 24)) W → NumR S W (.slice a m cap) p.ws) := fun W hW => HN.out.kept (HU.out.ext hW) (fun _ _ h => h)
  have t0 : decide ((m : Int) ≤ 20) = true := by simp; omega
  rw [t0] at HSH
  have q1 : decide (n < 0) = false := by simp; omega
  have q2 : decide (60 < n) = true := by simp; omega
  go_enter Try.func7, Try.ntmps7
  go_wp2_with fail
  refine (HAW.out _).mono ?_
  rintro e w2 ⟨rfl, h2⟩
  have HE2 := Lib.hid h2
  clear h2
  obtain ⟨c0, c1, c2, c3⟩ := HC.out _ HE2.out
  go_wp2_with fail
  refine (HSH.out _).mono ?_
  rintro e w3 ⟨rfl, h3⟩
  have HE3 := Lib.hid (HE2.out.ext h3)
  clear h3 c0 c1 c2 c3
  go_wp2_with fail
  refine (HAW.out _).mono ?_
  rintro e w9 ⟨rfl, h9⟩
  have HE9 := Lib.hid (HE3.out.ext h9)
  clear h9
  go_wp2_with fail
  go_ret
  exact ⟨rfl, HU.out.ext HE9.out⟩

set_option maxRecDepth 100000 in
set_option maxHeartbeats 4000000 in
theorem keeps_bad1 (S : Nat → Prop) (p : Prof) (wv : Value) (w : World) (h : NumR S w wv p.ws) (seed n cut : Int) (hl : p.ws.length ≤ 20) (hn : 0 ≤ n) (hn2 : n ≤ 60) (hV : validP p = false) : Calls Try.prog 7 #[.agg #[.int .i64 p.kind, wv, .int .i64 p.low, .int .i64 p.high], .int .i64 seed, .int .i64 n, .int .u8 cut] w fun e w' => e = .returned (.bool true) ∧ Ext w w' := by
  obtain ⟨a, cap, hv⟩ := h.shape
  subst hv
  have HN := Lib.hid h
  clear h
  generalize hm : p.ws.length = m at *
  have HM := Lib.hid hm
  clear hm
  have HAW := Lib.hid (fun W : World => awake_any W)
  have HU : Hid (Ext w (w.alloc (.cells #[.int .i64 p.kind, .slice a m cap, .int .i64 p.low, .int .i64 p.high] 24))) := (Upd.refl _ w).alloc _
  have HSH := Lib.hid (fun W : World => short_any p a m cap W)
  have HC : Hid (∀ W, Ext (w.alloc (.cells #[.int .i64 p.kind, .slice a m cap, .int .i64 p.low, .int .i64 p.high] 24)) W → W.cell? ⟨w.heap.size, 0, none⟩ = some (.int .i64 p.kind) ∧ W.cell? ⟨w.heap.size, 1, none⟩ = some (.slice a m cap) ∧ W.cell? ⟨w.heap.size, 2, none⟩ = some (.int .i64 p.low) ∧ W.cell? ⟨w.heap.size, 3, none⟩ = some (.int .i64 p.high)) := fun W hW => by
    have hb := hW.heap (alloc0 w (.cells #[.int .i64 p.kind, .slice a m cap, .int .i64 p.low, .int .i64 p.high] 24)) (fun h => h)
    exact ⟨cellRow hb 0 _ rfl, cellRow hb 1 _ rfl, cellRow hb 2 _ rfl, cellRow hb 3 _ rfl⟩
  have HNW : Hid (∀ W, Ext (w.alloc (.cells #[.int .i64 p.kind, .slice a m cap, .int .i64 p.low, .int .i64 p.high] 24)) W → NumR S W (.slice a m cap) p.ws) := fun W hW => HN.out.kept (HU.out.ext hW) (fun _ _ h => h)
  have t0 : decide ((m : Int) ≤ 20) = true := by simp; omega
  rw [t0] at HSH
  have q1 : decide (n < 0) = false := by simp; omega
  have q2 : decide (60 < n) = false := by simp; omega
  have HGE : Hid (∀ W, Ext (w.alloc (.cells #[.int .i64 p.kind, .slice a m cap, .int .i64 p.low, .int .i64 p.high] 24)) W → Calls Try.prog 15 #[(.agg #[.int .i64 p.kind, .slice a m cap, .int .i64 p.low, .int .i64 p.high]), .int .i64 seed, .int .i64 n] W fun e w' => e = .returned (.tuple #[.slice none 0 0, .int .i64 1]) ∧ Ext W w') := fun W hW => gen_bad1 S p _ W (HNW.out W hW) (by have := HM.out; omega) seed n hV
  have HPV : Hid (∀ W, Ext (w.alloc (.cells #[.int .i64 p.kind, .slice a m cap, .int .i64 p.low, .int .i64 p.high] 24)) W → Calls Try.prog 10 #[(.agg #[.int .i64 p.kind, .slice a m cap, .int .i64 p.low, .int .i64 p.high])] W fun e w' => e = .returned (.bool false) ∧ Ext W w') := fun W hW => by
    have := vp_any S p _ W (HNW.out W hW) (by have := HM.out; omega)
    rw [hV] at this; exact this
  go_enter Try.func7, Try.ntmps7
  go_wp2_with fail
  refine (HAW.out _).mono ?_
  rintro e w2 ⟨rfl, h2⟩
  have HE2 := Lib.hid h2
  clear h2
  obtain ⟨c0, c1, c2, c3⟩ := HC.out _ HE2.out
  go_wp2_with fail
  refine (HSH.out _).mono ?_
  rintro e w3 ⟨rfl, h3⟩
  have HE3 := Lib.hid (HE2.out.ext h3)
  clear h3 c0 c1 c2 c3
  obtain ⟨c0, c1, c2, c3⟩ := HC.out _ HE3.out
  go_wp2_with fail
  refine (HGE.out _ HE3.out).mono ?_
  rintro e w4 ⟨rfl, h4⟩
  have HE4 := Lib.hid (HE3.out.ext h4)
  clear h4 c0 c1 c2 c3
  obtain ⟨c0, c1, c2, c3⟩ := HC.out _ HE4.out
  go_wp2_with fail
  refine (HPV.out _ HE4.out).mono ?_
  rintro e w5 ⟨rfl, h5⟩
  have HE5 := Lib.hid (HE4.out.ext h5)
  clear h5
  go_wp2_with fail
  go_ret
  exact ⟨rfl, HU.out.ext HE5.out⟩
set_option maxRecDepth 100000 in
set_option maxHeartbeats 4000000 in
theorem keeps_bad2 (S : Nat → Prop) (p : Prof) (wv : Value) (w : World) (h : NumR S w wv p.ws) (seed n cut : Int) (hl : p.ws.length ≤ 20) (hn : 0 ≤ n) (hn2 : n ≤ 60) (hV : validP p = true) (hs : seedB seed = false) : Calls Try.prog 7 #[.agg #[.int .i64 p.kind, wv, .int .i64 p.low, .int .i64 p.high], .int .i64 seed, .int .i64 n, .int .u8 cut] w fun e w' => e = .returned (.bool true) ∧ Ext w w' := by
  obtain ⟨a, cap, hv⟩ := h.shape
  subst hv
  have HN := Lib.hid h
  clear h
  generalize hm : p.ws.length = m at *
  have HM := Lib.hid hm
  clear hm
  have HAW := Lib.hid (fun W : World => awake_any W)
  have HU : Hid (Ext w (w.alloc (.cells #[.int .i64 p.kind, .slice a m cap, .int .i64 p.low, .int .i64 p.high] 24))) := (Upd.refl _ w).alloc _
  have HSH := Lib.hid (fun W : World => short_any p a m cap W)
  have HC : Hid (∀ W, Ext (w.alloc (.cells #[.int .i64 p.kind, .slice a m cap, .int .i64 p.low, .int .i64 p.high] 24)) W → W.cell? ⟨w.heap.size, 0, none⟩ = some (.int .i64 p.kind) ∧ W.cell? ⟨w.heap.size, 1, none⟩ = some (.slice a m cap) ∧ W.cell? ⟨w.heap.size, 2, none⟩ = some (.int .i64 p.low) ∧ W.cell? ⟨w.heap.size, 3, none⟩ = some (.int .i64 p.high)) := fun W hW => by
    have hb := hW.heap (alloc0 w (.cells #[.int .i64 p.kind, .slice a m cap, .int .i64 p.low, .int .i64 p.high] 24)) (fun h => h)
    exact ⟨cellRow hb 0 _ rfl, cellRow hb 1 _ rfl, cellRow hb 2 _ rfl, cellRow hb 3 _ rfl⟩
  have HNW : Hid (∀ W, Ext (w.alloc (.cells #[.int .i64 p.kind, .slice a m cap, .int .i64 p.low, .int .i64 p.high] 24)) W → NumR S W (.slice a m cap) p.ws) := fun W hW => HN.out.kept (HU.out.ext hW) (fun _ _ h => h)
  have t0 : decide ((m : Int) ≤ 20) = true := by simp; omega
  rw [t0] at HSH
  have q1 : decide (n < 0) = false := by simp; omega
  have q2 : decide (60 < n) = false := by simp; omega
  have HGE : Hid (∀ W, Ext (w.alloc (.cells #[.int .i64 p.kind, .slice a m cap, .int .i64 p.low, .int .i64 p.high] 24)) W → Calls Try.prog 15 #[(.agg #[.int .i64 p.kind, .slice a m cap, .int .i64 p.low, .int .i64 p.high]), .int .i64 seed, .int .i64 n] W fun e w' => e = .returned (.tuple #[.slice none 0 0, .int .i64 2]) ∧ Ext W w') := fun W hW => gen_bad2 S p _ W (HNW.out W hW) (by have := HM.out; omega) seed n hV (by rw [hs]; simp)
  go_enter Try.func7, Try.ntmps7
  go_wp2_with fail
  refine (HAW.out _).mono ?_
  rintro e w2 ⟨rfl, h2⟩
  have HE2 := Lib.hid h2
  clear h2
  obtain ⟨c0, c1, c2, c3⟩ := HC.out _ HE2.out
  go_wp2_with fail
  refine (HSH.out _).mono ?_
  rintro e w3 ⟨rfl, h3⟩
  have HE3 := Lib.hid (HE2.out.ext h3)
  clear h3 c0 c1 c2 c3
  obtain ⟨c0, c1, c2, c3⟩ := HC.out _ HE3.out
  go_wp2_with fail
  refine (HGE.out _ HE3.out).mono ?_
  rintro e w4 ⟨rfl, h4⟩
  have HE4 := Lib.hid (HE3.out.ext h4)
  clear h4 c0 c1 c2 c3
  go_wp2_with fail
  go_ret
  exact ⟨rfl, HU.out.ext HE4.out⟩
set_option maxRecDepth 100000 in
set_option maxHeartbeats 4000000 in
theorem keeps_ok (S : Nat → Prop) (p : Prof) (wv : Value) (w : World) (h : NumR S w wv p.ws) (seed n cut : Int) (hl : p.ws.length ≤ 20) (hn : 0 ≤ n) (hn2 : n ≤ 60) (hc1 : 0 ≤ cut) (hc2 : cut ≤ 255) (hV : validP p = true) (hs : seedB seed = true) : Calls Try.prog 7 #[.agg #[.int .i64 p.kind, wv, .int .i64 p.low, .int .i64 p.high], .int .i64 seed, .int .i64 n, .int .u8 cut] w fun e w' => e = .returned (.bool true) ∧ Ext w w' := by
  obtain ⟨a, cap, hv⟩ := h.shape
  subst hv
  have HN := Lib.hid h
  clear h
  generalize hm : p.ws.length = m at *
  have HM := Lib.hid hm
  clear hm
  have HAW := Lib.hid (fun W : World => awake_any W)
  have HU : Hid (Ext w (w.alloc (.cells #[.int .i64 p.kind, .slice a m cap, .int .i64 p.low, .int .i64 p.high] 24))) := (Upd.refl _ w).alloc _
  have HSH := Lib.hid (fun W : World => short_any p a m cap W)
  have HC : Hid (∀ W, Ext (w.alloc (.cells #[.int .i64 p.kind, .slice a m cap, .int .i64 p.low, .int .i64 p.high] 24)) W → W.cell? ⟨w.heap.size, 0, none⟩ = some (.int .i64 p.kind) ∧ W.cell? ⟨w.heap.size, 1, none⟩ = some (.slice a m cap) ∧ W.cell? ⟨w.heap.size, 2, none⟩ = some (.int .i64 p.low) ∧ W.cell? ⟨w.heap.size, 3, none⟩ = some (.int .i64 p.high)) := fun W hW => by
    have hb := hW.heap (alloc0 w (.cells #[.int .i64 p.kind, .slice a m cap, .int .i64 p.low, .int .i64 p.high] 24)) (fun h => h)
    exact ⟨cellRow hb 0 _ rfl, cellRow hb 1 _ rfl, cellRow hb 2 _ rfl, cellRow hb 3 _ rfl⟩
  have HNW : Hid (∀ W, Ext (w.alloc (.cells #[.int .i64 p.kind, .slice a m cap, .int .i64 p.low, .int .i64 p.high] 24)) W → NumR S W (.slice a m cap) p.ws) := fun W hW => HN.out.kept (HU.out.ext hW) (fun _ _ h => h)
  have t0 : decide ((m : Int) ≤ 20) = true := by simp; omega
  rw [t0] at HSH
  have hvp := (validP_iff p).1 hV
  have hmpos : 0 < p.ws.length := by
    obtain ⟨x, hx, _⟩ := hvp.some
    exact List.length_pos_of_mem hx
  obtain ⟨wg, wo, wc', hwv, _, _, _⟩ := HN.out.pos hmpos
  rw [HM.out] at hwv
  injection hwv with f1 f2 f3
  subst f1; subst f3
  clear hmpos f2
  obtain ⟨k, rfl⟩ : ∃ k : Nat, n = k := ⟨n.toNat, by omega⟩
  obtain ⟨c, rfl⟩ : ∃ c : Nat, cut = c := ⟨cut.toNat, by omega⟩
  have q1 : decide ((k : Int) < 0) = false := by simp
  have q2 : decide (60 < (k : Int)) = false := by simp; omega
  obtain ⟨mm, hmm⟩ : ∃ mm : Nat, mm = c % (k + 1) := ⟨_, rfl⟩
  have hmk : mm ≤ k := by have := Nat.mod_lt c (show 0 < k + 1 by omega); omega
  have r1 : (c : Int) % ((k : Int) + 1) = (mm : Int) := by rw [hmm]; simp
  have r2 : Int.tmod (c : Int) ((k : Int) + 1) = (mm : Int) := by rw [Int.tmod_eq_emod_of_nonneg (by omega)]; exact r1
  have HGE : Hid (∀ W, Ext (w.alloc (.cells #[.int .i64 p.kind, .slice (some ⟨wg, wo, none⟩) m cap, .int .i64 p.low, .int .i64 p.high] 24)) W → ∀ k' : Nat, k' ≤ 60 → Calls Try.prog 15 #[(.agg #[.int .i64 p.kind, .slice (some ⟨wg, wo, none⟩) m cap, .int .i64 p.low, .int .i64 p.high]), .int .i64 seed, .int .i64 (k' : Int)] W fun e w' => ∃ v L, e = .returned (.tuple #[v, .int .i64 0]) ∧ OpsR (fun k => k < w'.heap.size) w' v L ∧ opsL L = gens p seed k' ∧ Ext W w') := fun W hW k' hk' => gen_ok S p _ W (HNW.out W hW) (by have := HM.out; omega) seed k' hV hs (by omega)
  have HLEN : Hid (∀ (k' : Nat) (L : List OpV), k' ≤ 60 → opsL L = gens p seed k' → L.length = k' ∧ ∀ o ∈ L, o.op.args.length ≤ 64) := fun k' L hk' hL => by
    refine ⟨?_, fun o ho => ?_⟩
    · have := congrArg List.length hL
      rw [opsL_length, gens_length] at this; omega
    · refine validOp_len (((validL_iff _ _).1 (gens_valid p seed k' hvp (by omega))).2.2 _ ?_)
      rw [← hL]; exact List.mem_map_of_mem ho
  have HVL := Lib.hid (gens_valid p seed k hvp (by omega))
  have HTK := Lib.hid (gens_take p seed mm k hmk)
  have HOP : Hid (∀ o ∈ gens p seed k, 1 ≤ o.code ∧ o.code ≤ (p.ws.length : Int) ∧ 0 < p.ws.getD (o.code - 1).toNat 0 ∧ ∀ x ∈ o.args, p.low ≤ x ∧ x ≤ p.high) := fun o ho => by
    unfold gens at ho
    obtain ⟨i, _, rfl⟩ := List.mem_map.1 ho
    have h1 := gCode_bd p seed (gPos p seed i) hvp
    have h2 := gPick p seed (gPos p seed i) hvp
    refine ⟨h1.1, by rw [hvp.len]; exact h1.2, ?_, gArgs_bd p seed _ _ hvp⟩
    have e : ((gOp p seed (gPos p seed i)).code - 1).toNat = pick p.ws (sq seed (gPos p seed i) % p.ws.sum) := by
      show (gCode p seed _ - 1).toNat = _
      unfold gCode; omega
    rw [e]; exact h2.2
  have HMV : Hid (0 < k → VP (meas p.kind (gens p seed k))) := fun h0 => meas_valid HVL.out (fun e => by have := congrArg List.length e; rw [gens_length] at this; simp at this; omega)
  have HMS := Lib.hid (meas_span seed k hvp)
  have HWB := Lib.hid hvp.ws
  have hgl : (gens p seed k).length = k := gens_length p seed k
  have HGL := Lib.hid hgl
  clear hmm hV hs hvp hgl
  go_enter Try.func7, Try.ntmps7
  go_wp2_with fail
  refine (HAW.out _).mono ?_
  rintro e w2 ⟨rfl, h2⟩
  have HE2 := Lib.hid h2
  clear h2
  obtain ⟨c0, c1, c2, c3⟩ := HC.out _ HE2.out
  go_wp2_with fail
  refine (HSH.out _).mono ?_
  rintro e w3 ⟨rfl, h3⟩
  have HE3 := Lib.hid (HE2.out.ext h3)
  clear h3 c0 c1 c2 c3
  obtain ⟨c0, c1, c2, c3⟩ := HC.out _ HE3.out
  go_wp2_with fail
  refine (HGE.out _ HE3.out k (by omega)).mono ?_
  rintro e w4 ⟨v4, L4, rfl, l1, l2, h4⟩
  obtain ⟨hln, hla⟩ := HLEN.out k L4 (by omega) l2
  obtain ⟨oa, oc, hov⟩ := l1.shape
  subst hov
  have HL1 := Lib.hid l1
  have HL2 := Lib.hid l2
  have HLA := Lib.hid hla
  have HLN := Lib.hid hln
  have hcap := l1.row.le_cap rfl
  rw [hln] at hcap ⊢
  have HE4 := Lib.hid (HE3.out.ext h4)
  clear h4 l1 l2 hla c0 c1 c2 c3
  rw [hln] at HL1
  obtain ⟨c0, c1, c2, c3⟩ := HC.out _ HE4.out
  have C0 := Lib.hid c0
  have C1 := Lib.hid c1
  have C2 := Lib.hid c2
  have C3 := Lib.hid c3
  have HGM : Hid (∀ W, Ext w4 W → Calls Try.prog 15 #[(.agg #[.int .i64 p.kind, .slice (some ⟨wg, wo, none⟩) m cap, .int .i64 p.low, .int .i64 p.high]), .int .i64 seed, .int .i64 (mm : Int)] W fun e w' => ∃ v L, e = .returned (.tuple #[v, .int .i64 0]) ∧ OpsR (fun k => k < w'.heap.size) w' v L ∧ opsL L = gens p seed mm ∧ Ext W w') := fun W hW => HGE.out W (HE4.out.ext hW) mm (by omega)
  clear hln
  have hrf : Ext w4 w4.drew := (Upd.refl _ _).drew
  have q3 : (0 : Int) ≤ (k : Int) + 1 := by omega
  have q4 : ((k : Int) + 1 == 0) = false := beq_eq_false_iff_ne.2 (by omega)
  have q5 : ¬ ((k : Int) + 1 = 0) := by omega
  have q6 : IntKind.i64.wrap ((k : Int) + 1) = (k : Int) + 1 := IntWalk.i64_in _ (by omega)
  have q7 : IntKind.i64.wrap (c : Int) = (c : Int) := IntWalk.i64_in _ (by omega)
  have q8 : IntKind.i64.wrap (mm : Int) = (mm : Int) := IntWalk.i64_in _ (by omega)
  go_wp2_with fail
  go_region_held3 (fun w' => w'.cell? ⟨w.heap.size, 0, none⟩ = some (.int .i64 p.kind) ∧ w'.cell? ⟨w.heap.size, 1, none⟩ = some (.slice (some ⟨wg, wo, none⟩) m cap) ∧ w'.cell? ⟨w.heap.size, 2, none⟩ = some (.int .i64 p.low) ∧ w'.cell? ⟨w.heap.size, 3, none⟩ = some (.int .i64 p.high))
    (first | go_keep | (exact ⟨Upd.cell (F := fun _ => False) (by assumption) C0.out (fun h => h), Upd.cell (F := fun _ => False) (by assumption) C1.out (fun h => h), Upd.cell (F := fun _ => False) (by assumption) C2.out (fun h => h), Upd.cell (F := fun _ => False) (by assumption) C3.out (fun h => h)⟩))
    ((go_at_call 15; refine (HGM.out _ ?_).mono ?_; · assumption
      rintro e w5 ⟨v5, L5, rfl, l1, l2, hx5⟩; have hy5 : Ext w4 w5 := Upd.ext (by assumption) hx5; have HK1 := Lib.hid l1; have HK2 := Lib.hid l2; clear hx5 l1 l2))
  obtain ⟨hlm5, hla5⟩ := HLEN.out mm L5 (by omega) HK2.out
  obtain ⟨ma, mc, hmv⟩ := HK1.out.shape
  rw [hlm5] at hmv
  subst hmv
  have HLA5 := Lib.hid hla5
  have HLM5 := Lib.hid hlm5
  clear hla5 hlm5
  have HE5 := Lib.hid (HE4.out.ext hy5)
  have HY5 := Lib.hid hy5
  clear hy5 hrf c0 c1 c2 c3 HGM C0 C1 C2 C3
  obtain ⟨sv, hsv⟩ : ∃ sv, sv = sliced oa 0 mm oc 2 := ⟨_, rfl⟩
  have HSO : Hid (Calls Try.prog 16 #[.slice ma mm mc, sv] w5 fun e w' => e = .returned (.bool true) ∧ Ext w5 w') := by
    have hp := (HL1.out.kept HY5.out (fun _ _ h => h)).part (i := 0) (j := mm) (Nat.zero_le _) (by rw [HLN.out]; exact hmk)
    have he : opsL ((L4.take mm).drop 0) = opsL L5 := by
      rw [List.drop_zero, HK2.out, ← HTK.out, ← HL2.out]; simp [opsL, List.map_take]
    have := sameops_any _ _ _ _ L5 ((L4.take mm).drop 0) w5 HK1.out hp (by rw [HLM5.out]; omega) (by rw [List.drop_zero, List.length_take]; omega) (fun o ho => by have := HLA5.out o ho; omega) (fun o ho => by have := HLA.out o (List.mem_of_mem_take (List.mem_of_mem_drop ho)); omega)
    rw [hsv]
    rw [show decide (opsL L5 = opsL ((L4.take mm).drop 0)) = true by rw [he]; simp] at this
    exact this
  have HSV := Lib.hid hsv
  clear hsv
  have q9 : decide ((k : Int) < (mm : Int)) = false := decide_eq_false (by omega)
  have q9n : decide (k < mm) = false := decide_eq_false (by omega)
  have q10 : ((k : Int) != (k : Int)) = false := by simp
  have q11 : ((mm : Int) != (mm : Int)) = false := by simp
  go_wp2_with (with_reducible (refine stop_at (o := ⟨some 87, _, _, _, _, _⟩) ?_))
  refine Stop.go ?_
  refine wpList_slice_h (by go_simp) 32 (.tmp 84) (.tmp 86) rfl 2 elem32 size32 oa k oc rfl .i64 mm rfl (by omega) ?_
  rw [← HSV.out]
  go_wp2_with fail
  refine HSO.out.mono ?_
  rintro e w6 ⟨rfl, h6⟩
  have HE6 := Lib.hid (HE5.out.ext h6)
  have HY6 := Lib.hid (HY5.out.ext h6)
  clear h6 HSO HK1 HK2
  obtain ⟨c0, c1, c2, c3⟩ := HC.out _ HE6.out
  have HVC : Hid (Calls Try.prog 26 #[.int .i64 p.kind, .slice oa k oc] w6 fun e w' => e = .returned (.bool true) ∧ Ext w6 w') := by
    have := valid_any p.kind _ L4 w6 _ (HL1.out.kept HY6.out (fun _ _ h => h)) (by rw [HLN.out]; omega) (fun o ho => by have := HLA.out o ho; omega)
    rw [HL2.out, HVL.out] at this
    exact this
  go_wp2_with fail
  refine HVC.out.mono ?_
  rintro e w7 ⟨rfl, h7⟩
  have HE7 := Lib.hid (HE6.out.ext h7)
  have HY7 := Lib.hid (HY6.out.ext h7)
  clear h7 HVC c0 c1 c2 c3
  go_wp2_with fail
  go_loopg [14, 110] k (fun gk s14 iv wr => ∃ i : Nat, iv = .int .i64 i ∧ gk = k - i ∧ i ≤ k ∧ Hid (Ext w7 wr))
  case atStart => exact ⟨0, rfl, rfl, Nat.zero_le _, Upd.refl _ _⟩
  case round =>
    obtain ⟨i, rfl, rfl, hi, HX⟩ := hrel
    have HEr := Lib.hid (HE7.out.ext HX.out)
    by_cases hlt : i < k
    · have hlx : i < L4.length := by rw [HLN.out]; exact hlt
      obtain ⟨g, off, cap', hv, hcc, hg, c0, c1, _⟩ := ((HL1.out.kept HY7.out (fun _ _ h => h)).kept HX.out (fun _ _ h => h)).at hlx
      injection hv with e1 e2 e3
      subst e1; subst e3
      have hmem : (L4.getD i .zero).op ∈ gens p seed k := by rw [← HL2.out]; exact List.mem_map_of_mem (getD_mem hlx)
      obtain ⟨o1, o2, o3, o4⟩ := HOP.out _ hmem
      have hal := HLA.out _ (getD_mem hlx)
      obtain ⟨cv, hcv⟩ := Int.eq_ofNat_of_zero_le (show 0 ≤ (L4.getD i .zero).op.code - 1 by omega)
      have hcv1 : (L4.getD i .zero).op.code = (cv : Int) + 1 := by omega
      have hcv2 : ((L4.getD i .zero).op.code - 1).toNat = cv := by omega
      rw [hcv2] at o3
      rw [hcv1] at c0 o1 o2
      have hM := HM.out
      have hcK : cv < m := by omega
      have hna := ((HL1.out.arg _ (getD_mem hlx)).kept HY7.out (fun _ _ h => h)).kept HX.out (fun _ _ h => h)
      obtain ⟨aa, ac, hoa⟩ := hna.shape
      rw [hoa] at c1 hna
      have HNA := Lib.hid hna
      have HO4 := Lib.hid o4
      have y1 := (HNW.out _ HEr.out).cellAt rfl (j := cv) (by rw [hM]; omega)
      rw [nums_get _ _ (by rw [hM]; exact hcK)] at y1
      clear hcv hcv1 hcv2 hna hoa hlx hmem hg hcc e2 hM o4
      generalize (L4.getD i .zero).op.args = ARGL at *
      generalize p.ws.getD cv 0 = WT at *
      have hE8 : Ext wr (wr.alloc (.cells #[.int .i64 ((cv : Int) + 1), .slice aa ARGL.length ac] 50)) := (Upd.refl _ wr).alloc _
      have y2 := hE8.cell y1 (fun h => h)
      obtain ⟨d0, d1, d2, d3⟩ := HC.out _ (HEr.out.ext hE8)
      have hO0 := alloc0 wr (.cells #[.int .i64 0, .slice none 0 0] 50)
      have o0 := cellRow hO0 0 _ rfl
      have o1 := cellRow hO0 1 _ rfl
      have u0 := frozenRow hO0 0
      have u1 := frozenRow hO0 1
      have hO6 := alloc0 wr (.cells #[.int .i64 ((cv : Int) + 1), .slice aa ARGL.length ac] 50)
      have x0 := cellRow hO6 0 _ rfl
      have x1 := cellRow hO6 1 _ rfl
      have HCO : Hid (Calls Try.prog 27 #[.slice aa ARGL.length ac, .func (.func 28) #[] #[.pointer (some ⟨w.heap.size, 0, none⟩)]] (wr.alloc (.cells #[.int .i64 ((cv : Int) + 1), .slice aa ARGL.length ac] 50)) fun e w' => e = .returned (.bool false) ∧ Ext (wr.alloc (.cells #[.int .i64 ((cv : Int) + 1), .slice aa ARGL.length ac] 50)) w') := by
        have := con_int1 28 (.pointer (some ⟨w.heap.size, 0, none⟩)) (fun _ => false) _ _ ARGL _ (HNA.out.kept hE8 (fun _ _ h => h)) (by omega) (fun args W => by kernel_rfl) (fun x hx W hW => by
          obtain ⟨_, _, k2, k3⟩ := HC.out W (HEr.out.ext (hE8.ext hW))
          obtain ⟨b1, b2⟩ := HO4.out x hx
          refine (clo28_any x p.low p.high w.heap.size W k2 k3 b1 b2).mono ?_
          rintro e w' ⟨rfl, rfl⟩
          exact ⟨rfl, Upd.refl _ _⟩)
        rw [show (ARGL.any fun _ => false) = false by simp] at this
        exact this
      have HX8 := Lib.hid (HX.out.ext hE8)
      have s1 : decide ((cv : Int) + 1 < 1) = false := decide_eq_false (by omega)
      have s2 : decide ((m : Int) < (cv : Int) + 1) = false := decide_eq_false (by omega)
      have s3 : (WT == 0) = false := beq_eq_false_iff_ne.2 (by omega)
      have s4 : (0 : Int) ≤ (i : Int) := by omega
      have s5 : (cv : Int) < (m : Int) := by omega
      clear hO0 hO6 hE8 y1 o1 o2 o3
      go_wp2_with fail
      refine HCO.out.mono ?_
      rintro e w8 ⟨rfl, h8⟩
      have HX9 := Lib.hid (HX8.out.ext h8)
      clear h8 HCO o0 o1 u0 u1 x0 x1 d0 d1 d2 d3 y2 c0 c1
      go_wp2_with fail
      go_roundg (k - (i + 1))
      case measure => omega
      case rel => exact ⟨i + 1, by go_num, rfl, by omega, HX9.out⟩
    · obtain rfl : i = k := by omega
      obtain ⟨c0, c1, c2, c3⟩ := HC.out _ HEr.out
      have C2 := Lib.hid c2
      have C3 := Lib.hid c3
      have HLX := Lib.hid ((HL1.out.kept HY7.out (fun _ _ h => h)).kept HX.out (fun _ _ h => h))
      have HLA2 : Hid (∀ o ∈ L4, o.op.args.length ≤ 100000000) := fun o ho => by have := HLA.out o ho; omega
      by_cases hk0 : i = 0
      · subst hk0
        have HMC : Hid (Calls Try.prog 24 #[.int .i64 p.kind, .slice oa 0 oc] wr fun e w' => e = .returned (.tuple #[.agg #[.int .i64 0, .slice none 0 0, .int .i64 0, .int .i64 0], .int .i64 12]) ∧ Ext wr w') := meas_bad2 _ p.kind _ L4 wr HLX.out (by rw [HLN.out]; omega) HLA2.out (by rw [HL2.out]; exact HVL.out) HLN.out
        go_wp2_with fail
        refine HMC.out.mono ?_
        rintro e w8 ⟨rfl, h8⟩
        have HE8 := Lib.hid (HEr.out.ext h8)
        clear h8 c0 c1 c2 c3
        have hb := alloc0 w8 (.cells #[.int .i64 0, .slice none 0 0, .int .i64 0, .int .i64 0] 24)
        have o0 := cellRow hb 0 _ rfl
        have o1 := cellRow hb 1 _ rfl
        have o2 := cellRow hb 2 _ rfl
        have o3 := cellRow hb 3 _ rfl
        have f0 := frozenRow hb 0
        have f1 := frozenRow hb 1
        have f2 := frozenRow hb 2
        have f3 := frozenRow hb 3
        have HE9 := Lib.hid (HE8.out.alloc (.cells #[.int .i64 0, .slice none 0 0, .int .i64 0, .int .i64 0] 24))
        clear hb
        go_wp2_with fail
        go_ret
        exact ⟨rfl, HU.out.ext HE9.out⟩
      · have hvq := HMV.out (by omega)
        have HMC : Hid (Calls Try.prog 24 #[.int .i64 p.kind, .slice oa i oc] wr fun e w' => ∃ wv, e = .returned (.tuple #[.agg #[.int .i64 p.kind, wv, .int .i64 (minL (argsL (opsL L4))), .int .i64 (maxL (argsL (opsL L4)))], .int .i64 0]) ∧ NumR (fun k => k < w'.heap.size) w' wv (mWs p.kind (opsL L4)) ∧ Ext wr w') := by
          have := meas_ok _ p.kind _ L4 wr HLX.out (by rw [HLN.out]; omega) HLA2.out (by rw [HL2.out]; exact HVL.out) (by rw [HLN.out]; omega)
          exact this
        rw [HL2.out] at HMC
        have HVQ : Hid (∀ (W : World) (T : Nat → Prop) (wv : Value), NumR T W wv (mWs p.kind (gens p seed i)) → Calls Try.prog 10 #[.agg #[.int .i64 p.kind, wv, .int .i64 (minL (argsL (gens p seed i))), .int .i64 (maxL (argsL (gens p seed i)))]] W fun e w' => e = .returned (.bool true) ∧ Ext W w') := fun W T wv hN => by
          have := vp_any T (meas p.kind (gens p seed i)) wv W hN (by have := hvq.len; rw [this]; have := nW_le p.kind; show nW p.kind ≤ _; omega)
          rw [(validP_iff _).2 hvq] at this
          exact this
        have hms := HMS.out
        have hne : ((i : Int) == 0) = false := beq_eq_false_iff_ne.2 (by omega)
        generalize minL (argsL (gens p seed i)) = MN at *
        generalize maxL (argsL (gens p seed i)) = MX at *
        generalize mWs p.kind (gens p seed i) = WS at *
        clear hvq HMV HMS HOP HVL HTK HL1 HL2 HLX HLA HLA2 HLN HGL HLEN HGE HAW HSH HNW HN HWB
        have hcase : (decide (p.low ≤ MN) = true ∧ decide (MX ≤ p.high) = true) ∨ (decide (p.low ≤ MN) = true ∧ decide (MX ≤ p.high) = false ∧ (MN == 0) = true ∧ (MX == 0) = true) ∨ (decide (p.low ≤ MN) = false ∧ (MN == 0) = true ∧ (MX == 0) = true) := by
          by_cases a1 : p.low ≤ MN
          · by_cases a2 : MX ≤ p.high
            · exact .inl ⟨decide_eq_true a1, decide_eq_true a2⟩
            · rcases hms with h | h
              · exact absurd h.2 a2
              · exact .inr (.inl ⟨decide_eq_true a1, decide_eq_false a2, by simp [h.1], by simp [h.2]⟩)
          · rcases hms with h | h
            · exact absurd h.1 a1
            · exact .inr (.inr ⟨decide_eq_false a1, by simp [h.1], by simp [h.2]⟩)
        clear hms
        have HCS := Lib.hid hcase
        clear hcase
        go_wp2_with fail
        refine HMC.out.mono ?_
        rintro e w8 ⟨wq, rfl, hq, h8⟩
        obtain ⟨qa, qc, hqv⟩ := hq.shape
        subst hqv
        have HE8 := Lib.hid (HEr.out.ext h8)
        have HQ := Lib.hid hq
        clear h8 c0 c1 c2 c3 hq
        have hb0 := alloc0 w8 (.cells #[.int .i64 0, .slice none 0 0, .int .i64 0, .int .i64 0] 24)
        have o0 := cellRow hb0 0 _ rfl
        have o1 := cellRow hb0 1 _ rfl
        have o2 := cellRow hb0 2 _ rfl
        have o3 := cellRow hb0 3 _ rfl
        have f0 := frozenRow hb0 0
        have f1 := frozenRow hb0 1
        have f2 := frozenRow hb0 2
        have f3 := frozenRow hb0 3
        have hb := alloc0 w8 (.cells #[.int .i64 p.kind, .slice qa WS.length qc, .int .i64 MN, .int .i64 MX] 24)
        have x0 := cellRow hb 0 _ rfl
        have x1 := cellRow hb 1 _ rfl
        have x2 := cellRow hb 2 _ rfl
        have x3 := cellRow hb 3 _ rfl
        have hx9 : Ext w8 (w8.alloc (.cells #[.int .i64 p.kind, .slice qa WS.length qc, .int .i64 MN, .int .i64 MX] 24)) := (Upd.refl _ w8).alloc _
        have HE9 := Lib.hid (HE8.out.ext hx9)
        have HVC := Lib.hid (HVQ.out _ _ _ (HQ.out.kept hx9 (fun _ _ h => h)))
        have HB9 := Lib.hid hb
        clear hb hb0 hx9 HVQ
        go_wp2_with fail
        refine HVC.out.mono ?_
        rintro e w10 ⟨rfl, h10⟩
        have HE10 := Lib.hid (HE9.out.ext h10)
        have hb10 := h10.heap HB9.out (fun h => h)
        clear o0 o1 o2 o3 f0 f1 f2 f3 x0 x1 x2 x3 h10
        have x0 := cellRow hb10 0 _ rfl
        have x1 := cellRow hb10 1 _ rfl
        have x2 := cellRow hb10 2 _ rfl
        have x3 := cellRow hb10 3 _ rfl
        obtain ⟨c0, c1, c2, c3⟩ := HC.out _ HE10.out
        clear hb10
        rcases HCS.out with ⟨b1, b2⟩ | ⟨b1, b2, b3, b4⟩ | ⟨b1, b3, b4⟩
        · go_wp2_with fail
          go_ret
          exact ⟨rfl, HU.out.ext HE10.out⟩
        · go_wp2_with fail
          go_ret
          exact ⟨rfl, HU.out.ext HE10.out⟩
        · go_wp2_with fail
          go_ret
          exact ⟨rfl, HU.out.ext HE10.out⟩
theorem keeps_law (S : Nat → Prop) (p : Prof) (wv : Value) (w : World) (h : NumR S w wv p.ws) (seed n cut : Int) (hc : 0 ≤ cut ∧ cut ≤ 255) : Calls Try.prog 7 #[.agg #[.int .i64 p.kind, wv, .int .i64 p.low, .int .i64 p.high], .int .i64 seed, .int .i64 n, .int .u8 cut] w fun e w' => e = .returned (.bool true) ∧ Ext w w' := by
  by_cases hl : p.ws.length ≤ 20
  · by_cases h1 : n < 0
    · exact keeps_n1 S p wv w h seed n cut hl h1
    · by_cases h2 : 60 < n
      · exact keeps_n2 S p wv w h seed n cut hl h2
      · cases hV : validP p
        · exact keeps_bad1 S p wv w h seed n cut hl (by omega) (by omega) hV
        · cases hs : seedB seed
          · exact keeps_bad2 S p wv w h seed n cut hl (by omega) (by omega) hV hs
          · exact keeps_ok S p wv w h seed n cut hl (by omega) (by omega) hc.1 hc.2 hV hs
  · exact keeps_long S p wv w h seed n cut (by omega)

end Go.Proofs.Ythpekfpeoglbgaa
