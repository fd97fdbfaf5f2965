/- ValidProfile of the reference. -/
import Derived.Test.YthpekfpeoglbgaaW13
import Derived.Test.YthpekfpeoglbgaaW7
import Derived.Test.YthpekfpeoglbgaaW10
namespace Go.Proofs.Ythpekfpeoglbgaa
open Go.RowKit Go.Hw
set_option linter.unusedVariables false
set_option linter.unusedSimpArgs false

theorem any_take (p : Int → Bool) (l : List Int) (j : Nat) (h : j < l.length) : (l.take (j + 1)).any p = ((l.take j).any p || p (l.getD j 0)) := by
  rw [List.take_succ_eq_append_getElem h, List.any_append]; simp [h]

set_option maxRecDepth 100000 in
set_option maxHeartbeats 2000000 in
theorem rvp_8b (S : Nat → Prop) (p : Prof) (wv : Value) (w : World) (h : NumR S w wv p.ws) (hl : p.ws.length ≤ 100000000) (hk : knownB p.kind = true) (h1 : p.ws.length = nW p.kind) (h2 : -1048576 ≤ p.low) (h3 : p.high ≤ 1048576) (h4 : p.low ≤ p.high) (h5 : p.kind ≠ 6) : Calls Try.prog 11 #[.agg #[.int .i64 p.kind, wv, .int .i64 p.low, .int .i64 p.high]] w fun e w' => e = .returned (.bool (p.ws.all wtB && p.ws.any (fun n => decide (0 < n)))) ∧ Ext w w' := by
  obtain ⟨kd, ws, lo, hi⟩ := p
  simp only at *
  obtain ⟨a, cap, hv⟩ := h.shape
  subst hv
  have HN := Lib.hid h
  clear h
  generalize hm : ws.length = m at *
  have HM := Lib.hid hm
  clear hm
  have hu : Ext w (w.alloc (.cells #[.int .i64 kd, .slice a m cap, .int .i64 lo, .int .i64 hi] 24)) := (Upd.refl _ w).alloc _
  have HU := Lib.hid hu
  have hB : (w.alloc (.cells #[.int .i64 kd, .slice a m cap, .int .i64 lo, .int .i64 hi] 24)).heap[w.heap.size]? = some (.cells #[.int .i64 kd, .slice a m cap, .int .i64 lo, .int .i64 hi] 24) := alloc0 _ _
  have HB := Lib.hid hB
  clear hu hB
  have HW : Hid (∀ W, Ext w W → NumR S W (.slice a m cap) ws) := fun W hW => HN.out.kept hW (fun _ _ h => h)
  have HK : Hid (∀ W, Calls Try.prog 33 #[.int .i64 kd] W fun e w' => e = .returned (.bool (knownB kd)) ∧ Ext W w') := fun W => (rknown_any kd W).mono fun e w2 h => ⟨h.1, h.2 ▸ Upd.refl _ _⟩
  have HC : Hid (∀ W, Calls Try.prog 34 #[.int .i64 kd] W fun e w' => ∃ a, e = .returned (.slice a (nW kd) (nW kd)) ∧ Ext W w') := fun W => rwords_any kd W
  obtain ⟨R, hR⟩ : ∃ R, R = (ws.all wtB && ws.any (fun n => decide (0 < n))) := ⟨_, rfl⟩
  rw [← hR]
  have HR : Hid (R = ((!(ws.any fun x => !wtB x)) && ws.any (fun n => decide (0 < n)))) := by show R = _; rw [hR, any_not]
  clear hR
  rw [hk] at HK
  clear hk
  have t0 : ((m : Int) != (nW kd : Int)) = false := by simp; omega
  have t1 : decide (lo < -1048576) = false := by simp; omega
  have t2 : decide (1048576 < hi) = false := by simp; omega
  have t3 : decide (hi < lo) = false := by simp; omega
  have H1 := Lib.hid h1
  clear h1
  have u1 : (kd == 6) = false := by simpa using h5
  go_enter Try.func11, Try.ntmps11
  go_wp2_with fail
  generalize w.alloc (.cells #[.int .i64 kd, .slice a m cap, .int .i64 lo, .int .i64 hi] 24) = w3 at *
  generalize w.heap.size = b at *
  have Hb0 : Hid (∀ W, Ext w3 W → W.cell? ⟨b, 0, none⟩ = some (.int .i64 kd)) := fun W hW => cellRow (hW.heap HB.out (fun h => h)) 0 _ rfl
  have Hb1 : Hid (∀ W, Ext w3 W → W.cell? ⟨b, 1, none⟩ = some (.slice a m cap)) := fun W hW => cellRow (hW.heap HB.out (fun h => h)) 1 _ rfl
  have Hb2 : Hid (∀ W, Ext w3 W → W.cell? ⟨b, 2, none⟩ = some (.int .i64 lo)) := fun W hW => cellRow (hW.heap HB.out (fun h => h)) 2 _ rfl
  have Hb3 : Hid (∀ W, Ext w3 W → W.cell? ⟨b, 3, none⟩ = some (.int .i64 hi)) := fun W hW => cellRow (hW.heap HB.out (fun h => h)) 3 _ rfl
  have hx0 : Ext w3 w3.drew := (Upd.refl _ w3).drew
  have hb0 := Hb0.out _ (Upd.refl _ _)
  have hb1 := Hb1.out _ (Upd.refl _ _)
  have hb2 := Hb2.out _ (Upd.refl _ _)
  have hb3 := Hb3.out _ (Upd.refl _ _)
  go_region_held3 (fun w' => w'.cell? ⟨b, 0, none⟩ = some (.int .i64 kd) ∧ w'.cell? ⟨b, 1, none⟩ = some (.slice a m cap) ∧ w'.cell? ⟨b, 2, none⟩ = some (.int .i64 lo) ∧ w'.cell? ⟨b, 3, none⟩ = some (.int .i64 hi))
    (first | go_keep | (exact ⟨Hb0.out _ (by assumption), Hb1.out _ (by assumption), Hb2.out _ (by assumption), Hb3.out _ (by assumption)⟩))
    (first
      | (go_at_call 33; refine (HK.out _).mono ?_; rintro e w5 ⟨rfl, hx5⟩; have hy5 : Ext w3 w5 := Upd.ext (by assumption) hx5; clear hx5)
      | (go_at_call 34; refine (HC.out _).mono ?_; rintro e w6 ⟨a6, rfl, hx6⟩; have hy6 : Ext w3 w6 := Upd.ext hy5 hx6; clear hx6))
  have e0 := Hb0.out _ hy6
  have e1 := Hb1.out _ hy6
  have e2 := Hb2.out _ hy6
  have e3 := Hb3.out _ hy6
  have H6 := Lib.hid (HU.out.ext hy6)
  clear hb0 hb1 hb2 hb3 hx0
  have hbl : b < w6.heap.size := (Array.getElem?_eq_some_iff.1 (hy6.heap HB.out (fun h => h))).1
  go_wp2_with fail
  go_loopg [3, 4] m (fun gk sm i wr => ∃ j : Nat, i = .int .i64 j ∧ sm = .bool ((ws.take j).any fun n => decide (0 < n)) ∧ gk = m - j ∧ j ≤ m ∧ wr = w6 ∧ Hid (∀ i, i < j → (!wtB (ws.getD i 0)) = false))
  case atStart => exact ⟨0, rfl, rfl, rfl, Nat.zero_le _, rfl, fun i h => absurd h (Nat.not_lt_zero _)⟩
  case round =>
    obtain ⟨j, rfl, rfl, rfl, hj, rfl, Hj⟩ := hrel
    by_cases hlt : j < m
    · have hlx : j < ws.length := by rw [HM.out]; exact hlt
      obtain ⟨g, off, cap', hv, hcc, hg, hcell⟩ := (HW.out _ H6.out).pos (by omega)
      rw [HM.out] at hv
      injection hv with q1 q2 q3
      subst q1; subst q3
      have hcel : wr.cell? ⟨g, off + j, none⟩ = some (.int .i64 (ws.getD j 0)) := by rw [← nums_get ws j hlx]; exact hcell j (by omega)
      have i0' : (0 : Int) ≤ (j : Int) := by omega
      have i1' : (j : Int) < (m : Int) := by omega
      have Hs := Lib.hid (any_step (fun x => !wtB x) ws j hlx)
      have Hat := Lib.hid (any_take (fun n => decide (0 < n)) ws j hlx)
      have HJ : Hid ((!wtB (ws.getD j 0)) = false → ∀ i, i < j + 1 → (!wtB (ws.getD i 0)) = false) := fun h i hi => by
        by_cases e : i = j
        · subst e; exact h
        · exact Hj.out i (by omega)
      clear hcell hg hcc q2 hlx
      generalize ws.getD j 0 = X at *
      generalize (ws.take j).any (fun n => decide (0 < n)) = AN at *
      have HB2 : Hid (wtB X = decide (0 ≤ X ∧ X ≤ 2000)) := rfl
      by_cases hx0 : X < 0
      · obtain rfl : R = false := by rw [HR.out, Hs.out (by rw [HB2.out]; simp; omega)]; rfl
        clear HR Hs HB2 HJ Hat
        go_wp2_with fail
        go_ret
        exact ⟨rfl, H6.out⟩
      · by_cases hx1 : 2000 < X
        · obtain rfl : R = false := by rw [HR.out, Hs.out (by rw [HB2.out]; simp; omega)]; rfl
          clear HR Hs HB2 HJ Hat
          go_wp2_with fail
          go_ret
          exact ⟨rfl, H6.out⟩
        · have HJ2 := Lib.hid (HJ.out (by rw [HB2.out]; simp; omega))
          clear HJ HB2 Hs
          cases AN with
          | true =>
            go_wp2_with fail
            go_roundg (m - (j + 1))
            case measure => omega
            case rel => exact ⟨j + 1, by go_num, by rw [Hat.out]; rfl, rfl, by omega, rfl, HJ2⟩
          | false =>
            by_cases hx2 : 0 < X
            · go_wp2_with fail
              go_roundg (m - (j + 1))
              case measure => omega
              case rel => exact ⟨j + 1, by go_num, by rw [Hat.out]; simp [hx2], rfl, by omega, rfl, HJ2⟩
            · go_wp2_with fail
              go_roundg (m - (j + 1))
              case measure => omega
              case rel => exact ⟨j + 1, by go_num, by rw [Hat.out]; simp; omega, rfl, by omega, rfl, HJ2⟩
    · obtain rfl : j = m := by omega
      have hr : R = ((ws.take j).any fun n => decide (0 < n)) := by
        rw [HR.out, any_none _ ws (fun i hi => Hj.out i (by have := HM.out; omega)), List.take_of_length_le (by rw [HM.out]; exact Nat.le_refl _)]; rfl
      generalize (ws.take j).any (fun n => decide (0 < n)) = AN at *
      subst hr
      clear HR
      go_wp2_with fail
      go_ret
      exact ⟨rfl, H6.out⟩

set_option maxRecDepth 100000 in
set_option maxHeartbeats 2000000 in
theorem rvp_9b (S : Nat → Prop) (p : Prof) (wv : Value) (w : World) (h : NumR S w wv p.ws) (hl : p.ws.length ≤ 100000000) (hk : knownB p.kind = true) (h1 : p.ws.length = nW p.kind) (h2 : -1048576 ≤ p.low) (h3 : p.high ≤ 1048576) (h4 : p.low ≤ p.high) (h5 : p.kind = 6) (h6 : 0 ≤ p.low) (h7 : p.high ≤ 255) : Calls Try.prog 11 #[.agg #[.int .i64 p.kind, wv, .int .i64 p.low, .int .i64 p.high]] w fun e w' => e = .returned (.bool (p.ws.all wtB && p.ws.any (fun n => decide (0 < n)))) ∧ Ext w w' := by
  obtain ⟨kd, ws, lo, hi⟩ := p
  simp only at *
  obtain ⟨a, cap, hv⟩ := h.shape
  subst hv
  have HN := Lib.hid h
  clear h
  generalize hm : ws.length = m at *
  have HM := Lib.hid hm
  clear hm
  have hu : Ext w (w.alloc (.cells #[.int .i64 kd, .slice a m cap, .int .i64 lo, .int .i64 hi] 24)) := (Upd.refl _ w).alloc _
  have HU := Lib.hid hu
  have hB : (w.alloc (.cells #[.int .i64 kd, .slice a m cap, .int .i64 lo, .int .i64 hi] 24)).heap[w.heap.size]? = some (.cells #[.int .i64 kd, .slice a m cap, .int .i64 lo, .int .i64 hi] 24) := alloc0 _ _
  have HB := Lib.hid hB
  clear hu hB
  have HW : Hid (∀ W, Ext w W → NumR S W (.slice a m cap) ws) := fun W hW => HN.out.kept hW (fun _ _ h => h)
  have HK : Hid (∀ W, Calls Try.prog 33 #[.int .i64 kd] W fun e w' => e = .returned (.bool (knownB kd)) ∧ Ext W w') := fun W => (rknown_any kd W).mono fun e w2 h => ⟨h.1, h.2 ▸ Upd.refl _ _⟩
  have HC : Hid (∀ W, Calls Try.prog 34 #[.int .i64 kd] W fun e w' => ∃ a, e = .returned (.slice a (nW kd) (nW kd)) ∧ Ext W w') := fun W => rwords_any kd W
  obtain ⟨R, hR⟩ : ∃ R, R = (ws.all wtB && ws.any (fun n => decide (0 < n))) := ⟨_, rfl⟩
  rw [← hR]
  have HR : Hid (R = ((!(ws.any fun x => !wtB x)) && ws.any (fun n => decide (0 < n)))) := by show R = _; rw [hR, any_not]
  clear hR
  rw [hk] at HK
  clear hk
  have t0 : ((m : Int) != (nW kd : Int)) = false := by simp; omega
  have t1 : decide (lo < -1048576) = false := by simp; omega
  have t2 : decide (1048576 < hi) = false := by simp; omega
  have t3 : decide (hi < lo) = false := by simp; omega
  have H1 := Lib.hid h1
  clear h1
  have u1 : (kd == 6) = true := by simpa using h5
  have H5 := Lib.hid h5
  clear h5
  go_enter Try.func11, Try.ntmps11
  go_wp2_with fail
  generalize w.alloc (.cells #[.int .i64 kd, .slice a m cap, .int .i64 lo, .int .i64 hi] 24) = w3 at *
  generalize w.heap.size = b at *
  have Hb0 : Hid (∀ W, Ext w3 W → W.cell? ⟨b, 0, none⟩ = some (.int .i64 kd)) := fun W hW => cellRow (hW.heap HB.out (fun h => h)) 0 _ rfl
  have Hb1 : Hid (∀ W, Ext w3 W → W.cell? ⟨b, 1, none⟩ = some (.slice a m cap)) := fun W hW => cellRow (hW.heap HB.out (fun h => h)) 1 _ rfl
  have Hb2 : Hid (∀ W, Ext w3 W → W.cell? ⟨b, 2, none⟩ = some (.int .i64 lo)) := fun W hW => cellRow (hW.heap HB.out (fun h => h)) 2 _ rfl
  have Hb3 : Hid (∀ W, Ext w3 W → W.cell? ⟨b, 3, none⟩ = some (.int .i64 hi)) := fun W hW => cellRow (hW.heap HB.out (fun h => h)) 3 _ rfl
  have hx0 : Ext w3 w3.drew := (Upd.refl _ w3).drew
  have hb0 := Hb0.out _ (Upd.refl _ _)
  have hb1 := Hb1.out _ (Upd.refl _ _)
  have hb2 := Hb2.out _ (Upd.refl _ _)
  have hb3 := Hb3.out _ (Upd.refl _ _)
  go_region_held3 (fun w' => w'.cell? ⟨b, 0, none⟩ = some (.int .i64 kd) ∧ w'.cell? ⟨b, 1, none⟩ = some (.slice a m cap) ∧ w'.cell? ⟨b, 2, none⟩ = some (.int .i64 lo) ∧ w'.cell? ⟨b, 3, none⟩ = some (.int .i64 hi))
    (first | go_keep | (exact ⟨Hb0.out _ (by assumption), Hb1.out _ (by assumption), Hb2.out _ (by assumption), Hb3.out _ (by assumption)⟩))
    (first
      | (go_at_call 33; refine (HK.out _).mono ?_; rintro e w5 ⟨rfl, hx5⟩; have hy5 : Ext w3 w5 := Upd.ext (by assumption) hx5; clear hx5)
      | (go_at_call 34; refine (HC.out _).mono ?_; rintro e w6 ⟨a6, rfl, hx6⟩; have hy6 : Ext w3 w6 := Upd.ext hy5 hx6; clear hx6))
  have e0 := Hb0.out _ hy6
  have e1 := Hb1.out _ hy6
  have e2 := Hb2.out _ hy6
  have e3 := Hb3.out _ hy6
  have H6 := Lib.hid (HU.out.ext hy6)
  clear hb0 hb1 hb2 hb3 hx0
  have hbl : b < w6.heap.size := (Array.getElem?_eq_some_iff.1 (hy6.heap HB.out (fun h => h))).1
  go_wp2_with fail
  go_loopg [3, 4] m (fun gk sm i wr => ∃ j : Nat, i = .int .i64 j ∧ sm = .bool ((ws.take j).any fun n => decide (0 < n)) ∧ gk = m - j ∧ j ≤ m ∧ wr = w6 ∧ Hid (∀ i, i < j → (!wtB (ws.getD i 0)) = false))
  case atStart => exact ⟨0, rfl, rfl, rfl, Nat.zero_le _, rfl, fun i h => absurd h (Nat.not_lt_zero _)⟩
  case round =>
    obtain ⟨j, rfl, rfl, rfl, hj, rfl, Hj⟩ := hrel
    by_cases hlt : j < m
    · have hlx : j < ws.length := by rw [HM.out]; exact hlt
      obtain ⟨g, off, cap', hv, hcc, hg, hcell⟩ := (HW.out _ H6.out).pos (by omega)
      rw [HM.out] at hv
      injection hv with q1 q2 q3
      subst q1; subst q3
      have hcel : wr.cell? ⟨g, off + j, none⟩ = some (.int .i64 (ws.getD j 0)) := by rw [← nums_get ws j hlx]; exact hcell j (by omega)
      have i0' : (0 : Int) ≤ (j : Int) := by omega
      have i1' : (j : Int) < (m : Int) := by omega
      have Hs := Lib.hid (any_step (fun x => !wtB x) ws j hlx)
      have Hat := Lib.hid (any_take (fun n => decide (0 < n)) ws j hlx)
      have HJ : Hid ((!wtB (ws.getD j 0)) = false → ∀ i, i < j + 1 → (!wtB (ws.getD i 0)) = false) := fun h i hi => by
        by_cases e : i = j
        · subst e; exact h
        · exact Hj.out i (by omega)
      clear hcell hg hcc q2 hlx
      generalize ws.getD j 0 = X at *
      generalize (ws.take j).any (fun n => decide (0 < n)) = AN at *
      have HB2 : Hid (wtB X = decide (0 ≤ X ∧ X ≤ 2000)) := rfl
      by_cases hx0 : X < 0
      · obtain rfl : R = false := by rw [HR.out, Hs.out (by rw [HB2.out]; simp; omega)]; rfl
        clear HR Hs HB2 HJ Hat
        go_wp2_with fail
        go_ret
        exact ⟨rfl, H6.out⟩
      · by_cases hx1 : 2000 < X
        · obtain rfl : R = false := by rw [HR.out, Hs.out (by rw [HB2.out]; simp; omega)]; rfl
          clear HR Hs HB2 HJ Hat
          go_wp2_with fail
          go_ret
          exact ⟨rfl, H6.out⟩
        · have HJ2 := Lib.hid (HJ.out (by rw [HB2.out]; simp; omega))
          clear HJ HB2 Hs
          cases AN with
          | true =>
            go_wp2_with fail
            go_roundg (m - (j + 1))
            case measure => omega
            case rel => exact ⟨j + 1, by go_num, by rw [Hat.out]; rfl, rfl, by omega, rfl, HJ2⟩
          | false =>
            by_cases hx2 : 0 < X
            · go_wp2_with fail
              go_roundg (m - (j + 1))
              case measure => omega
              case rel => exact ⟨j + 1, by go_num, by rw [Hat.out]; simp [hx2], rfl, by omega, rfl, HJ2⟩
            · go_wp2_with fail
              go_roundg (m - (j + 1))
              case measure => omega
              case rel => exact ⟨j + 1, by go_num, by rw [Hat.out]; simp; omega, rfl, by omega, rfl, HJ2⟩
    · obtain rfl : j = m := by omega
      have hr : R = ((ws.take j).any fun n => decide (0 < n)) := by
        rw [HR.out, any_none _ ws (fun i hi => Hj.out i (by have := HM.out; omega)), List.take_of_length_le (by rw [HM.out]; exact Nat.le_refl _)]; rfl
      generalize (ws.take j).any (fun n => decide (0 < n)) = AN at *
      subst hr
      clear HR
      go_wp2_with fail
      go_ret
      exact ⟨rfl, H6.out⟩
/-- heartwoodref51.ValidProfile -/
theorem rvp_any (S : Nat → Prop) (p : Prof) (wv : Value) (w : World) (h : NumR S w wv p.ws) (hl : p.ws.length ≤ 100000000) : Calls Try.prog 11 #[.agg #[.int .i64 p.kind, wv, .int .i64 p.low, .int .i64 p.high]] w fun e w' => e = .returned (.bool (validP p)) ∧ Ext w w' := by
  cases hk : knownB p.kind with
  | false =>
    have : validP p = false := by unfold validP; rw [hk]; rfl
    rw [this]; exact rvp_1 S p wv w h hl hk
  | true =>
  by_cases h1 : p.ws.length ≠ nW p.kind
  · have : validP p = false := by unfold validP; rw [decide_eq_false h1]; simp
    rw [this]; exact rvp_2 S p wv w h hl hk h1
  replace h1 : p.ws.length = nW p.kind := Decidable.not_not.1 h1
  by_cases h2 : p.low < -1048576
  · have : validP p = false := by unfold validP spanB; rw [decide_eq_false (by omega : ¬ (-1048576 ≤ p.low ∧ p.high ≤ 1048576 ∧ p.low ≤ p.high))]; simp
    rw [this]; exact rvp_3 S p wv w h hl hk h1 h2
  by_cases h3 : 1048576 < p.high
  · have : validP p = false := by unfold validP spanB; rw [decide_eq_false (by omega : ¬ (-1048576 ≤ p.low ∧ p.high ≤ 1048576 ∧ p.low ≤ p.high))]; simp
    rw [this]; exact rvp_4 S p wv w h hl hk h1 (by omega) h3
  by_cases h4 : p.high < p.low
  · have : validP p = false := by unfold validP spanB; rw [decide_eq_false (by omega : ¬ (-1048576 ≤ p.low ∧ p.high ≤ 1048576 ∧ p.low ≤ p.high))]; simp
    rw [this]; exact rvp_5 S p wv w h hl hk h1 (by omega) (by omega) h4
  have hs1 : decide (-1048576 ≤ p.low ∧ p.high ≤ 1048576 ∧ p.low ≤ p.high) = true := decide_eq_true (by omega)
  have hv : validP p = (((decide (p.kind ≠ 6) || decide (0 ≤ p.low ∧ p.high ≤ 255))) && (p.ws.all wtB && p.ws.any (fun n => decide (0 < n)))) := by
    unfold validP spanB; rw [hk, decide_eq_true h1, hs1]; rfl
  rw [hv]
  by_cases h5 : p.kind = 6
  · by_cases h6 : p.low < 0
    · rw [show (decide (p.kind ≠ 6) || decide (0 ≤ p.low ∧ p.high ≤ 255)) = false by simp [h5]; omega]
      exact rvp_6 S p wv w h hl hk h1 (by omega) (by omega) (by omega) h5 h6
    · by_cases h7 : 255 < p.high
      · rw [show (decide (p.kind ≠ 6) || decide (0 ≤ p.low ∧ p.high ≤ 255)) = false by simp [h5]; omega]
        exact rvp_7 S p wv w h hl hk h1 (by omega) (by omega) (by omega) h5 (by omega) h7
      · rw [show (decide (p.kind ≠ 6) || decide (0 ≤ p.low ∧ p.high ≤ 255)) = true by simp [h5]; omega, Bool.true_and]
        exact rvp_9b S p wv w h hl hk h1 (by omega) (by omega) (by omega) h5 (by omega) (by omega)
  · rw [show (decide (p.kind ≠ 6) || decide (0 ≤ p.low ∧ p.high ≤ 255)) = true by simp [h5], Bool.true_and]
    exact rvp_8b S p wv w h hl hk h1 (by omega) (by omega) (by omega) h5

end Go.Proofs.Ythpekfpeoglbgaa
