/- better. -/
import Derived.Test.YthpekfpeoglbgaaW10
import Derived.Test.YthpekfpeoglbgaaP2
namespace Go.Proofs.Ythpekfpeoglbgaa
open Go.RowKit Go.Hw
set_option linter.unusedVariables false
set_option linter.unusedSimpArgs false

def ints (l : List Nat) : List Int := l.map fun i : Nat => (i : Int)
theorem ints_length (l : List Nat) : (ints l).length = l.length := by simp [ints]
theorem ints_get (l : List Nat) (k : Nat) : (ints l).getD k 0 = ((l.getD k 0 : Nat) : Int) := by
  unfold ints
  by_cases h : k < l.length
  · simp [h]
  · simp [Nat.le_of_not_lt h]
def betB (c1 c2 : Int) (a b : List Nat) : Bool :=
  if c1 = c2 then (if a.length = b.length then lexlt a b else decide (a.length < b.length)) else decide (c1 < c2)
theorem lexlt_drop_eq (a b : List Nat) (k : Nat) (h1 : k < a.length) (h2 : k < b.length) : lexlt (a.drop k) (b.drop k) = if a.getD k 0 = b.getD k 0 then lexlt (a.drop (k + 1)) (b.drop (k + 1)) else decide (a.getD k 0 < b.getD k 0) := by
  rw [List.drop_eq_getElem_cons h1, List.drop_eq_getElem_cons h2]
  simp [lexlt, h1, h2]

set_option maxRecDepth 100000 in
set_option maxHeartbeats 2000000 in
theorem better_a (S T : Nat → Prop) (v1 v2 : Value) (xs ys : List Nat) (c1 c2 : Int) (w : World) (h1 : NumR S w v1 (ints xs)) (h2 : NumR T w v2 (ints ys)) (hl1 : xs.length ≤ 100000000) (hl2 : ys.length ≤ 100000000) (hc : c1 ≠ c2) :
    Calls Try.prog 47 #[.agg #[v1, .int .i64 c1], .agg #[v2, .int .i64 c2]] w fun e w' => e = .returned (.bool (decide (c1 < c2))) ∧ Ext w w' := by
  obtain ⟨a, cap, hv⟩ := h1.shape
  obtain ⟨b, cap2, hv2⟩ := h2.shape
  rw [ints_length] at hv hv2
  subst hv; subst hv2
  have H1 := Lib.hid h1
  have H2 := Lib.hid h2
  clear h1 h2
  generalize hn : xs.length = n at *
  generalize hm : ys.length = m at *
  have Hn := Lib.hid hn
  have Hm := Lib.hid hm
  clear hn hm
  have HU : Hid (Ext w ((w.alloc (.cells #[.slice a n cap, .int .i64 c1] 71)).alloc (.cells #[.slice b m cap2, .int .i64 c2] 71))) := ((Upd.refl _ w).alloc _).alloc _
  have hb1 := allocOld (alloc0 w (.cells #[.slice a n cap, .int .i64 c1] 71)) (.cells #[.slice b m cap2, .int .i64 c2] 71)
  have hb2 := alloc_at (w.alloc (.cells #[.slice a n cap, .int .i64 c1] 71)) (.cells #[.slice b m cap2, .int .i64 c2] 71) (n := w.heap.size + 1) (by simp)
  have HX : Hid (∀ W, Ext ((w.alloc (.cells #[.slice a n cap, .int .i64 c1] 71)).alloc (.cells #[.slice b m cap2, .int .i64 c2] 71)) W → W.cell? ⟨w.heap.size, 0, none⟩ = some (.slice a n cap) ∧ W.cell? ⟨w.heap.size, 1, none⟩ = some (.int .i64 c1) ∧ W.cell? ⟨w.heap.size + 1, 0, none⟩ = some (.slice b m cap2) ∧ W.cell? ⟨w.heap.size + 1, 1, none⟩ = some (.int .i64 c2)) := fun W hW =>
    ⟨cellRow (hW.heap hb1 (fun h => h)) 0 _ rfl, cellRow (hW.heap hb1 (fun h => h)) 1 _ rfl, cellRow (hW.heap hb2 (fun h => h)) 0 _ rfl, cellRow (hW.heap hb2 (fun h => h)) 1 _ rfl⟩
  obtain ⟨k0, k1, k2, k3⟩ := HX.out _ (Upd.refl _ _)
  clear hb1 hb2
  have t0 : (c1 != c2) = true := by simpa using hc
  clear hc
  go_enter Try.func47, Try.ntmps47
  go_wp2_with fail
  go_ret
  exact ⟨rfl, HU.out⟩

set_option maxRecDepth 100000 in
set_option maxHeartbeats 2000000 in
theorem better_b (S T : Nat → Prop) (v1 v2 : Value) (xs ys : List Nat) (c1 c2 : Int) (w : World) (h1 : NumR S w v1 (ints xs)) (h2 : NumR T w v2 (ints ys)) (hl1 : xs.length ≤ 100000000) (hl2 : ys.length ≤ 100000000) (hc : c1 = c2) (hne : xs.length ≠ ys.length) :
    Calls Try.prog 47 #[.agg #[v1, .int .i64 c1], .agg #[v2, .int .i64 c2]] w fun e w' => e = .returned (.bool (decide (xs.length < ys.length))) ∧ Ext w w' := by
  obtain ⟨a, cap, hv⟩ := h1.shape
  obtain ⟨b, cap2, hv2⟩ := h2.shape
  rw [ints_length] at hv hv2
  subst hv; subst hv2
  have H1 := Lib.hid h1
  have H2 := Lib.hid h2
  clear h1 h2
  generalize hn : xs.length = n at *
  generalize hm : ys.length = m at *
  have Hn := Lib.hid hn
  have Hm := Lib.hid hm
  clear hn hm
  have HU : Hid (Ext w ((w.alloc (.cells #[.slice a n cap, .int .i64 c1] 71)).alloc (.cells #[.slice b m cap2, .int .i64 c2] 71))) := ((Upd.refl _ w).alloc _).alloc _
  have hb1 := allocOld (alloc0 w (.cells #[.slice a n cap, .int .i64 c1] 71)) (.cells #[.slice b m cap2, .int .i64 c2] 71)
  have hb2 := alloc_at (w.alloc (.cells #[.slice a n cap, .int .i64 c1] 71)) (.cells #[.slice b m cap2, .int .i64 c2] 71) (n := w.heap.size + 1) (by simp)
  have HX : Hid (∀ W, Ext ((w.alloc (.cells #[.slice a n cap, .int .i64 c1] 71)).alloc (.cells #[.slice b m cap2, .int .i64 c2] 71)) W → W.cell? ⟨w.heap.size, 0, none⟩ = some (.slice a n cap) ∧ W.cell? ⟨w.heap.size, 1, none⟩ = some (.int .i64 c1) ∧ W.cell? ⟨w.heap.size + 1, 0, none⟩ = some (.slice b m cap2) ∧ W.cell? ⟨w.heap.size + 1, 1, none⟩ = some (.int .i64 c2)) := fun W hW =>
    ⟨cellRow (hW.heap hb1 (fun h => h)) 0 _ rfl, cellRow (hW.heap hb1 (fun h => h)) 1 _ rfl, cellRow (hW.heap hb2 (fun h => h)) 0 _ rfl, cellRow (hW.heap hb2 (fun h => h)) 1 _ rfl⟩
  obtain ⟨k0, k1, k2, k3⟩ := HX.out _ (Upd.refl _ _)
  clear hb1 hb2
  subst hc
  have t0 : (c1 != c1) = false := by simp
  have t1 : ((n : Int) != (m : Int)) = true := by simp; omega
  have t2 : ((n : Nat) != m) = true := by simpa using hne
  have HR : Hid (decide (n < m) = decide ((n : Int) < (m : Int))) := by show _ = _; simp
  rw [HR.out]
  go_enter Try.func47, Try.ntmps47
  go_wp2_with fail
  go_ret
  exact ⟨by first | rfl | simp, HU.out⟩

set_option maxRecDepth 100000 in
set_option maxHeartbeats 2000000 in
theorem better_c (S T : Nat → Prop) (v1 v2 : Value) (xs ys : List Nat) (c1 c2 : Int) (w : World) (h1 : NumR S w v1 (ints xs)) (h2 : NumR T w v2 (ints ys)) (hl1 : xs.length ≤ 100000000) (hl2 : ys.length ≤ 100000000) (hc : c1 = c2) (hne : xs.length = ys.length) :
    Calls Try.prog 47 #[.agg #[v1, .int .i64 c1], .agg #[v2, .int .i64 c2]] w fun e w' => e = .returned (.bool (lexlt xs ys)) ∧ Ext w w' := by
  obtain ⟨a, cap, hv⟩ := h1.shape
  obtain ⟨b, cap2, hv2⟩ := h2.shape
  rw [ints_length] at hv hv2
  subst hv; subst hv2
  have H1 := Lib.hid h1
  have H2 := Lib.hid h2
  clear h1 h2
  generalize hn : xs.length = n at *
  generalize hm : ys.length = m at *
  have Hn := Lib.hid hn
  have Hm := Lib.hid hm
  clear hn hm
  have HU : Hid (Ext w ((w.alloc (.cells #[.slice a n cap, .int .i64 c1] 71)).alloc (.cells #[.slice b m cap2, .int .i64 c2] 71))) := ((Upd.refl _ w).alloc _).alloc _
  have hb1 := allocOld (alloc0 w (.cells #[.slice a n cap, .int .i64 c1] 71)) (.cells #[.slice b m cap2, .int .i64 c2] 71)
  have hb2 := alloc_at (w.alloc (.cells #[.slice a n cap, .int .i64 c1] 71)) (.cells #[.slice b m cap2, .int .i64 c2] 71) (n := w.heap.size + 1) (by simp)
  have HX : Hid (∀ W, Ext ((w.alloc (.cells #[.slice a n cap, .int .i64 c1] 71)).alloc (.cells #[.slice b m cap2, .int .i64 c2] 71)) W → W.cell? ⟨w.heap.size, 0, none⟩ = some (.slice a n cap) ∧ W.cell? ⟨w.heap.size, 1, none⟩ = some (.int .i64 c1) ∧ W.cell? ⟨w.heap.size + 1, 0, none⟩ = some (.slice b m cap2) ∧ W.cell? ⟨w.heap.size + 1, 1, none⟩ = some (.int .i64 c2)) := fun W hW =>
    ⟨cellRow (hW.heap hb1 (fun h => h)) 0 _ rfl, cellRow (hW.heap hb1 (fun h => h)) 1 _ rfl, cellRow (hW.heap hb2 (fun h => h)) 0 _ rfl, cellRow (hW.heap hb2 (fun h => h)) 1 _ rfl⟩
  obtain ⟨k0, k1, k2, k3⟩ := HX.out _ (Upd.refl _ _)
  clear hb1 hb2
  subst hc
  subst hne
  have t0 : (c1 != c1) = false := by simp
  have t1 : ((n : Int) != (n : Int)) = false := by simp
  obtain ⟨R, hR⟩ : ∃ R, R = lexlt xs ys := ⟨_, rfl⟩
  rw [← hR]
  have HR := Lib.hid hR
  clear hR
  go_enter Try.func47, Try.ntmps47
  go_wp2_with fail
  clear k0 k1 k2 k3
  generalize ((w.alloc (.cells #[.slice a n cap, .int .i64 c1] 71)).alloc (.cells #[.slice b n cap2, .int .i64 c1] 71)) = w1 at *
  generalize w.heap.size = g0 at *
  go_loopg [5] n (fun gk iv wr => ∃ k : Nat, iv = .int .i64 k ∧ gk = n - k ∧ k ≤ n ∧ Hid (Ext w1 wr) ∧ Hid (R = lexlt (xs.drop k) (ys.drop k)))
  case atStart => exact ⟨0, rfl, rfl, Nat.zero_le _, Upd.refl _ _, by rw [List.drop_zero, List.drop_zero]; exact HR.out⟩
  case round =>
    obtain ⟨k, rfl, rfl, hk, HE, HL⟩ := hrel
    clear HR
    obtain ⟨k0, k1, k2, k3⟩ := HX.out _ HE.out
    by_cases hlt : k < n
    · obtain ⟨g, off, cap', hv, hc, hg, hj⟩ := H1.out.pos (by rw [ints_length, Hn.out]; omega)
      obtain ⟨g', off', cap2', hv', hc', hg', hj'⟩ := H2.out.pos (by rw [ints_length, Hm.out]; omega)
      injection hv with e1 e2 e3
      injection hv' with f1 f2 f3
      subst e1; subst e3; subst f1; subst f3
      have HH := HU.out.trans HE.out
      have q1 : wr.cell? ⟨g, off + k, none⟩ = some (.int .i64 ((xs.getD k 0 : Nat) : Int)) := by
        refine HH.cell ?_ (fun h => h)
        rw [hj k (by rw [ints_length, Hn.out]; omega), nums_get _ k (by rw [ints_length, Hn.out]; omega), ints_get]
      have q2 : wr.cell? ⟨g', off' + k, none⟩ = some (.int .i64 ((ys.getD k 0 : Nat) : Int)) := by
        refine HH.cell ?_ (fun h => h)
        rw [hj' k (by rw [ints_length, Hm.out]; omega), nums_get _ k (by rw [ints_length, Hm.out]; omega), ints_get]
      have hst := lexlt_drop_eq xs ys k (by rw [Hn.out]; exact hlt) (by rw [Hm.out]; exact hlt)
      have HST := Lib.hid hst
      have HHH := Lib.hid HH
      clear hj hj' hg hg' hc hc' e2 f2 hst HH
      generalize xs.getD k 0 = X at *
      generalize ys.getD k 0 = Y at *
      have s1 : (0 : Int) ≤ (k : Int) := by omega
      have s2 : (k : Int) < (n : Int) := by omega
      have s3 : decide (k < n) = true := by simp; omega
      by_cases hXY : X = Y
      · subst hXY
        have t2 : ((X : Int) != (X : Int)) = false := by simp
        have HL2 : Hid (R = lexlt (xs.drop (k + 1)) (ys.drop (k + 1))) := by show _ = _; rw [HL.out, HST.out, if_pos rfl]
        go_wp2_with fail
        go_quiet (fail)
        go_wp2_with fail
        go_roundg (n - (k + 1))
        case measure => omega
        case rel => exact ⟨k + 1, by go_num, rfl, by omega, HE.out.drewN' _, HL2.out⟩
      · have t2 : ((X : Int) != (Y : Int)) = true := by simp; omega
        have HL2 : Hid (R = decide ((X : Int) < (Y : Int))) := by show _ = _; rw [HL.out, HST.out, if_neg hXY]; simp
        clear hXY
        obtain hr := HL2.out
        subst hr
        clear HL2 HL HST
        go_wp2_with fail
        go_quiet (fail)
        go_wp2_with fail
        go_quiet (fail)
        go_wp2_with fail
        go_ret
        exact ⟨by first | rfl | simp, (HHH.out.drewN' _).drewN' _⟩
    · obtain rfl : k = n := by omega
      have s3 : decide ((k : Int) < (k : Int)) = false := by simp
      have s4 : decide (k < k) = false := by simp
      have hz : R = false := by
        rw [HL.out, List.drop_of_length_le (by rw [Hn.out]; exact Nat.le_refl _), List.drop_of_length_le (by rw [Hm.out]; exact Nat.le_refl _)]; rfl
      subst hz
      clear HL
      go_wp2_with fail
      go_ret
      exact ⟨rfl, HU.out.trans HE.out⟩
theorem better_any (S T : Nat → Prop) (v1 v2 : Value) (xs ys : List Nat) (c1 c2 : Int) (w : World) (h1 : NumR S w v1 (ints xs)) (h2 : NumR T w v2 (ints ys)) (hl1 : xs.length ≤ 100000000) (hl2 : ys.length ≤ 100000000) :
    Calls Try.prog 47 #[.agg #[v1, .int .i64 c1], .agg #[v2, .int .i64 c2]] w fun e w' => e = .returned (.bool (betB c1 c2 xs ys)) ∧ Ext w w' := by
  unfold betB
  by_cases hc : c1 = c2
  · rw [if_pos hc]
    by_cases hne : xs.length = ys.length
    · rw [if_pos hne]; exact better_c S T v1 v2 xs ys c1 c2 w h1 h2 hl1 hl2 hc hne
    · rw [if_neg hne]; exact better_b S T v1 v2 xs ys c1 c2 w h1 h2 hl1 hl2 hc hne
  · rw [if_neg hc]; exact better_a S T v1 v2 xs ys c1 c2 w h1 h2 hl1 hl2 hc

end Go.Proofs.Ythpekfpeoglbgaa
