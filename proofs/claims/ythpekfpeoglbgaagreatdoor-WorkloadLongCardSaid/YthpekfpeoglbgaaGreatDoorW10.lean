/- Arities; the greatest and the least; what is the same. -/
import Derived.Test.YthpekfpeoglbgaaGreatDoorW9
import Derived.Deep.RegionHeld3
namespace Go.Proofs.YthpekfpeoglbgaaGreatDoor
open Go.RowKit Go.Hw
set_option linter.unusedVariables false
set_option linter.unusedSimpArgs false

theorem ar_zeros (kind code : Int) (n : Nat) (h1 : 1 ≤ code) (h2 : code ≤ nW kind) (h3 : 0 ≤ ar kind code) : validOp kind ⟨code, List.replicate n 0⟩ = decide ((n : Int) = ar kind code) := by
  unfold validOp
  simp only [List.length_replicate]
  rw [decide_eq_true ⟨h1, h2⟩, Bool.true_and, if_neg (by omega)]
  have : (List.replicate n (0 : Int)).all keyB = true := by rw [List.all_eq_true]; intro x hx; rw [List.eq_of_mem_replicate hx]; decide
  rw [this, Bool.and_true]
set_option maxHeartbeats 1000000 in
/-- workload.arity -/
theorem arity_any (kind code : Int) (w : World) (h1 : 1 ≤ code) (h2 : code ≤ nW kind) (h3 : 0 ≤ ar kind code) :
    Calls Tryz.prog 42 #[.int .i64 kind, .int .i64 code] w fun e w' => e = .returned (.int .i64 (ar kind code)) ∧ Ext w w' := by
  obtain ⟨i0, hi, hz0, hz1, hz2⟩ := info_parts info3
  have hb := ar_bd kind code
  obtain ⟨q, hq⟩ := Int.eq_ofNat_of_zero_le h3
  have HV : Hid (∀ n : Nat, n ≤ 4 → ∀ W : World, Calls Tryz.prog 37 #[.int .i64 kind, .agg #[.int .i64 code, .slice (some ⟨W.heap.size, 0, none⟩) n n]] (W.alloc (.cells (madeCells #[.int .i64 0] n) 3)) fun e w' => e = .returned (.bool (decide ((n : Int) = q))) ∧ Ext (W.alloc (.cells (madeCells #[.int .i64 0] n) 3)) w') := by
    intro n hn W
    have hr : NumR (fun _ => True) (W.alloc (.cells (madeCells #[.int .i64 0] n) 3)) (.slice (some ⟨W.heap.size, 0, none⟩) n n) (List.replicate n 0) := by
      unfold NumR
      rw [List.length_replicate]
      refine SlR.mk' (by simp [nums]) rfl (Nat.le_refl _) (fun _ => trivial) (fun j hj => ?_)
      rw [cell_of_row _ _ _ _ _ _ (alloc0 _ _), Nat.zero_add, made_get _ _ _ (by omega), nums_get _ _ (by simp; omega)]
      rw [show (List.replicate n (0 : Int)).getD j 0 = 0 by rw [List.getD_eq_getElem?_getD, List.getElem?_replicate]; split <;> rfl]
    have := vop_any kind ⟨code, List.replicate n 0⟩ _ (W.alloc (.cells (madeCells #[.int .i64 0] n) 3)) _ hr (by simp; omega)
    rw [ar_zeros kind code n h1 h2 h3, hq] at this
    exact this
  have HM : Hid (∀ n : Nat, n ≤ 4 → ∀ W : World, (Instr.makeSlice 38 (.int .i64 (n : Int)) (.int .i64 (n : Int))).run Tryz.prog W = .ok (.slice (some ⟨W.heap.size, 0, none⟩) n n) (W.alloc (.cells (madeCells #[.int .i64 0] n) 3))) :=
    fun n hn W => made_one Tryz.prog 38 3 i0 (.int .i64 0) Tryz.underlying38 hi hz0 hz1 rfl (by rw [hz2]; omega) n (by omega) W
  rw [hq]
  have hq4 : q ≤ 4 := by omega
  clear hz0 hz1 hz2 hi h3 hb hq
  go_enter Tryz.func42, Tryz.ntmps42
  go_wp2_with fail
  go_loopg [5] (q) (fun gk i wr => ∃ j : Nat, i = .int .i64 j ∧ gk = q - j ∧ j ≤ q ∧ Hid (Ext w wr))
  case atStart => exact ⟨0, rfl, rfl, Nat.zero_le _, Upd.refl _ _⟩
  case round =>
    obtain ⟨j, rfl, rfl, hj, HE⟩ := hrel
    have hmk := HM.out j (by omega)
    have HC := Lib.hid (HV.out j (by omega) wr)
    by_cases hlt : j < q
    · rw [show decide ((j : Int) = q) = false by simp; omega] at HC
      go_wp2_with fail
      refine HC.out.mono ?_
      rintro e w2 ⟨rfl, h2⟩
      have H2 := Lib.hid ((HE.out.alloc _).ext h2)
      clear h2
      go_wp2_with fail
      go_roundg (q - (j + 1))
      case measure => omega
      case rel => exact ⟨j + 1, by go_num, rfl, by omega, H2⟩
    · obtain rfl : j = q := by omega
      rw [show decide ((j : Int) = j) = true by simp] at HC
      go_wp2_with fail
      refine HC.out.mono ?_
      rintro e w2 ⟨rfl, h2⟩
      have H2 := Lib.hid ((HE.out.alloc _).ext h2)
      clear h2
      go_wp2_with fail
      go_ret
      exact ⟨rfl, H2.out⟩

theorem minL_take (l : List Int) (j : Nat) (h0 : 0 < j) (h : j < l.length) : minL (l.take (j + 1)) = min (minL (l.take j)) (l.getD j 0) := by
  rw [List.take_succ_eq_append_getElem h, minL_snoc _ _ (by intro e; rw [List.take_eq_nil_iff] at e; rcases e with e | e; omega; subst e; simp at h)]
  simp [h]
theorem maxL_take (l : List Int) (j : Nat) (h0 : 0 < j) (h : j < l.length) : maxL (l.take (j + 1)) = max (maxL (l.take j)) (l.getD j 0) := by
  rw [List.take_succ_eq_append_getElem h, maxL_snoc _ _ (by intro e; rw [List.take_eq_nil_iff] at e; rcases e with e | e; omega; subst e; simp at h)]
  simp [h]

set_option maxHeartbeats 1000000 in
theorem smax_any (S : Nat → Prop) (v : Value) (l : List Int) (w : World) (h : NumR S w v l) (hl : l.length ≤ 100000000) (h0 : 0 < l.length) :
    Calls Tryz.prog 69 #[v] w fun e w' => e = .returned (.int .i64 (maxL l)) ∧ w = w' := by
  obtain ⟨g, off, cap, hv, hc, hg, hcell⟩ := h.pos h0
  subst hv
  have HC := Lib.hid hcell
  have cz : w.cell? ⟨g, off, none⟩ = some (.int .i64 (maxL (l.take 1))) := by
    have := hcell 0 (by omega)
    rw [nums_get l 0 h0] at this
    simp only [Nat.add_zero] at this
    rw [this]
    cases l with
    | nil => simp at h0
    | cons x r => rfl
  have hpos : (0 : Int) < l.length := by omega
  clear hcell h hg
  go_enter Tryz.func69, Tryz.ntmps69
  go_wp2_with fail
  go_loopg [3, 4] (l.length - 1) (fun gk m i wr => ∃ j : Nat, i = .int .i64 j ∧ m = .int .i64 (maxL (l.take j)) ∧ gk = l.length - j ∧ 1 ≤ j ∧ j ≤ l.length ∧ wr = w)
  case atStart => exact ⟨1, rfl, rfl, rfl, Nat.le_refl _, by omega, rfl⟩
  case round =>
    obtain ⟨j, rfl, rfl, rfl, hj1, hj, rfl⟩ := hrel
    by_cases hlt : j < l.length
    · have hcel : wr.cell? ⟨g, off + j, none⟩ = some (.int .i64 (l.getD j 0)) := by rw [HC.out j (by omega), nums_get l j hlt]
      have i0' : (0 : Int) ≤ (j : Int) := by omega
      have i1' : (j : Int) < (l.length : Int) := by omega
      have Hs := Lib.hid (maxL_take l j (by omega) hlt)
      generalize maxL (l.take j) = M at *
      generalize l.getD j 0 = X at *
      clear cz
      go_wp2_with fail
      all_goals
        go_roundg (l.length - (j + 1))
        case measure => omega
        case rel => exact ⟨j + 1, by go_num, by rw [Hs.out]; congr 1; omega, rfl, by omega, by omega, rfl⟩
    · obtain rfl : j = l.length := by omega
      have Ht : Hid (l.take l.length = l) := List.take_length
      clear cz
      go_wp2_with fail
      go_ret
      exact ⟨by rw [← congrArg maxL Ht.out]; rfl, rfl⟩

set_option maxHeartbeats 1000000 in
/-- ValidProfile's test -/
theorem clo31_any (x : Int) (w : World) : Calls Tryz.prog 68 #[.int .i64 x] w fun e w' => e = .returned (.bool (!wtB x)) ∧ w = w' := by
  by_cases h1 : 0 ≤ x <;> by_cases h2 : x ≤ 2000
  all_goals
    go_enter Tryz.func68, Tryz.ntmps68
    go_wp2
    go_ret
    exact ⟨by simp [wtB, h1, h2], rfl⟩
theorem take_ext {a b : List Int} {k : Nat} (h : a.take k = b.take k) (h1 : k < a.length) (h2 : k < b.length) (he : a.getD k 0 = b.getD k 0) : a.take (k + 1) = b.take (k + 1) := by
  rw [List.take_succ_eq_append_getElem h1, List.take_succ_eq_append_getElem h2, h]
  simp [h1, h2] at he
  rw [he]

set_option maxRecDepth 100000 in
set_option maxHeartbeats 1000000 in
theorem samelist_any (S T : Nat → Prop) (v1 v2 : Value) (xs ys : List Int) (w : World) (h1 : NumR S w v1 xs) (h2 : NumR T w v2 ys) (hl1 : xs.length ≤ 100000000) (hl2 : ys.length ≤ 100000000) :
    Calls Tryz.prog 56 #[v1, v2] w fun e w' => e = .returned (.bool (decide (xs = ys))) ∧ ∃ n, w' = w.drewN n := by
  obtain ⟨R, hR⟩ : ∃ R, R = decide (xs = ys) := ⟨_, rfl⟩
  rw [← hR]
  by_cases hlen : xs.length = ys.length
  · obtain ⟨a, cap, hv⟩ := h1.shape
    obtain ⟨b, cap2, hv2⟩ := h2.shape
    rw [← hlen] at hv2
    subst hv; subst hv2
    have H1 := Lib.hid h1
    have H2 := Lib.hid h2
    have Hlen := Lib.hid hlen
    have HR := Lib.hid hR
    have t0 : ((xs.length : Int) != (xs.length : Int)) = false := by simp
    clear h1 h2 hlen hR hl2
    go_enter Tryz.func56, Tryz.ntmps56
    go_wp2_with fail
    go_loopg [5] xs.length (fun gk i wr => ∃ k m : Nat, i = .int .i64 k ∧ gk = xs.length - k ∧ k ≤ xs.length ∧ wr = w.drewN m ∧ Hid (xs.take k = ys.take k))
    case atStart => exact ⟨0, 0, rfl, rfl, Nat.zero_le _, rfl, rfl⟩
    case round =>
      obtain ⟨k, m, rfl, rfl, hk, rfl, Hk⟩ := hrel
      by_cases hlt : k < xs.length
      · have hlt2 : k < ys.length := by have := Hlen.out; omega
        obtain ⟨g, off, cap', hv, hc, hg, hj⟩ := H1.out.pos (by omega)
        obtain ⟨g', off', cap2', hv', hc', hg', hj'⟩ := H2.out.pos (by omega)
        rw [← Hlen.out] at hv'
        injection hv with e1 e2 e3
        injection hv' with f1 f2 f3
        subst e1; subst e3; subst f1; subst f3
        have c1 : w.cell? ⟨g, off + k, none⟩ = some (.int .i64 (xs.getD k 0)) := by rw [hj k (by omega), nums_get xs k hlt]
        have c2 : w.cell? ⟨g', off' + k, none⟩ = some (.int .i64 (ys.getD k 0)) := by rw [hj' k (by omega), nums_get ys k hlt2]
        have HX := Lib.hid (take_ext Hk.out hlt hlt2)
        have hne : Hid (xs.getD k 0 ≠ ys.getD k 0 → xs ≠ ys) := fun h e => h (by rw [e])
        clear hj hj' hg hg' hc hc' e2 f2 hlt2
        generalize xs.getD k 0 = X at *
        generalize ys.getD k 0 = Y at *
        have s1 : (0 : Int) ≤ (k : Int) := by omega
        have s2 : (k : Int) < (xs.length : Int) := by omega
        by_cases hXY : X = Y
        · subst hXY
          have t1 : (X != X) = false := by simp
          have Hs := Lib.hid (HX.out rfl)
          clear Hk HX hne
          go_wp2_with fail
          go_quiet (fail)
          go_wp2_with fail
          go_roundg (xs.length - (k + 1))
          case measure => omega
          case rel => exact ⟨k + 1, m + nq, by go_num, rfl, by omega, rfl, Hs⟩
        · have t1 : (X != Y) = true := by simpa using hXY
          have hr : R = false := by rw [HR.out]; simpa using hne.out hXY
          subst hr
          clear hXY Hk HX hne HR
          go_wp2_with fail
          go_quiet (fail)
          go_wp2_with fail
          go_ret
          exact ⟨rfl, m + nq, World.drewN_drewN _ _ _⟩
      · have he : k = xs.length := by omega
        have hr : R = true := by
          rw [HR.out]
          have h3 := Hk.out
          rw [List.take_of_length_le (by omega), List.take_of_length_le (by have := Hlen.out; omega)] at h3
          simpa using h3
        subst hr
        clear Hk HR
        go_wp2_with fail
        go_ret
        exact ⟨rfl, m, rfl⟩
  · obtain ⟨a, cap, hv⟩ := h1.shape
    obtain ⟨b, cap2, hv2⟩ := h2.shape
    subst hv; subst hv2
    have hr : R = false := by rw [hR]; simp; intro e; exact hlen (by rw [e])
    subst hr
    have t0 : ((xs.length : Int) != (ys.length : Int)) = true := by simp; omega
    clear hR h1 h2 hlen
    go_enter Tryz.func56, Tryz.ntmps56
    go_wp2_with fail
    go_ret
    exact ⟨rfl, 0, rfl⟩

set_option maxRecDepth 100000 in
set_option maxHeartbeats 1000000 in
theorem sequal_any (S T : Nat → Prop) (v1 v2 : Value) (xs ys : List Int) (w : World) (h1 : NumR S w v1 xs) (h2 : NumR T w v2 ys) (hl1 : xs.length ≤ 100000000) (hl2 : ys.length ≤ 100000000) :
    Calls Tryz.prog 18 #[v1, v2] w fun e w' => e = .returned (.bool (decide (xs = ys))) ∧ ∃ n, w' = w.drewN n := by
  obtain ⟨R, hR⟩ : ∃ R, R = decide (xs = ys) := ⟨_, rfl⟩
  rw [← hR]
  by_cases hlen : xs.length = ys.length
  · obtain ⟨a, cap, hv⟩ := h1.shape
    obtain ⟨b, cap2, hv2⟩ := h2.shape
    rw [← hlen] at hv2
    subst hv; subst hv2
    have H1 := Lib.hid h1
    have H2 := Lib.hid h2
    have Hlen := Lib.hid hlen
    have HR := Lib.hid hR
    have t0 : ((xs.length : Int) != (xs.length : Int)) = false := by simp
    clear h1 h2 hlen hR hl2
    go_enter Tryz.func18, Tryz.ntmps18
    go_wp2_with fail
    go_loopg [13] xs.length (fun gk i wr => ∃ k m : Nat, i = .int .i64 k ∧ gk = xs.length - k ∧ k ≤ xs.length ∧ wr = w.drewN m ∧ Hid (xs.take k = ys.take k))
    case atStart => exact ⟨0, 0, rfl, rfl, Nat.zero_le _, rfl, rfl⟩
    case round =>
      obtain ⟨k, m, rfl, rfl, hk, rfl, Hk⟩ := hrel
      by_cases hlt : k < xs.length
      · have hlt2 : k < ys.length := by have := Hlen.out; omega
        obtain ⟨g, off, cap', hv, hc, hg, hj⟩ := H1.out.pos (by omega)
        obtain ⟨g', off', cap2', hv', hc', hg', hj'⟩ := H2.out.pos (by omega)
        rw [← Hlen.out] at hv'
        injection hv with e1 e2 e3
        injection hv' with f1 f2 f3
        subst e1; subst e3; subst f1; subst f3
        have c1 : w.cell? ⟨g, off + k, none⟩ = some (.int .i64 (xs.getD k 0)) := by rw [hj k (by omega), nums_get xs k hlt]
        have c2 : w.cell? ⟨g', off' + k, none⟩ = some (.int .i64 (ys.getD k 0)) := by rw [hj' k (by omega), nums_get ys k hlt2]
        have HX := Lib.hid (take_ext Hk.out hlt hlt2)
        have hne : Hid (xs.getD k 0 ≠ ys.getD k 0 → xs ≠ ys) := fun h e => h (by rw [e])
        clear hj hj' hg hg' hc hc' e2 f2 hlt2
        generalize xs.getD k 0 = X at *
        generalize ys.getD k 0 = Y at *
        have s1 : (0 : Int) ≤ (k : Int) := by omega
        have s2 : (k : Int) < (xs.length : Int) := by omega
        by_cases hXY : X = Y
        · subst hXY
          have t1 : (X != X) = false := by simp
          have Hs := Lib.hid (HX.out rfl)
          clear Hk HX hne
          go_wp2_with fail
          go_quiet (fail)
          go_wp2_with fail
          go_roundg (xs.length - (k + 1))
          case measure => omega
          case rel => exact ⟨k + 1, m + nq, by go_num, rfl, by omega, rfl, Hs⟩
        · have t1 : (X != Y) = true := by simpa using hXY
          have hr : R = false := by rw [HR.out]; simpa using hne.out hXY
          subst hr
          clear hXY Hk HX hne HR
          go_wp2_with fail
          go_quiet (fail)
          go_wp2_with fail
          go_ret
          exact ⟨rfl, m + nq, World.drewN_drewN _ _ _⟩
      · have he : k = xs.length := by omega
        have hr : R = true := by
          rw [HR.out]
          have h3 := Hk.out
          rw [List.take_of_length_le (by omega), List.take_of_length_le (by have := Hlen.out; omega)] at h3
          simpa using h3
        subst hr
        clear Hk HR
        go_wp2_with fail
        go_ret
        exact ⟨rfl, m, rfl⟩
  · obtain ⟨a, cap, hv⟩ := h1.shape
    obtain ⟨b, cap2, hv2⟩ := h2.shape
    subst hv; subst hv2
    have hr : R = false := by rw [hR]; simp; intro e; exact hlen (by rw [e])
    subst hr
    have t0 : ((xs.length : Int) != (ys.length : Int)) = true := by simp; omega
    clear hR h1 h2 hlen
    go_enter Tryz.func18, Tryz.ntmps18
    go_wp2_with fail
    go_ret
    exact ⟨rfl, 0, rfl⟩

set_option maxHeartbeats 400000 in
/-- heartwoodref03.SameOp -/
theorem sameop_any (S T : Nat → Prop) (v1 v2 : Value) (o p : OpM) (w : World) (h1 : NumR S w v1 o.args) (h2 : NumR T w v2 p.args) (hl1 : o.args.length ≤ 100000000) (hl2 : p.args.length ≤ 100000000) :
    Calls Tryz.prog 27 #[.agg #[.int .i64 o.code, v1], .agg #[.int .i64 p.code, v2]] w fun e w' => e = .returned (.bool (decide (o = p))) ∧ Ext w w' := by
  obtain ⟨c, xs⟩ := o
  obtain ⟨d, ys⟩ := p
  simp only at *
  obtain ⟨a, cap, hv⟩ := h1.shape
  obtain ⟨b, cap2, hv2⟩ := h2.shape
  subst hv; subst hv2
  have hu : Ext w ((w.alloc (.cells #[.int .i64 c, .slice a xs.length cap] 40)).alloc (.cells #[.int .i64 d, .slice b ys.length cap2] 40)) := ((Upd.refl _ w).alloc _).alloc _
  have HC := Lib.hid (samelist_any S T _ _ xs ys _ (h1.kept hu (fun _ _ h => h)) (h2.kept hu (fun _ _ h => h)) hl1 hl2)
  have HU := Lib.hid hu
  obtain ⟨R, hR⟩ : ∃ R, R = decide ((⟨c, xs⟩ : OpM) = ⟨d, ys⟩) := ⟨_, rfl⟩
  rw [← hR]
  have HR : Hid (R = (decide (c = d) && decide (xs = ys))) := by show R = _; rw [hR, Bool.eq_iff_iff]; simp
  clear h1 h2 hu hR
  generalize xs.length = m at *
  generalize ys.length = n at *
  generalize decide (xs = ys) = E at *
  by_cases hcd : c = d
  · subst hcd
    have t1 : (c == c) = true := by simp
    obtain rfl : R = E := by rw [HR.out]; simp
    clear HR
    go_enter Tryz.func27, Tryz.ntmps27
    go_wp2_with fail
    refine HC.out.mono ?_
    rintro e w2 ⟨rfl, k, rfl⟩
    go_wp2_with fail
    go_ret
    exact ⟨rfl, HU.out.drewN' _⟩
  · have t1 : (c == d) = false := by simpa using hcd
    obtain rfl : R = false := by rw [HR.out]; simp [hcd]
    clear HR hcd
    go_enter Tryz.func27, Tryz.ntmps27
    go_wp2_with fail
    go_ret
    exact ⟨rfl, HU.out⟩
theorem take_opv {a b : List OpV} {k : Nat} (h : (opsL a).take k = (opsL b).take k) (h1 : k < a.length) (h2 : k < b.length) (he : (a.getD k .zero).op = (b.getD k .zero).op) : (opsL a).take (k + 1) = (opsL b).take (k + 1) := by
  rw [List.take_succ_eq_append_getElem (by rw [opsL_length]; exact h1), List.take_succ_eq_append_getElem (by rw [opsL_length]; exact h2), h]
  simp [h1, h2] at he
  simp [opsL, he]
theorem opsL_getD (l : List OpV) (k : Nat) : ((l.map (·.op)).getD k ⟨0, []⟩) = (l.getD k .zero).op := by
  by_cases h : k < l.length
  · simp [h]
  · simp [List.getD, List.getElem?_eq_none (by omega : l.length ≤ k), OpV.zero]
set_option maxRecDepth 100000 in
set_option maxHeartbeats 1000000 in
/-- heartwoodref03.SameOps -/
theorem sameops_any (S T : Nat → Prop) (v1 v2 : Value) (xs ys : List OpV) (w : World) (h1 : OpsR S w v1 xs) (h2 : OpsR T w v2 ys) (hl1 : xs.length ≤ 100000000) (hl2 : ys.length ≤ 100000000)
    (ha : ∀ o ∈ xs, o.op.args.length ≤ 100000000) (hb : ∀ o ∈ ys, o.op.args.length ≤ 100000000) :
    Calls Tryz.prog 9 #[v1, v2] w fun e w' => e = .returned (.bool (decide (opsL xs = opsL ys))) ∧ Ext w w' := by
  obtain ⟨R, hR⟩ : ∃ R, R = decide (opsL xs = opsL ys) := ⟨_, rfl⟩
  rw [← hR]
  by_cases hlen : xs.length = ys.length
  · obtain ⟨a, cap, hv⟩ := h1.shape
    obtain ⟨b, cap2, hv2⟩ := h2.shape
    rw [← hlen] at hv2
    subst hv; subst hv2
    have H1 := Lib.hid h1
    have H2 := Lib.hid h2
    have HA := Lib.hid ha
    have HB := Lib.hid hb
    have Hlen := Lib.hid hlen
    have HR := Lib.hid hR
    have t0 : ((xs.length : Int) != (xs.length : Int)) = false := by simp
    clear h1 h2 hlen hR hl2 ha hb
    go_enter Tryz.func9, Tryz.ntmps9
    go_wp2_with fail
    go_loopg [5] xs.length (fun gk i wr => ∃ k : Nat, i = .int .i64 k ∧ gk = xs.length - k ∧ k ≤ xs.length ∧ Hid (Ext w wr) ∧ Hid ((opsL xs).take k = (opsL ys).take k))
    case atStart => exact ⟨0, rfl, rfl, Nat.zero_le _, Upd.refl _ _, rfl⟩
    case round =>
      obtain ⟨k, rfl, rfl, hk, HE, Hk⟩ := hrel
      by_cases hlt : k < xs.length
      · have hlt2 : k < ys.length := by have := Hlen.out; omega
        obtain ⟨g, off, cap', hv, hc, hg, c0, c1, hn1⟩ := (H1.out.kept HE.out (fun _ _ h => h)).at hlt
        obtain ⟨g', off', cap2', hv', hc', hg', d0, d1, hn2⟩ := (H2.out.kept HE.out (fun _ _ h => h)).at hlt2
        rw [← Hlen.out] at hv'
        injection hv with e1 e2 e3
        injection hv' with f1 f2 f3
        subst e1; subst e3; subst f1; subst f3
        have HX := Lib.hid (take_opv Hk.out hlt hlt2)
        have hne : Hid ((xs.getD k .zero).op ≠ (ys.getD k .zero).op → opsL xs ≠ opsL ys) := fun h e => h (by
          have := congrArg (fun l => l.getD k ⟨0, []⟩) e
          rw [← opsL_getD xs k, ← opsL_getD ys k]
          exact this)
        have HC : Hid (∀ W, Ext wr W → Calls Tryz.prog 27 #[.agg #[.int .i64 (xs.getD k .zero).op.code, (xs.getD k .zero).v], .agg #[.int .i64 (ys.getD k .zero).op.code, (ys.getD k .zero).v]] W fun e w' => e = .returned (.bool (decide ((xs.getD k .zero).op = (ys.getD k .zero).op))) ∧ Ext W w') := fun W hW =>
          sameop_any S T _ _ _ _ W (hn1.kept hW (fun _ _ h => h)) (hn2.kept hW (fun _ _ h => h)) (HA.out _ (getD_mem hlt)) (HB.out _ (getD_mem hlt2))
        obtain ⟨a1, q1, hs1⟩ := hn1.shape
        obtain ⟨a2, q2, hs2⟩ := hn2.shape
        rw [hs1] at c1 HC
        rw [hs2] at d1 HC
        clear hg hg' hc hc' e2 f2 hlt2 hn1 hn2 hs1 hs2
        generalize hX : (xs.getD k .zero).op = X at *
        generalize hY : (ys.getD k .zero).op = Y at *
        clear hX hY
        have s1 : (0 : Int) ≤ (k : Int) := by omega
        have s2 : (k : Int) < (xs.length : Int) := by omega
        have hx0 : Ext wr wr.drew := (Upd.refl _ wr).drew
        have Hc0 := Lib.hid c0
        have Hc1 := Lib.hid c1
        have Hd0 := Lib.hid d0
        have Hd1 := Lib.hid d1
        by_cases hXY : X = Y
        · have Hs := Lib.hid (HX.out hXY)
          rw [decide_eq_true hXY] at HC
          clear Hk HX hne hXY
          obtain ⟨cx, lx⟩ := X
          obtain ⟨cy, ly⟩ := Y
          generalize lx.length = m1 at *
          generalize ly.length = m2 at *
          simp only at *
          go_wp2_with fail
          go_region_held3 (fun w' => w'.cell? ⟨g, off + k * 2, none⟩ = some (.int .i64 cx) ∧ w'.cell? ⟨g, off + k * 2 + 1, none⟩ = some (.slice a1 m1 q1) ∧ w'.cell? ⟨g', off' + k * 2, none⟩ = some (.int .i64 cy) ∧ w'.cell? ⟨g', off' + k * 2 + 1, none⟩ = some (.slice a2 m2 q2))
            (first | go_keep | (exact ⟨Upd.cell (F := fun _ => False) (by assumption) Hc0.out (fun h => h), Upd.cell (F := fun _ => False) (by assumption) Hc1.out (fun h => h), Upd.cell (F := fun _ => False) (by assumption) Hd0.out (fun h => h), Upd.cell (F := fun _ => False) (by assumption) Hd1.out (fun h => h)⟩))
            ((go_at_call 27; refine (HC.out _ (by assumption)).mono ?_; rintro e w5 ⟨rfl, hx5⟩; have hy5 : Ext wr w5 := Upd.ext (by assumption) hx5; clear hx5))
          go_wp2_with fail
          go_roundg (xs.length - (k + 1))
          case measure => omega
          case rel => exact ⟨k + 1, by go_num, rfl, by omega, HE.out.ext hy5, Hs⟩
        · have hr : R = false := by rw [HR.out]; simpa using hne.out hXY
          subst hr
          rw [decide_eq_false hXY] at HC
          clear Hk HX hne HR hXY
          obtain ⟨cx, lx⟩ := X
          obtain ⟨cy, ly⟩ := Y
          generalize lx.length = m1 at *
          generalize ly.length = m2 at *
          simp only at *
          go_wp2_with fail
          go_region_held3 (fun w' => w'.cell? ⟨g, off + k * 2, none⟩ = some (.int .i64 cx) ∧ w'.cell? ⟨g, off + k * 2 + 1, none⟩ = some (.slice a1 m1 q1) ∧ w'.cell? ⟨g', off' + k * 2, none⟩ = some (.int .i64 cy) ∧ w'.cell? ⟨g', off' + k * 2 + 1, none⟩ = some (.slice a2 m2 q2))
            (first | go_keep | (exact ⟨Upd.cell (F := fun _ => False) (by assumption) Hc0.out (fun h => h), Upd.cell (F := fun _ => False) (by assumption) Hc1.out (fun h => h), Upd.cell (F := fun _ => False) (by assumption) Hd0.out (fun h => h), Upd.cell (F := fun _ => False) (by assumption) Hd1.out (fun h => h)⟩))
            ((go_at_call 27; refine (HC.out _ (by assumption)).mono ?_; rintro e w5 ⟨rfl, hx5⟩; have hy5 : Ext wr w5 := Upd.ext (by assumption) hx5; clear hx5))
          go_wp2_with fail
          go_ret
          exact ⟨rfl, HE.out.ext hy5⟩
      · have he : k = xs.length := by omega
        have hr : R = true := by
          rw [HR.out]
          have h3 := Hk.out
          rw [List.take_of_length_le (by rw [opsL_length]; omega), List.take_of_length_le (by rw [opsL_length]; have := Hlen.out; omega)] at h3
          simpa using h3
        subst hr
        clear Hk HR
        go_wp2_with fail
        go_ret
        exact ⟨rfl, HE.out⟩
  · obtain ⟨a, cap, hv⟩ := h1.shape
    obtain ⟨b, cap2, hv2⟩ := h2.shape
    subst hv; subst hv2
    have hr : R = false := by rw [hR]; simp; intro e; exact hlen (by have := congrArg List.length e; rw [opsL_length, opsL_length] at this; exact this)
    subst hr
    have t0 : ((xs.length : Int) != (ys.length : Int)) = true := by simp; omega
    clear hR h1 h2 hlen ha hb
    go_enter Tryz.func9, Tryz.ntmps9
    go_wp2_with fail
    go_ret
    exact ⟨rfl, Upd.refl _ _⟩

end Go.Proofs.YthpekfpeoglbgaaGreatDoor
