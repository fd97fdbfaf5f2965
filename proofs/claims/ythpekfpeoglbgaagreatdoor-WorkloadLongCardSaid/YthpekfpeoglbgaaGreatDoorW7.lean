/- What operations there are, in the reference: the arguments. -/
import Derived.Test.YthpekfpeoglbgaaGreatDoorW6
namespace Go.Proofs.YthpekfpeoglbgaaGreatDoor
open Go.RowKit Go.Hw
set_option linter.unusedVariables false
set_option linter.unusedSimpArgs false

set_option maxRecDepth 100000 in
set_option maxHeartbeats 1000000 in
theorem rvop_mid1 (kind : Int) (o : OpM) (v : Value) (w : World) (S : Nat → Prop) (h : NumR S w v o.args) (hl : o.args.length ≤ 100000000) (hk : 1 ≤ kind) (hk6 : kind ≤ 6) (hc : 1 ≤ o.code) (hc2 : o.code ≤ nW kind) (hp : o.args.length ≤ 64) (hq : 0 ≤ ar kind o.code) (hm : (o.args.length : Int) ≠ ar kind o.code) :
    Calls Tryz.prog 54 #[.int .i64 kind, .agg #[.int .i64 o.code, v]] w fun e w' => e = .returned (.bool false) ∧ Ext w w' := by
  obtain ⟨c, xs⟩ := o
  simp only at *
  obtain ⟨a, cap, hv⟩ := h.shape
  subst hv
  have HN := Lib.hid h
  clear h
  have HB : Hid ((w.alloc (.cells #[.int .i64 c, .slice a xs.length cap] 40)).heap[w.heap.size]? = some (.cells #[.int .i64 c, .slice a xs.length cap] 40)) := alloc0 _ _
  have HX : Hid (Ext w (w.alloc (.cells #[.int .i64 c, .slice a xs.length cap] 40))) := (Upd.refl _ w).alloc _
  have HC : Hid (∀ W, Calls Tryz.prog 53 #[.int .i64 kind] W fun e w' => ∃ a, e = .returned (.slice a (nW kind) (nW kind)) ∧ Ext W w') := fun W => rwords_any kind W
  have HA : Hid (∀ W, Calls Tryz.prog 76 #[.int .i64 kind, .int .i64 c] W fun e w' => e = .returned (.int .i64 (ar kind c)) ∧ Ext W w') := fun W => rarity_any kind c W hc hc2
  have h8 := nW_le kind
  have t1 : decide (kind < 1) = false := by simp; omega
  have t2 : decide (6 < kind) = false := by simp; omega
  have t3 : decide (c < 1) = false := by simp; omega
  have t4 : decide ((nW kind : Int) < c) = false := by simp; omega
  generalize ar kind c = q at *
  generalize xs.length = m at *
  have t5 : decide ((64 : Int) < m) = false := by simp; omega
  have t6 : ((m : Int) != q) = true := by simpa using hm
  go_enter Tryz.func54, Tryz.ntmps54
  go_wp2_with fail
  generalize w.alloc (.cells #[.int .i64 c, .slice a m cap] 40) = w3 at *
  generalize w.heap.size = b at *
  have b0 : w3.cell? ⟨b, 0, none⟩ = some (.int .i64 c) := cellRow HB.out 0 _ rfl
  have b1 : w3.cell? ⟨b, 1, none⟩ = some (.slice a m cap) := cellRow HB.out 1 _ rfl
  have Hb0 := Lib.hid b0
  have Hb1 := Lib.hid b1
  have hx0 : Ext w3 w3.drew := (Upd.refl _ w3).drew
  go_region_held3 (fun w' => w'.cell? ⟨b, 0, none⟩ = some (.int .i64 c) ∧ w'.cell? ⟨b, 1, none⟩ = some (.slice a m cap))
    (first | go_keep | (exact ⟨Upd.cell (F := fun _ => False) (by assumption) Hb0.out (fun h => h), Upd.cell (F := fun _ => False) (by assumption) Hb1.out (fun h => h)⟩))
    ((go_at_call 53; refine (HC.out _).mono ?_; rintro e w5 ⟨a5, rfl, hx5⟩; have hy5 : Ext w3 w5 := Upd.ext (by assumption) hx5; clear hx5))
  go_wp2_with fail
  refine (HA.out _).mono ?_
  rintro e w6 ⟨rfl, hx6⟩
  have hy6 : Ext w3 w6 := hy5.ext hx6
  have d0 : w6.cell? ⟨b, 0, none⟩ = some (.int .i64 c) := hy6.cell Hb0.out (fun h => h)
  have d1 : w6.cell? ⟨b, 1, none⟩ = some (.slice a m cap) := hy6.cell Hb1.out (fun h => h)
  go_wp2_with fail
  go_ret
  exact ⟨rfl, HX.out.ext hy6⟩

set_option maxRecDepth 100000 in
set_option maxHeartbeats 1000000 in
theorem rvop_mid2 (kind : Int) (o : OpM) (v : Value) (w : World) (S : Nat → Prop) (h : NumR S w v o.args) (hl : o.args.length ≤ 100000000) (hk : 1 ≤ kind) (hk6 : kind ≤ 6) (hc : 1 ≤ o.code) (hc2 : o.code ≤ nW kind) (hp : o.args.length ≤ 64) (hq : ar kind o.code < 0) (hm : o.args.length = 0) :
    Calls Tryz.prog 54 #[.int .i64 kind, .agg #[.int .i64 o.code, v]] w fun e w' => e = .returned (.bool false) ∧ Ext w w' := by
  obtain ⟨c, xs⟩ := o
  simp only at *
  obtain ⟨a, cap, hv⟩ := h.shape
  subst hv
  have HN := Lib.hid h
  clear h
  have HB : Hid ((w.alloc (.cells #[.int .i64 c, .slice a xs.length cap] 40)).heap[w.heap.size]? = some (.cells #[.int .i64 c, .slice a xs.length cap] 40)) := alloc0 _ _
  have HX : Hid (Ext w (w.alloc (.cells #[.int .i64 c, .slice a xs.length cap] 40))) := (Upd.refl _ w).alloc _
  have HC : Hid (∀ W, Calls Tryz.prog 53 #[.int .i64 kind] W fun e w' => ∃ a, e = .returned (.slice a (nW kind) (nW kind)) ∧ Ext W w') := fun W => rwords_any kind W
  have HA : Hid (∀ W, Calls Tryz.prog 76 #[.int .i64 kind, .int .i64 c] W fun e w' => e = .returned (.int .i64 (ar kind c)) ∧ Ext W w') := fun W => rarity_any kind c W hc hc2
  have h8 := nW_le kind
  have t1 : decide (kind < 1) = false := by simp; omega
  have t2 : decide (6 < kind) = false := by simp; omega
  have t3 : decide (c < 1) = false := by simp; omega
  have t4 : decide ((nW kind : Int) < c) = false := by simp; omega
  generalize ar kind c = q at *
  generalize xs.length = m at *
  have t5 : decide ((64 : Int) < m) = false := by simp; omega
  have t6 : ((m : Int) == 0) = true := by simpa using hm
  have t7 : decide (0 ≤ q) = false := by simp; omega
  have HM := Lib.hid hm
  clear hm
  go_enter Tryz.func54, Tryz.ntmps54
  go_wp2_with fail
  generalize w.alloc (.cells #[.int .i64 c, .slice a m cap] 40) = w3 at *
  generalize w.heap.size = b at *
  have b0 : w3.cell? ⟨b, 0, none⟩ = some (.int .i64 c) := cellRow HB.out 0 _ rfl
  have b1 : w3.cell? ⟨b, 1, none⟩ = some (.slice a m cap) := cellRow HB.out 1 _ rfl
  have Hb0 := Lib.hid b0
  have Hb1 := Lib.hid b1
  have hx0 : Ext w3 w3.drew := (Upd.refl _ w3).drew
  go_region_held3 (fun w' => w'.cell? ⟨b, 0, none⟩ = some (.int .i64 c) ∧ w'.cell? ⟨b, 1, none⟩ = some (.slice a m cap))
    (first | go_keep | (exact ⟨Upd.cell (F := fun _ => False) (by assumption) Hb0.out (fun h => h), Upd.cell (F := fun _ => False) (by assumption) Hb1.out (fun h => h)⟩))
    ((go_at_call 53; refine (HC.out _).mono ?_; rintro e w5 ⟨a5, rfl, hx5⟩; have hy5 : Ext w3 w5 := Upd.ext (by assumption) hx5; clear hx5))
  go_wp2_with fail
  refine (HA.out _).mono ?_
  rintro e w6 ⟨rfl, hx6⟩
  have hy6 : Ext w3 w6 := hy5.ext hx6
  have d0 : w6.cell? ⟨b, 0, none⟩ = some (.int .i64 c) := hy6.cell Hb0.out (fun h => h)
  have d1 : w6.cell? ⟨b, 1, none⟩ = some (.slice a m cap) := hy6.cell Hb1.out (fun h => h)
  go_wp2_with fail
  go_ret
  exact ⟨rfl, HX.out.ext hy6⟩

theorem any_step (p : Int → Bool) (l : List Int) (k : Nat) (hk : k < l.length) (hp : p (l.getD k 0) = true) : l.any p = true := by
  rw [List.any_eq_true]; exact ⟨_, getD_mem0 hk, hp⟩
theorem any_none (p : Int → Bool) (l : List Int) (h : ∀ j, j < l.length → p (l.getD j 0) = false) : l.any p = false := by
  rw [List.any_eq_false]
  intro x hx
  obtain ⟨j, hj, rfl⟩ := List.getElem_of_mem hx
  have := h j hj
  simp [hj] at this
  simp [this]

set_option maxRecDepth 100000 in
set_option maxHeartbeats 1000000 in
theorem rvop_late (kind : Int) (o : OpM) (v : Value) (w : World) (S : Nat → Prop) (h : NumR S w v o.args) (hl : o.args.length ≤ 100000000) (hk : 1 ≤ kind) (hk6 : kind ≤ 6) (hc : 1 ≤ o.code) (hc2 : o.code ≤ nW kind) (hp : o.args.length ≤ 64) (hq : (0 ≤ ar kind o.code ∧ (o.args.length : Int) = ar kind o.code) ∨ (ar kind o.code < 0 ∧ 0 < o.args.length)) :
    Calls Tryz.prog 54 #[.int .i64 kind, .agg #[.int .i64 o.code, v]] w fun e w' => e = .returned (.bool (!(o.args.any (rbad kind)))) ∧ Ext w w' := by
  obtain ⟨c, xs⟩ := o
  simp only at *
  obtain ⟨a, cap, hv⟩ := h.shape
  subst hv
  have HN := Lib.hid h
  clear h
  have HB : Hid ((w.alloc (.cells #[.int .i64 c, .slice a xs.length cap] 40)).heap[w.heap.size]? = some (.cells #[.int .i64 c, .slice a xs.length cap] 40)) := alloc0 _ _
  have HX : Hid (Ext w (w.alloc (.cells #[.int .i64 c, .slice a xs.length cap] 40))) := (Upd.refl _ w).alloc _
  have HC : Hid (∀ W, Calls Tryz.prog 53 #[.int .i64 kind] W fun e w' => ∃ a, e = .returned (.slice a (nW kind) (nW kind)) ∧ Ext W w') := fun W => rwords_any kind W
  have HA : Hid (∀ W, Calls Tryz.prog 76 #[.int .i64 kind, .int .i64 c] W fun e w' => e = .returned (.int .i64 (ar kind c)) ∧ Ext W w') := fun W => rarity_any kind c W hc hc2
  have h8 := nW_le kind
  have t1 : decide (kind < 1) = false := by simp; omega
  have t2 : decide (6 < kind) = false := by simp; omega
  have t3 : decide (c < 1) = false := by simp; omega
  have t4 : decide ((nW kind : Int) < c) = false := by simp; omega
  generalize ar kind c = q at *
  obtain ⟨R, hR⟩ : ∃ R, R = !(xs.any (rbad kind)) := ⟨_, rfl⟩
  rw [← hR]
  have HR := Lib.hid hR
  clear hR
  generalize hm : xs.length = m at *
  have HM := Lib.hid hm
  clear hm
  have t5 : decide ((64 : Int) < m) = false := by simp; omega
  rcases hq with ⟨hq, hm⟩ | ⟨hq, hm⟩
  have t6 : ((m : Int) != q) = false := by simpa using hm
  have t7 : decide (0 ≤ q) = true := by simpa using hq
  rotate_left
  have t6 : ((m : Int) == 0) = false := by simp; omega
  have t7 : decide (0 ≤ q) = false := by simp; omega
  all_goals
    clear hm
    go_enter Tryz.func54, Tryz.ntmps54
    go_wp2_with fail
    generalize w.alloc (.cells #[.int .i64 c, .slice a m cap] 40) = w3 at *
    generalize w.heap.size = b at *
    have b0 : w3.cell? ⟨b, 0, none⟩ = some (.int .i64 c) := cellRow HB.out 0 _ rfl
    have b1 : w3.cell? ⟨b, 1, none⟩ = some (.slice a m cap) := cellRow HB.out 1 _ rfl
    have Hb0 := Lib.hid b0
    have Hb1 := Lib.hid b1
    have hx0 : Ext w3 w3.drew := (Upd.refl _ w3).drew
    go_region_held3 (fun w' => w'.cell? ⟨b, 0, none⟩ = some (.int .i64 c) ∧ w'.cell? ⟨b, 1, none⟩ = some (.slice a m cap))
      (first | go_keep | (exact ⟨Upd.cell (F := fun _ => False) (by assumption) Hb0.out (fun h => h), Upd.cell (F := fun _ => False) (by assumption) Hb1.out (fun h => h)⟩))
      ((go_at_call 53; refine (HC.out _).mono ?_; rintro e w5 ⟨a5, rfl, hx5⟩; have hy5 : Ext w3 w5 := Upd.ext (by assumption) hx5; clear hx5))
    go_wp2_with fail
    refine (HA.out _).mono ?_
    rintro e w6 ⟨rfl, hx6⟩
    have hy6 : Ext w3 w6 := hy5.ext hx6
    have d0 : w6.cell? ⟨b, 0, none⟩ = some (.int .i64 c) := hy6.cell Hb0.out (fun h => h)
    have d1 : w6.cell? ⟨b, 1, none⟩ = some (.slice a m cap) := hy6.cell Hb1.out (fun h => h)
    have hlt6 : b < w6.heap.size := (Array.getElem?_eq_some_iff.1 (hy6.heap HB.out (fun h => h))).1
    clear b0 b1
    go_wp2_with fail
    go_loopg [6] m (fun gk i wr => ∃ j : Nat, i = .int .i64 j ∧ gk = m - j ∧ j ≤ m ∧ Hid (∀ i, i < j → rbad kind (xs.getD i 0) = false) ∧ wr = w6)
    case atStart => exact ⟨0, rfl, rfl, Nat.zero_le _, fun i h => absurd h (Nat.not_lt_zero _), rfl⟩
    case round =>
      obtain ⟨j, rfl, rfl, hj, Hj, rfl⟩ := hrel
      by_cases hlt : j < m
      · have hlx : j < xs.length := by rw [HM.out]; exact hlt
        obtain ⟨g, off, cap', hv, hcc, hg, hcell⟩ := (HN.out.kept (HX.out.ext hy6) (fun _ _ h => h)).pos (by omega)
        rw [HM.out] at hv
        injection hv with e1 e2 e3
        subst e1; subst e3
        have hcel : wr.cell? ⟨g, off + j, none⟩ = some (.int .i64 (xs.getD j 0)) := by rw [← nums_get xs j hlx]; exact hcell j (by omega)
        have i0' : (0 : Int) ≤ (j : Int) := by omega
        have i1' : (j : Int) < (m : Int) := by omega
        have Hs := Lib.hid (any_step (rbad kind) xs j hlx)
        have HJ : Hid (rbad kind (xs.getD j 0) = false → ∀ i, i < j + 1 → rbad kind (xs.getD i 0) = false) := fun h i hi => by
          by_cases e : i = j
          · subst e; exact h
          · exact Hj.out i (by omega)
        have HK := Lib.hid (rkey_any (xs.getD j 0) wr)
        clear hcell hg hcc e2 hlx
        generalize xs.getD j 0 = X at *
        have HB2 : Hid (rbad kind X = (!keyB X || (decide (kind = 6) && !chrB X))) := rfl
        by_cases hkey : keyB X = true
        · by_cases h6 : kind = 6
          · have u6 : (kind == 6) = true := by simpa using h6
            by_cases hx0 : X < 0
            · have hb : rbad kind X = true := by rw [HB2.out]; simp [hkey, h6, chrB]; omega
              obtain rfl : R = false := by rw [HR.out, Hs.out hb]; rfl
              rw [hkey] at HK
              clear hkey h6 hb HB2 HR Hs
              go_wp2_with fail
              refine HK.out.mono ?_
              rintro e w7 ⟨rfl, rfl⟩
              go_wp2_with fail
              go_ret
              exact ⟨rfl, HX.out.ext hy6⟩
            · by_cases hx1 : 255 < X
              · have hb : rbad kind X = true := by rw [HB2.out]; simp [hkey, h6, chrB]; omega
                obtain rfl : R = false := by rw [HR.out, Hs.out hb]; rfl
                rw [hkey] at HK
                clear hkey h6 hb HB2 HR Hs
                go_wp2_with fail
                refine HK.out.mono ?_
                rintro e w7 ⟨rfl, rfl⟩
                go_wp2_with fail
                go_ret
                exact ⟨rfl, HX.out.ext hy6⟩
              · have hb : rbad kind X = false := by rw [HB2.out]; simp [hkey, h6, chrB]; omega
                have HJ2 := Lib.hid (HJ.out hb)
                rw [hkey] at HK
                clear hkey h6 hb HB2 HJ Hs
                go_wp2_with fail
                refine HK.out.mono ?_
                rintro e w7 ⟨rfl, rfl⟩
                go_wp2_with fail
                go_roundg (m - (j + 1))
                case measure => omega
                case rel => exact ⟨j + 1, by go_num, rfl, by omega, HJ2, rfl⟩
          · have u6 : (kind == 6) = false := by simpa using h6
            have hb : rbad kind X = false := by rw [HB2.out]; simp [hkey, h6]
            have HJ2 := Lib.hid (HJ.out hb)
            rw [hkey] at HK
            clear hkey h6 hb HB2 HJ Hs
            go_wp2_with fail
            refine HK.out.mono ?_
            rintro e w7 ⟨rfl, rfl⟩
            go_wp2_with fail
            go_roundg (m - (j + 1))
            case measure => omega
            case rel => exact ⟨j + 1, by go_num, rfl, by omega, HJ2, rfl⟩
        · have hkey : keyB X = false := by simpa using hkey
          have hb : rbad kind X = true := by rw [HB2.out]; simp [hkey]
          obtain rfl : R = false := by rw [HR.out, Hs.out hb]; rfl
          rw [hkey] at HK
          clear hkey hb HB2 HR Hs
          go_wp2_with fail
          refine HK.out.mono ?_
          rintro e w7 ⟨rfl, rfl⟩
          go_wp2_with fail
          go_ret
          exact ⟨rfl, HX.out.ext hy6⟩
      · obtain rfl : R = true := by rw [HR.out, any_none (rbad kind) xs (fun i hi => Hj.out i (by have := HM.out; omega))]; rfl
        clear HR
        go_wp2_with fail
        go_ret
        exact ⟨rfl, HX.out.ext hy6⟩

/-- heartwoodref03.ValidOp -/
theorem rvop_any (kind : Int) (o : OpM) (v : Value) (w : World) (S : Nat → Prop) (h : NumR S w v o.args) (hl : o.args.length ≤ 100000000) :
    Calls Tryz.prog 54 #[.int .i64 kind, .agg #[.int .i64 o.code, v]] w fun e w' => e = .returned (.bool (validOp kind o)) ∧ Ext w w' := by
  rw [validOp_ref]
  by_cases hk : kind < 1 ∨ 6 < kind
  · have : ¬ rpre kind o := by unfold rpre; have := nW_known kind; omega
    rw [decide_eq_false this]
    exact rvop_pre1 kind o v w S h hl hk
  by_cases hc : o.code < 1
  · have : ¬ rpre kind o := by unfold rpre; omega
    rw [decide_eq_false this]
    exact rvop_pre2 kind o v w S h hl (by omega) (by omega) hc
  by_cases hc2 : nW kind < o.code
  · have : ¬ rpre kind o := by unfold rpre; omega
    rw [decide_eq_false this]
    exact rvop_pre3 kind o v w S h hl (by omega) (by omega) (by omega) hc2
  by_cases hp : 64 < o.args.length
  · have : ¬ rpre kind o := by unfold rpre; omega
    rw [decide_eq_false this]
    exact rvop_pre4 kind o v w S h hl (by omega) (by omega) (by omega) (by omega) hp
  by_cases hm1 : 0 ≤ ar kind o.code ∧ (o.args.length : Int) ≠ ar kind o.code
  · have : ¬ rpre kind o := by unfold rpre; omega
    rw [decide_eq_false this]
    exact rvop_mid1 kind o v w S h hl (by omega) (by omega) (by omega) (by omega) (by omega) hm1.1 hm1.2
  by_cases hm2 : ar kind o.code < 0 ∧ o.args.length = 0
  · have : ¬ rpre kind o := by unfold rpre; omega
    rw [decide_eq_false this]
    exact rvop_mid2 kind o v w S h hl (by omega) (by omega) (by omega) (by omega) (by omega) hm2.1 hm2.2
  · have : rpre kind o := by unfold rpre; omega
    rw [decide_eq_true this, Bool.true_and]
    exact rvop_late kind o v w S h hl (by omega) (by omega) (by omega) (by omega) (by omega) (by omega)

end Go.Proofs.YthpekfpeoglbgaaGreatDoor
