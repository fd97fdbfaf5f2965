/- What operations there are, in the reference. -/
import Derived.Test.YthpekfpeoglbgaaGreatDoorW5
import Derived.Test.YthpekfpeoglbgaaGreatDoorW3
import Derived.Deep.RegionHeld3
import Derived.Deep.RegionWith
import Derived.Outline
namespace Go.Proofs.YthpekfpeoglbgaaGreatDoor
open Go.RowKit Go.Hw
set_option linter.unusedVariables false
set_option linter.unusedSimpArgs false

/-- an argument that the reference refuses -/
def rbad (kind x : Int) : Bool := !keyB x || (decide (kind = 6) && !chrB x)
/-- what the reference asks before it looks at the arguments -/
def rpre (kind : Int) (o : OpM) : Prop := 1 ≤ o.code ∧ o.code ≤ nW kind ∧ o.args.length ≤ 64 ∧ ¬ (0 ≤ ar kind o.code ∧ (o.args.length : Int) ≠ ar kind o.code) ∧ ¬ (ar kind o.code < 0 ∧ o.args.length = 0)
instance (kind : Int) (o : OpM) : Decidable (rpre kind o) := by unfold rpre; infer_instance
theorem validOp_ref (kind : Int) (o : OpM) : validOp kind o = (decide (rpre kind o) && !(o.args.any (rbad kind))) := by
  have hb := ar_bd kind o.code
  by_cases hc : 1 ≤ o.code ∧ o.code ≤ nW kind
  · have hn := ar_neg kind o.code hc.1 hc.2
    unfold validOp
    rw [decide_eq_true hc, Bool.true_and]
    by_cases hneg : ar kind o.code < 0
    · rw [if_pos hneg]
      have h6 : kind = 6 := by have := hn.1 hneg; unfold charsB at this; simp at this; exact this.1
      have e : (!(o.args.any (rbad kind))) = o.args.all chrB := by
        rw [show rbad kind = fun x => !chrB x from by
          funext x
          unfold rbad keyB chrB
          simp only [h6, decide_true, Bool.true_and]
          by_cases h : 0 ≤ x ∧ x ≤ 255
          · simp [h]; omega
          · simp [h]]
        exact any_not chrB _
      rw [e]
      congr 1
      apply decide_eq_decide.2
      unfold rpre
      omega
    · rw [if_neg hneg]
      have e0 : (decide (rpre kind o)) = decide ((o.args.length : Int) = ar kind o.code) := by
        apply decide_eq_decide.2
        unfold rpre
        omega
      rw [e0]
      by_cases hl : (o.args.length : Int) = ar kind o.code
      · congr 1
        by_cases h6 : kind = 6
        · have h4 : ar kind o.code = 0 := by
            have : ¬ charsB kind o.code = true := fun hh => hneg (hn.2 hh)
            unfold charsB at this; simp [h6] at this
            rw [this, h6]; decide
          have : o.args = [] := List.eq_nil_of_length_eq_zero (by omega)
          rw [this]; rfl
        · rw [show rbad kind = fun x => !keyB x from by funext x; unfold rbad; simp [h6]]
          exact (any_not keyB _).symm
      · rw [decide_eq_false hl]; rfl
  · unfold validOp
    rw [decide_eq_false hc]
    have : ¬ rpre kind o := by unfold rpre; omega
    rw [decide_eq_false this]; rfl

set_option maxRecDepth 100000 in
set_option maxHeartbeats 1000000 in
theorem rvop_pre1 (kind : Int) (o : OpM) (v : Value) (w : World) (S : Nat → Prop) (h : NumR S w v o.args) (hl : o.args.length ≤ 100000000) (hp : kind < 1 ∨ 6 < kind) :
    Calls Tryz.prog 54 #[.int .i64 kind, .agg #[.int .i64 o.code, v]] w fun e w' => e = .returned (.bool false) ∧ Ext w w' := by
  obtain ⟨c, xs⟩ := o
  simp only at *
  obtain ⟨a, cap, hv⟩ := h.shape
  subst hv
  have HN := Lib.hid h
  clear h
  have HB : Hid ((w.alloc (.cells #[.int .i64 c, .slice a xs.length cap] 40)).heap[w.heap.size]? = some (.cells #[.int .i64 c, .slice a xs.length cap] 40)) := alloc0 _ _
  have HX : Hid (Ext w (w.alloc (.cells #[.int .i64 c, .slice a xs.length cap] 40))) := (Upd.refl _ w).alloc _
  generalize xs.length = m at *
  rcases hp with hp | hp
  have t1 : decide (kind < 1) = true := by simpa using hp
  rotate_left
  have t1 : decide (kind < 1) = false := by simp; omega
  have t2 : decide (6 < kind) = true := by simpa using hp
  all_goals
    go_enter Tryz.func54, Tryz.ntmps54
    go_wp2_with fail
    go_quiet (fail)
    go_wp2_with fail
    go_ret
    exact ⟨rfl, HX.out.drewN' _⟩

set_option maxRecDepth 100000 in
set_option maxHeartbeats 1000000 in
theorem rvop_pre2 (kind : Int) (o : OpM) (v : Value) (w : World) (S : Nat → Prop) (h : NumR S w v o.args) (hl : o.args.length ≤ 100000000) (hk : 1 ≤ kind) (hk6 : kind ≤ 6) (hp : o.code < 1) :
    Calls Tryz.prog 54 #[.int .i64 kind, .agg #[.int .i64 o.code, v]] w fun e w' => e = .returned (.bool false) ∧ Ext w w' := by
  obtain ⟨c, xs⟩ := o
  simp only at *
  obtain ⟨a, cap, hv⟩ := h.shape
  subst hv
  have HN := Lib.hid h
  clear h
  have HB : Hid ((w.alloc (.cells #[.int .i64 c, .slice a xs.length cap] 40)).heap[w.heap.size]? = some (.cells #[.int .i64 c, .slice a xs.length cap] 40)) := alloc0 _ _
  have HX : Hid (Ext w (w.alloc (.cells #[.int .i64 c, .slice a xs.length cap] 40))) := (Upd.refl _ w).alloc _
  generalize xs.length = m at *
  have t1 : decide (kind < 1) = false := by simp; omega
  have t2 : decide (6 < kind) = false := by simp; omega
  have t3 : decide (c < 1) = true := by simpa using hp
  go_enter Tryz.func54, Tryz.ntmps54
  go_wp2_with fail
  go_quiet (fail)
  go_wp2_with fail
  go_ret
  exact ⟨rfl, HX.out.drewN' _⟩

set_option maxRecDepth 100000 in
set_option maxHeartbeats 1000000 in
theorem rvop_pre3 (kind : Int) (o : OpM) (v : Value) (w : World) (S : Nat → Prop) (h : NumR S w v o.args) (hl : o.args.length ≤ 100000000) (hk : 1 ≤ kind) (hk6 : kind ≤ 6) (hc : 1 ≤ o.code) (hp : nW kind < o.code) :
    Calls Tryz.prog 54 #[.int .i64 kind, .agg #[.int .i64 o.code, v]] w fun e w' => e = .returned (.bool false) ∧ Ext w w' := by
  obtain ⟨c, xs⟩ := o
  simp only at *
  obtain ⟨a, cap, hv⟩ := h.shape
  subst hv
  have HN := Lib.hid h
  clear h
  have HB : Hid ((w.alloc (.cells #[.int .i64 c, .slice a xs.length cap] 40)).heap[w.heap.size]? = some (.cells #[.int .i64 c, .slice a xs.length cap] 40)) := alloc0 _ _
  have HX : Hid (Ext w (w.alloc (.cells #[.int .i64 c, .slice a xs.length cap] 40))) := (Upd.refl _ w).alloc _
  have HC : Hid (∀ W, Calls Tryz.prog 53 #[.int .i64 kind] W fun e w' => ∃ a, e = .returned (.slice a (nW kind) (nW kind)) ∧ Ext W w') := fun W => rwords_any kind W
  generalize xs.length = m at *
  have h8 := nW_le kind
  have t1 : decide (kind < 1) = false := by simp; omega
  have t2 : decide (6 < kind) = false := by simp; omega
  have t3 : decide (c < 1) = false := by simp; omega
  have t4 : decide ((nW kind : Int) < c) = true := by simpa using hp
  go_enter Tryz.func54, Tryz.ntmps54
  go_wp2_with fail
  generalize w.alloc (.cells #[.int .i64 c, .slice a m cap] 40) = w3 at *
  generalize w.heap.size = b at *
  have Hb0 : Hid (∀ W, Ext w3 W → W.cell? ⟨b, 0, none⟩ = some (.int .i64 c)) := fun W hW => cellRow (hW.heap HB.out (fun h => h)) 0 _ rfl
  have b0 := Hb0.out w3 (Upd.refl _ _)
  first | go_region_with ((go_at_call 53; refine (HC.out _).mono ?_; rintro e w5 ⟨a5, rfl, hx5⟩; have hy5 : Ext w3 w5 := Upd.ofDrew hx5; have b05 := Hb0.out w5 hy5; clear hx5)) | fail
  all_goals
    go_wp2_with fail
    go_ret
    exact ⟨rfl, HX.out.ext hy5⟩

set_option maxRecDepth 100000 in
set_option maxHeartbeats 1000000 in
theorem rvop_pre4 (kind : Int) (o : OpM) (v : Value) (w : World) (S : Nat → Prop) (h : NumR S w v o.args) (hl : o.args.length ≤ 100000000) (hk : 1 ≤ kind) (hk6 : kind ≤ 6) (hc : 1 ≤ o.code) (hc2 : o.code ≤ nW kind) (hp : 64 < o.args.length) :
    Calls Tryz.prog 54 #[.int .i64 kind, .agg #[.int .i64 o.code, v]] w fun e w' => e = .returned (.bool false) ∧ Ext w w' := by
  obtain ⟨c, xs⟩ := o
  simp only at *
  obtain ⟨a, cap, hv⟩ := h.shape
  subst hv
  have HN := Lib.hid h
  clear h
  have HB : Hid ((w.alloc (.cells #[.int .i64 c, .slice a xs.length cap] 40)).heap[w.heap.size]? = some (.cells #[.int .i64 c, .slice a xs.length cap] 40)) := alloc0 _ _
  have HX : Hid (Ext w (w.alloc (.cells #[.int .i64 c, .slice a xs.length cap] 40))) := (Upd.refl _ w).alloc _
  have HC : Hid (∀ W, Calls Tryz.prog 53 #[.int .i64 kind] W fun e w' => ∃ a, e = .returned (.slice a (nW kind) (nW kind)) ∧ Ext W w') := fun W => rwords_any kind W
  generalize xs.length = m at *
  have h8 := nW_le kind
  have t1 : decide (kind < 1) = false := by simp; omega
  have t2 : decide (6 < kind) = false := by simp; omega
  have t3 : decide (c < 1) = false := by simp; omega
  have t4 : decide ((nW kind : Int) < c) = false := by simp; omega
  have t5 : decide ((64 : Int) < m) = true := by simp; omega
  go_enter Tryz.func54, Tryz.ntmps54
  go_wp2_with fail
  generalize w.alloc (.cells #[.int .i64 c, .slice a m cap] 40) = w3 at *
  generalize w.heap.size = b at *
  have b0 : w3.cell? ⟨b, 0, none⟩ = some (.int .i64 c) := cellRow HB.out 0 _ rfl
  have b1 : w3.cell? ⟨b, 1, none⟩ = some (.slice a m cap) := cellRow HB.out 1 _ rfl
  have Hb0 := Lib.hid b0
  have Hb1 := Lib.hid b1
  have hx0 : Ext w3 w3.drew := (Upd.refl _ w3).drew
  go_region_held3 (fun w' => w'.cell? ⟨b, 0, none⟩ = some (.int .i64 c) ∧ w'.cell? ⟨b, 1, none⟩ = some (.slice a m cap))
    (first | go_keep | (exact ⟨Upd.cell (F := fun _ => False) (by assumption) Hb0.out (fun h => h), Upd.cell (F := fun _ => False) (by assumption) Hb1.out (fun h => h)⟩))
    ((go_at_call 53; refine (HC.out _).mono ?_; rintro e w5 ⟨a5, rfl, hx5⟩; have hy5 : Ext w3 w5 := Upd.ext (by assumption) hx5; clear hx5))
  go_wp2_with fail
  go_ret
  exact ⟨rfl, HX.out.ext hy5⟩

end Go.Proofs.YthpekfpeoglbgaaGreatDoor
