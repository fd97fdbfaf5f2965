/- ref.Next. -/
import Derived.Test.YtlbnilhbfiidmaaDoorP2
import Derived.Test.YtlbnilhbfiidmaaDoorL6
namespace Go.Proofs.YtlbnilhbfiidmaaDoor
open Go.RowKit Go.Hw
set_option linter.unusedVariables false
set_option linter.unusedSimpArgs false

def NxtP (op x : Int) (i : Nat) (w : World) (e : Ending) (w' : World) : Prop := ∃ v, e = .returned v ∧ SlR (fun b => w.heap.size ≤ b) w' 1 v (nxt op x i).length ((nxt op x i).map (.int .i64)) ∧ Ext w w'
theorem lit_sl (w w0 : World) (T : TypeId) (vs : List Int) (b : Nat) (hb : b = w.heap.size) (h : w0.heap.size ≤ w.heap.size) : SlR (fun b => w0.heap.size ≤ b) (w.alloc (.cells (vs.map (Value.int .i64)).toArray T)) 1 (.slice (some ⟨b, 0, none⟩) vs.length vs.length) vs.length (vs.map (.int .i64)) := by
  subst hb
  have hA := Arr.new w T (vs.map (Value.int .i64)).toArray
  have := hA.slR (cap := vs.length) (by simp) (S := fun b => w0.heap.size ≤ b) h
  simpa using this
set_option maxHeartbeats 2000000 in
/-- ref.Next -/
theorem rnext_x (op x : Int) (i : Nat) (w : World) (hi : i ≤ 2000000) : Calls Tryd.prog 15 #[.agg #[.int .i64 op, .int .i64 x], .int .i64 i] w (NxtP op x i w) := by
  have HE : Hid (Ext w (w.alloc (.cells #[.int .i64 op, .int .i64 x] 46))) := (Upd.refl _ w).alloc _
  by_cases q10 : op = 10
  · have hn : nxt op x i = [] := by unfold nxt; rw [if_pos q10]
    subst q10
    go_enter Tryd.func15, Tryd.ntmps15
    go_wp2_with fail
    go_ret
    refine ⟨_, rfl, ?_, ?_⟩
    · rw [hn]
      first | exact SlR.nil _ _ _ | exact lit_sl (w.alloc (.cells #[.int .i64 10, .int .i64 x] 46)) w 3 [] (w.heap.size + 1) (by simp) (by simp)
    · first | exact HE.out | exact HE.out.alloc _
  by_cases q11 : op = 11
  · have hn : nxt op x i = [x] := by unfold nxt; rw [if_neg q10]; rw [if_pos q11]
    subst q11
    go_enter Tryd.func15, Tryd.ntmps15
    go_wp2_with fail
    go_ret
    refine ⟨_, rfl, ?_, ?_⟩
    · rw [hn]
      first | exact SlR.nil _ _ _ | exact lit_sl (w.alloc (.cells #[.int .i64 11, .int .i64 x] 46)) w 3 [x] (w.heap.size + 1) (by simp) (by simp)
    · first | exact HE.out | exact HE.out.alloc _
  by_cases q12 : op = 12
  · have hn : nxt op x i = [(i : Int) + 1, x] := by unfold nxt; rw [if_neg q10]; rw [if_neg q11]; rw [if_pos q12]
    subst q12
    go_enter Tryd.func15, Tryd.ntmps15
    go_wp2_with fail
    go_ret
    refine ⟨_, rfl, ?_, ?_⟩
    · rw [hn]
      first | exact SlR.nil _ _ _ | exact lit_sl (w.alloc (.cells #[.int .i64 12, .int .i64 x] 46)) w 3 [(i : Int) + 1, x] (w.heap.size + 1) (by simp) (by simp)
    · first | exact HE.out | exact HE.out.alloc _
  have hn : nxt op x i = [(i : Int) + 1] := by unfold nxt; rw [if_neg q10, if_neg q11, if_neg q12]
  have e10 : (op == 10) = false := beq_eq_false_iff_ne.2 q10
  have e11 : (op == 11) = false := beq_eq_false_iff_ne.2 q11
  have e12 : (op == 12) = false := beq_eq_false_iff_ne.2 q12
  go_enter Tryd.func15, Tryd.ntmps15
  go_wp2_with fail
  go_ret
  refine ⟨_, rfl, ?_, ?_⟩
  · rw [hn]
    exact lit_sl (w.alloc (.cells #[.int .i64 op, .int .i64 x] 46)) w 3 [(i : Int) + 1] (w.heap.size + 1) (by simp) (by simp)
  · first | exact HE.out | exact HE.out.alloc _

end Go.Proofs.YtlbnilhbfiidmaaDoor
