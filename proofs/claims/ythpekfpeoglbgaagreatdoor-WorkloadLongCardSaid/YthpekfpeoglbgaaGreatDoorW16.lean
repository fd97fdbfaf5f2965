/- What is generated, in memory. -/
import Derived.Test.YthpekfpeoglbgaaGreatDoorW10
import Derived.Test.YthpekfpeoglbgaaGreatDoorL2
namespace Go.Proofs.YthpekfpeoglbgaaGreatDoor
open Go.RowKit Go.Hw
set_option linter.unusedVariables false
set_option linter.unusedSimpArgs false

theorem info50 : (Tryz.prog.info? 40).map (fun i => (i.zero, i.size, i.bytes)) = some (some (.agg #[.int .i64 0, .slice none 0 0]), 2, 32) := by kernel_rfl
/-- operations that the call has made: the list's own row, the arguments of each elsewhere -/
structure GenR (base sB : Nat) (w : World) (v : Value) (L : List OpV) : Prop where
  own : w.ownsRow base 40 2 v L.length (opCells L)
  ne : v.ownBlock ≠ some sB
  arg : ∀ o ∈ L, NumR (fun k => k < w.heap.size ∧ k ≠ sB ∧ v.ownBlock ≠ some k) w o.v o.op.args
theorem GenR.nil (base sB : Nat) (w : World) : GenR base sB w (.slice none 0 0) [] :=
  ⟨World.ownsRow_nil _ _ _ _, by simp [Value.ownBlock], fun o ho => by simp at ho⟩
theorem GenR.kept {base sB : Nat} {w w' : World} {v : Value} {L : List OpV} (h : GenR base sB w v L) (hu : Upd (fun k => k = sB) w w') : GenR base sB w' v L :=
  ⟨own_kept h.own hu (fun k hk e => h.ne (by rw [hk, e])), h.ne, fun o ho => ((h.arg o ho).kept hu (fun k hk => hk.2.1)).weaken (fun k hk => ⟨Nat.lt_of_lt_of_le hk.1 hu.size, hk.2⟩)⟩
theorem opCells_snoc (L : List OpV) (o : OpV) : opCells (L ++ [o]) = opCells L ++ OpV.cells o := by simp [opCells]
theorem GenR.push {base sB : Nat} {w0 w1 w2 : World} {v v' : Value} {L : List OpV} {o : OpV} (h : GenR base sB w0 v L) (hu : Upd (fun k => k = sB) w0 w1)
    (ho : NumR (fun k => w0.heap.size ≤ k ∧ k < w1.heap.size ∧ k ≠ sB) w1 o.v o.op.args) (hs : sB < w0.heap.size)
    (hG : Grew base 40 2 v (L.length + 1) (opCells L ++ OpV.cells o) w1 w2 v') : GenR base sB w2 v' (L ++ [o]) := by
  have h1 := h.kept hu
  have hsz := hu.size
  have hsz2 := hG.grown.size
  refine ⟨by rw [opCells_snoc]; simpa using hG.own, ?_, ?_⟩
  · rcases hG.where_ with e | e
    · rw [e]; exact h.ne
    · rw [e]; intro q; injection q with q; omega
  · intro x hx
    rcases List.mem_append.1 hx with hx | hx
    · refine ((h1.arg x hx).kept hG.upd (fun k hk e => hk.2.2 e)).weaken (fun k hk => ⟨by omega, hk.2.1, ?_⟩)
      rcases hG.where_ with e | e
      · rw [e]; exact hk.2.2
      · rw [e]; intro q; injection q with q; omega
    · simp at hx; subst hx
      have hne : ∀ k, w0.heap.size ≤ k → v.ownBlock ≠ some k := fun k hk e => by have := h.own.lt k e; omega
      refine (ho.kept hG.upd (fun k hk e => hne k hk.1 e)).weaken (fun k hk => ⟨by omega, hk.2.2, ?_⟩)
      rcases hG.where_ with e | e
      · rw [e]; exact hne k hk.1
      · rw [e]; intro q; injection q with q; omega
theorem GenR.ops {base sB : Nat} {w : World} {v : Value} {L : List OpV} (h : GenR base sB w v L) : OpsR (fun k => k < w.heap.size) w v L :=
  ⟨(SlR.of_own h.own).weaken (fun k hk => (h.own.lt k hk).2), fun o ho => (h.arg o ho).weaken (fun k hk => hk.1)⟩

end Go.Proofs.YthpekfpeoglbgaaGreatDoor
