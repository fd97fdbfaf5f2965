/- How the steps of a script read. -/
import Derived.Test.YtnlminaanccejaaW13
import Derived.ProofKit
import Derived.Deep.SlicePairs
namespace Go.Proofs.Ytnlminaanccejaa
open Go.ChangeShapes Go.WideShapes Go.ChangeAt Go.RowKit Go.Hw Go.Deep
set_option linter.unusedVariables false
set_option linter.unusedSimpArgs false

theorem Try.own : ownKnob Try.prog.godebug = none := by kernel_rfl
theorem Try.laidOut : laidOutB Try.prog = true := by kernel_rfl
theorem Try.cells43 : Try.prog.cellsOf 43 = 2 := by kernel_rfl
theorem Try.cells4 : Try.prog.cellsOf 4 = 1 := by kernel_rfl
theorem Try.cells3 : Try.prog.cellsOf 3 = 1 := by kernel_rfl

/-- the steps as they come in -/
def StR (w : World) (v : Value) (steps : List St) : Prop := SlR (fun k => k < w.heap.size) w 2 v steps.length (stCells steps)
def bOf : Value → Bool | .bool b => b | _ => false

theorem open_steps {H : Type} {enc : TypeId × Value → H} {W : World} {v : Value} {d : DataW H} {ps : List MemPlace}
    (h : DataW.Trod enc Try.prog W 0 (fun _ => true) true 22 v d ps) (hs : ∃ a len cap, v = .slice a len cap) : ∃ steps : List St, StR W v steps := by
  obtain ⟨a0, len, cap, rfl⟩ := hs
  obtain ⟨fuel, hf⟩ := h
  rcases open_slice_pairs Try.underlying22 Try.underlying43 Try.cells43 rfl rfl Try.cells4 Try.cells3 hf with ⟨hcs, hx⟩ | ⟨a, len', cap', m, n, V0, V1, D0, D1, P0, P1, hcs, _, hl, hm, hmm, hx, hall⟩
  · simp [Value.cells] at hcs
    obtain ⟨rfl, rfl, rfl⟩ := hcs
    exact ⟨[], SlR.nil _ _ _⟩
  · simp [Value.cells] at hcs
    obtain ⟨rfl, rfl, rfl⟩ := hcs
    simp only [if_true] at hmm
    subst hmm
    have hlen : ((List.range len).map fun i => (bOf (V0 i), intOf (V1 i))).length = len := by simp
    refine ⟨(List.range len).map fun i => (bOf (V0 i), intOf (V1 i)), ?_⟩
    unfold StR
    rw [hlen]
    refine ⟨by rw [stCells_length, hlen], .inr ⟨a, m, rfl, hl, fun h0 => ?_, fun j hj => ?_⟩⟩
    · have h1 := (hall 0 (by omega)).1
      have hsp : a.spot = none := by
        have := World.cell?_spot h1
        simpa [Addr.add] using this
      refine ⟨hsp, ?_⟩
      have := World.block_lt_of_cell? W _ h1
      simpa [Addr.add] using this
    · obtain ⟨q, r, hq, hr⟩ : ∃ q r, j = q * 2 + r ∧ r < 2 := ⟨j / 2, j % 2, by omega, by omega⟩
      subst hq
      have hqn : q < len := by omega
      obtain ⟨c0, c1, t0, t1⟩ := hall q (by omega)
      obtain ⟨b, hb, _⟩ := DataW.trod_bool Try.underlying4 t0
      obtain ⟨k, hk, _⟩ := DataW.trod_int Try.underlying3 t1
      simp only [List.cons.injEq, and_true] at hb hk
      have h0 := (hall 0 (by omega)).1
      have hsp : a.spot = none := by
        have := World.cell?_spot h0
        simpa [Addr.add] using this
      rw [stCells_get _ _ _ (by rw [hlen]; exact hqn) hr]
      have e : ((List.range len).map fun i => (bOf (V0 i), intOf (V1 i))).getD q (false, 0) = (b, k) := by simp [hqn, hb, hk, bOf, intOf]
      rw [e]
      obtain ⟨ab, ao, asp⟩ := a
      simp only at hsp
      subst hsp
      rw [add_plain] at c0 c1
      match r, hr with
      | 0, _ => rw [Nat.add_zero, c0, hb]; rfl
      | 1, _ => rw [← Nat.add_assoc] at c1 ⊢; rw [c1, hk]; rfl

end Go.Proofs.Ytnlminaanccejaa
