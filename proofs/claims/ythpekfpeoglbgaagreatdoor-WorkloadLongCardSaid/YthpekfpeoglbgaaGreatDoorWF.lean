/- Profiles and scripts as they come in. -/
import Derived.Test.YthpekfpeoglbgaaGreatDoorA
import Derived.Lib.SmallJoins
import Derived.OpenShut
import Derived.Deep.SlicePairs
import Derived.ProofKit
namespace Go.Proofs.YthpekfpeoglbgaaGreatDoor
open Go.RowKit Go.Hw
set_option linter.unusedVariables false
set_option linter.unusedSimpArgs false

open Go.ChangeShapes Go.WideShapes Go.Deep Go.Joins Go.ChangeAt
theorem Tryz.own : ownKnob Tryz.prog.godebug = none := by kernel_rfl
theorem Tryz.laidOut : laidOutB Tryz.prog = true := by kernel_rfl
theorem cells24 : Tryz.prog.cellsOf 51 = 4 := by kernel_rfl
theorem cells50 : Tryz.prog.cellsOf 40 = 2 := by kernel_rfl
theorem cells22 : Tryz.prog.cellsOf 38 = 1 := by kernel_rfl
theorem cells3 : Tryz.prog.cellsOf 3 = 1 := by kernel_rfl
def intOf : Value → Int
  | .int _ n => n
  | _ => 0
section
variable {H : Type} {enc : TypeId × Value → H} {W : World}
theorem ints_of {held : Bool} {fuel : Nat} {v : Value} {y : DataW H × List MemPlace} (h : DataW.trod enc Tryz.prog W 0 (fun _ => true) held fuel 38 [v] = some y) : ∃ l, NumR (fun k => k < W.heap.size) W v l := by
  rcases open_ints Tryz.underlying38 Tryz.underlying3 cells3 h with ⟨hcs, _⟩ | ⟨a, len, cap, zs, hcs, _, hl, _, hz, _, hall, _⟩
  · simp only [List.cons.injEq, and_true] at hcs
    subst hcs
    exact ⟨[], SlR.nil _ _ _⟩
  · simp only [List.cons.injEq, and_true] at hcs
    subst hcs
    simp only [if_true] at hz
    have hlen : (zs.take len).length = len := by rw [List.length_take]; omega
    refine ⟨zs.take len, ?_⟩
    unfold NumR
    rw [hlen]
    have hsp : 0 < len → a.spot = none := fun h0 => by
      have := World.cell?_spot (hall 0 (by omega))
      simpa [Addr.add] using this
    refine ⟨by rw [nums_length, hlen]; omega, .inr ⟨a, cap, rfl, hl, fun h0 => ⟨hsp h0, ?_⟩, fun j hj => ?_⟩⟩
    · have := World.block_lt_of_cell? W _ (hall 0 (by omega))
      simpa [Addr.add] using this
    · have h1 := hall j (by omega)
      have h2 := hsp (by omega)
      obtain ⟨ab, ao, asp⟩ := a
      simp only at h2
      subst h2
      rw [add_plain] at h1
      rw [h1, nums_get _ _ (by rw [hlen]; omega)]
      have : (zs.take len).getD j 0 = zs.getD j 0 := by
        simp only [List.getD_eq_getElem?_getD, List.getElem?_take_of_lt (show j < len by omega)]
      rw [this]
set_option maxRecDepth 100000 in
theorem open_prof {r : Reach} {b0 : Nat} {v : Value} {d : DataW H} {ps : List MemPlace} (hv : Value.okWide Tryz.prog W r b0 51 v) (h : DataW.Trod enc Tryz.prog W 0 (fun _ => true) true 51 v d ps) :
    ∃ (p : Prof) (wv : Value), v = .agg #[.int .i64 p.kind, wv, .int .i64 p.low, .int .i64 p.high] ∧ NumR (fun k => k < W.heap.size) W wv p.ws := by
  obtain ⟨v0, v1, v2, v3, y0, y1, y2, y3, n, rfl, _, _, h0, h1, h2, h3⟩ := open_agg4 Tryz.underlying51 (by kernel_rfl) cells24 hv h
  obtain ⟨x0, e0, _⟩ := DataW.trod_int Tryz.underlying3 h0
  obtain ⟨x2, e2, _⟩ := DataW.trod_int Tryz.underlying3 h2
  obtain ⟨x3, e3, _⟩ := DataW.trod_int Tryz.underlying3 h3
  simp only [List.cons.injEq, and_true] at e0 e2 e3
  subst e0; subst e2; subst e3
  obtain ⟨l, hl⟩ := ints_of h1
  exact ⟨⟨x0, l, x2, x3⟩, v1, rfl, hl⟩
theorem open_ops {v : Value} {d : DataW H} {ps : List MemPlace} (h : DataW.Trod enc Tryz.prog W 0 (fun _ => true) true 23 v d ps) (hs : ∃ a len cap, v = .slice a len cap) : ∃ l : List OpV, OpsR (fun k => k < W.heap.size) W v l ∧ l.length ≤ maxLen := by
  obtain ⟨a0, len, cap, rfl⟩ := hs
  obtain ⟨fuel, hf⟩ := h
  rcases open_slice_pairs Tryz.underlying23 Tryz.underlying40 cells50 rfl rfl cells3 cells22 hf with ⟨hcs, hx⟩ | ⟨a, len', cap', m, n, V0, V1, D0, D1, P0, P1, hcs, _, hl, hm, hmm, hx, hall⟩
  · simp [Value.cells] at hcs
    obtain ⟨rfl, rfl, rfl⟩ := hcs
    exact ⟨[], ⟨SlR.nil _ _ _, fun o ho => by cases ho⟩, by simp⟩
  · simp [Value.cells] at hcs
    obtain ⟨rfl, rfl, rfl⟩ := hcs
    simp only [if_true] at hmm
    subst hmm
    have hA : ∀ i, ∃ l, i < m → NumR (fun k => k < W.heap.size) W (V1 i) l := fun i => by
      by_cases hi : i < m
      · obtain ⟨l, hl⟩ := ints_of (hall i hi).2.2.2
        exact ⟨l, fun _ => hl⟩
      · exact ⟨[], fun h => absurd h hi⟩
    have hA2 := Classical.axiomOfChoice hA
    obtain ⟨A, hA3⟩ := hA2
    have hlen : ((List.range len).map fun i => (⟨⟨intOf (V0 i), A i⟩, V1 i⟩ : OpV)).length = len := by simp
    have hsp : 0 < len → a.spot = none := fun h0 => by
      have := World.cell?_spot (hall 0 (by omega)).1
      simpa [Addr.add] using this
    refine ⟨(List.range len).map fun i => ⟨⟨intOf (V0 i), A i⟩, V1 i⟩, ⟨?_, fun o ho => ?_⟩, by rw [hlen]; omega⟩
    · rw [hlen]
      refine ⟨by rw [opCells_length, hlen], .inr ⟨a, m, rfl, hl, fun h0 => ⟨hsp h0, ?_⟩, fun j hj => ?_⟩⟩
      · have := World.block_lt_of_cell? W _ (hall 0 (by omega)).1
        simpa [Addr.add] using this
      · obtain ⟨q, r, hq, hr⟩ : ∃ q r, j = q * 2 + r ∧ r < 2 := ⟨j / 2, j % 2, by omega, by omega⟩
        subst hq
        have hqn : q < len := by omega
        obtain ⟨c0, c1, t0, t1⟩ := hall q (by omega)
        obtain ⟨x, hx0, _⟩ := DataW.trod_int Tryz.underlying3 t0
        simp only [List.cons.injEq, and_true] at hx0
        have h2 := hsp (by omega)
        rw [opCells_get _ _ _ (by rw [hlen]; exact hqn) hr]
        have e : ((List.range len).map fun i => (⟨⟨intOf (V0 i), A i⟩, V1 i⟩ : OpV)).getD q .zero = ⟨⟨x, A q⟩, V1 q⟩ := by simp [hqn, hx0, intOf]
        rw [e]
        obtain ⟨ab, ao, asp⟩ := a
        simp only at h2
        subst h2
        rw [add_plain] at c0 c1
        match r, hr with
        | 0, _ => rw [Nat.add_zero, c0, hx0]; rfl
        | 1, _ => rw [← Nat.add_assoc] at c1 ⊢; rw [c1]; rfl
    · simp only [List.mem_map, List.mem_range] at ho
      obtain ⟨i, hi, rfl⟩ := ho
      exact hA3 i (by omega)
end

end Go.Proofs.YthpekfpeoglbgaaGreatDoor
