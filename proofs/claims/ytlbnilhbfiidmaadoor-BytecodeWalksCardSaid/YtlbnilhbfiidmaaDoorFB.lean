/- Bytes as they come in. -/
import Derived.Test.YtlbnilhbfiidmaaDoorFO
namespace Go.Proofs.YtlbnilhbfiidmaaDoor
open Go.RowKit Go.Hw
set_option linter.unusedVariables false
set_option linter.unusedSimpArgs false

open Go.ChangeShapes Go.WideShapes Go.Deep Go.Joins Go.ChangeAt
set_option maxRecDepth 100000
theorem cells5 : Tryd.prog.cellsOf 5 = 1 := by kernel_rfl
section
variable {H : Type} {enc : TypeId × Value → H} {W : World}
theorem byte_bounds {n : Int} (h : (Lit.int .u8 n).wf = true) : 0 ≤ n ∧ n ≤ 255 := by
  simp [Lit.wf, IntKind.min, IntKind.max, IntKind.signed, IntKind.bits] at h
  omega
theorem open_bytes {r : Reach} {b0 : Nat} {v : Value} {d : DataW H} {ps : List MemPlace} (hv : Value.okWide Tryd.prog W r b0 42 v) (h : DataW.Trod enc Tryd.prog W 0 (fun _ => true) true 42 v d ps) :
    ∃ l : List Nat, SlR Any1 W 1 v l.length (l.map fun (m : Nat) => Value.int .u8 (m : Int)) ∧ ∀ m ∈ l, m < 256 := by
  obtain ⟨a0, len0, cap0, rfl⟩ := okWide_slice Tryd.underlying42 hv
  obtain ⟨fuel, hf⟩ := h
  rcases open_ints Tryd.underlying42 Tryd.underlying5 cells5 hf with ⟨hcs, _⟩ | ⟨a, len, cap, zs, hcs, _, hl, _, hz, hy, hall, hwf⟩
  · simp [Value.cells] at hcs
    obtain ⟨rfl, rfl, rfl⟩ := hcs
    exact ⟨[], SlR.nil _ _ _, by simp⟩
  · simp [Value.cells] at hcs
    obtain ⟨rfl, rfl, rfl⟩ := hcs
    simp only [if_true] at hz
    have hlen : ((zs.take len0).map Int.toNat).length = len0 := by rw [List.length_map, List.length_take]; omega
    refine ⟨(zs.take len0).map Int.toNat, ?_, fun m hm => ?_⟩
    · rw [hlen]
      have hsp : 0 < len0 → a.spot = none := fun h0 => by
        have := World.cell?_spot (hall 0 (by omega))
        simpa [Addr.add] using this
      refine ⟨by rw [List.length_map, hlen]; omega, .inr ⟨a, cap0, rfl, hl, fun h0 => ⟨hsp h0, trivial⟩, fun j hj => ?_⟩⟩
      have h1 := hall j (by omega)
      have h2 := hsp (by omega)
      obtain ⟨ab, ao, asp⟩ := a
      simp only at h2
      subst h2
      rw [add_plain] at h1
      rw [h1]
      have hj2 : j < zs.length := by omega
      have hj3 : j < len0 := by omega
      have hb := byte_bounds (hwf zs[j] (List.getElem_mem hj2))
      have e : ((zs[j].toNat : Nat) : Int) = zs[j] := by omega
      simp [hj2, hj3, e]
    · simp only [List.mem_map] at hm
      obtain ⟨z, hz2, rfl⟩ := hm
      have hb := byte_bounds (hwf z (List.mem_of_mem_take hz2))
      omega
end

end Go.Proofs.YtlbnilhbfiidmaaDoor
