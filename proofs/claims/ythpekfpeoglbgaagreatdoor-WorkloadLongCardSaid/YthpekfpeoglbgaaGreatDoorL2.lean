/- Small laws of the prover's own, over any program, the second part: what is made, what is stored. -/
import Derived.Test.YthpekfpeoglbgaaGreatDoorL1
namespace Go.Hw
open Go.RowKit
set_option linter.unusedVariables false
set_option linter.unusedSimpArgs false

/-- the cells of a row that is made of one-cell elements -/
theorem made_get (z : Value) (n j : Nat) (h : j < n) : (madeCells #[z] n)[j]? = some z := by
  unfold madeCells
  simp [h, Nat.mod_one]
theorem made_one (P : Program) (t e : TypeId) (i : TypeInfo) (z : Value) (ht : P.underlying t = some (.slice e)) (hi : P.info? e = some i) (hz : i.zero = some z) (hs : i.size = 1) (hc : z.cells = #[z])
    (hb : i.bytes ≤ 1000) (n : Nat) (hn : n ≤ 100000000) (w : World) :
    (Instr.makeSlice t (.int .i64 (n : Int)) (.int .i64 (n : Int))).run P w = .ok (.slice (some ⟨w.heap.size, 0, none⟩) n n) (w.alloc (.cells (madeCells #[z] n) e)) := by
  have h0 : i.bytes * n ≤ 1000 * 100000000 := Nat.mul_le_mul hb hn
  have hb2 : (i.bytes : Int) * (n : Int) ≤ 281474976710656 := by
    have h : ((i.bytes * n : Nat) : Int) ≤ 281474976710656 := by omega
    rwa [Int.natCast_mul] at h
  have hr := run_make (P := P) w t e i z ht hi hz .i64 .i64 n n (by omega) (by omega) hb2 (by omega)
  simp only [Int.toNat_natCast, hs, hc, Nat.mul_one] at hr
  exact hr

theorem upd_grown_new {w wr w' : World} {row : Option Nat} (h : Upd (fun _ => False) w wr) (hg : wr.grownBy w' row) (hr : ∀ k, row = some k → w.heap.size ≤ k) : Upd (fun _ => False) w w' :=
  ⟨hg.os.trans h.os, hg.tape.trans h.tape, hg.output.trans h.output, Nat.le_trans h.size hg.size,
   fun i hi _ => (hg.block i (Nat.lt_of_lt_of_le hi h.size) (fun e => by have := hr i e.symm; omega)).trans (h.block i hi (fun x => x))⟩
/-- where an own row lies, and its cells -/
theorem ownAt {w : World} {base : Nat} {e : TypeId} {size : Nat} {v : Value} {n : Nat} {xs : List Value} (h : w.ownsRow base e size v n xs) (hn : 0 < n) :
    ∃ g cap, v = .slice (some ⟨g, 0, none⟩) n cap ∧ base ≤ g ∧ g < w.heap.size ∧ n ≤ cap ∧ (∀ j, j < n * size → w.cell? ⟨g, j, none⟩ = xs[j]?) ∧ ∀ j, w.frozen? ⟨g, j, none⟩ = false := by
  rcases h.2 with ⟨_, h2⟩ | ⟨g, cap, cur, rfl, hb, hg, hc, hm, hs, ht⟩
  · omega
  · refine ⟨g, cap, rfl, hb, (Array.getElem?_eq_some_iff.1 hg).1, hc, fun j hj => ?_, fun j => frozen_of_row w g j cur e hg⟩
    rw [cell_of_row w g j cur e _ hg, ← ht, List.getElem?_take_of_lt hj]
    simp
/-- a store into a block that is known whole -/
theorem setBlock {w : World} {g : Nat} {cs : Array Value} {t : TypeId} (h : w.heap[g]? = some (.cells cs t (0, 0))) (j : Nat) (u : Value) :
    (w.setCell ⟨g, j, none⟩ u).heap[g]? = some (.cells (cs.setIfInBounds j u) t (0, 0)) := by
  simp [World.setCell, Array.getElem?_modify, h]
/-- what is still known of a world: Ext behind a store into a new block -/
theorem Upd.setNew {a w : World} (h : Upd (fun _ => False) a w) {g j : Nat} (hg : a.heap.size ≤ g) (u : Value) : Upd (fun _ => False) a (w.setCell ⟨g, j, none⟩ u) := h.setCell (.inr hg) u

/-- a later world: what was there is as it was -/
structure XW (w : World) where
  val : World
  ext : Upd (fun _ => False) w val
instance (w : World) : Nonempty (XW w) := ⟨⟨w, Upd.refl _ w⟩⟩
/-- A drawn region whose operations only read, and whose calls leave what was there and hand back one value, whatever was made before: one walk. -/
theorem wp_region_ext {P : Program} {id : Nat} {Q : Exit → Act → World → Prop} {a : Act} {w : World} {l : List Oper} (w0 : World) (h0 : Upd (fun _ => False) w0 w)
    (hm : P.follows .mixedOrders = true) (hB : Region.lexB .any l.toArray = true)
    (h : wpQuiet P l.toArray (fun w' => ∃ x : XW w0, w' = x.val) (fun a' => ∀ w', (∃ x : XW w0, w' = x.val) → Q .normal a' w') l a) : (Code.region id l.toArray true).wp P Q a w :=
  wp_region_quiet (C := fun w' => ∃ x : XW w0, w' = x.val) hm hB ⟨⟨{ w with drawn := w.drawn + 1 }, ⟨h0.os, h0.tape, h0.output, h0.size, h0.block⟩⟩, rfl⟩ (by simpa using h)
theorem XW.call {P : Program} {f : FuncId} {args : Array Value} {w0 : World} {x : XW w0} {v : Value} (h : Calls P f args x.val fun e w' => e = .returned v ∧ Upd (fun _ => False) x.val w') :
    Calls P f args x.val fun e w'' => e = .returned v ∧ ∃ y : XW w0, w'' = y.val :=
  h.mono fun _ _ ⟨he, hx⟩ => ⟨he, ⟨_, x.ext.trans hx⟩, rfl⟩
end Go.Hw
