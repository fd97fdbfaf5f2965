/- Arrays of a call's own: a block whose first cells are known. -/
import Derived.Test.YtlbnilhbfiidmaaDoorL2
namespace Go.Hw
open Go.RowKit
set_option linter.unusedVariables false
set_option linter.unusedSimpArgs false

/-- block b holds vs, and perhaps more behind them -/
def Arr (w : World) (b : Nat) (T : TypeId) (vs : List Value) : Prop := ∃ cur : Array Value, w.heap[b]? = some (.cells cur T (0, 0)) ∧ ∀ (j : Nat) (v : Value), vs[j]? = some v → cur[j]? = some v
theorem Arr.lt {w : World} {b : Nat} {T : TypeId} {vs : List Value} (h : Arr w b T vs) : b < w.heap.size := by
  obtain ⟨cur, hb, _⟩ := h
  exact (Array.getElem?_eq_some_iff.1 hb).1
theorem Arr.cell {w : World} {b : Nat} {T : TypeId} {vs : List Value} (h : Arr w b T vs) {j : Nat} {v : Value} (hv : vs[j]? = some v) : w.cell? ⟨b, j, none⟩ = some v := by
  obtain ⟨cur, hb, hc⟩ := h
  exact cellRow hb j v (hc j v hv)
theorem Arr.cell0 {w : World} {b : Nat} {T : TypeId} {vs : List Value} (h : Arr w b T vs) {j : Nat} {v : Value} (hv : vs[j]? = some v) : w.cell? ⟨b, 0 + j, none⟩ = some v := by
  rw [Nat.zero_add]; exact h.cell hv
theorem Arr.mark {w : World} {b : Nat} {T : TypeId} {vs : List Value} (h : Arr w b T vs) (j : Nat) : w.frozen? ⟨b, j, none⟩ = false := by
  obtain ⟨cur, hb, hc⟩ := h
  exact frozenRow hb j
theorem Arr.kept {F : Nat → Prop} {w w' : World} {b : Nat} {T : TypeId} {vs : List Value} (h : Arr w b T vs) (hu : Upd F w w') (hF : ¬ F b) : Arr w' b T vs := by
  obtain ⟨cur, hb, hc⟩ := h
  exact ⟨cur, hu.heap hb hF, hc⟩
theorem Arr.set {w : World} {b : Nat} {T : TypeId} {vs : List Value} (h : Arr w b T vs) {j : Nat} (hj : j < vs.length) (u : Value) : Arr (w.setCell ⟨b, j, none⟩ u) b T (vs.set j u) := by
  obtain ⟨cur, hb, hc⟩ := h
  have hsz : j < cur.size := by
    have := hc j vs[j] (by simp [hj])
    exact (Array.getElem?_eq_some_iff.1 this).1
  refine ⟨_, setBlock hb j u, fun i v hi => ?_⟩
  by_cases e : i = j
  · subst e
    rw [List.getElem?_set_self hj] at hi
    rw [← hi]
    simp [hsz]
  · rw [List.getElem?_set_ne (Ne.symm e)] at hi
    have := hc i v hi
    rw [← this]
    simp [Array.getElem?_setIfInBounds, Ne.symm e]
theorem Arr.new (w : World) (T : TypeId) (cs : Array Value) : Arr (w.alloc (.cells cs T)) w.heap.size T cs.toList :=
  ⟨cs, alloc0 w _, fun j v h => by simpa using h⟩
theorem Arr.ofOwn {w : World} {base e n : Nat} {v : Value} {cs : List Value} (h : w.ownsRow base e 1 v n cs) (hn : 0 < n) :
    ∃ g cap, v = .slice (some ⟨g, 0, none⟩) n cap ∧ n ≤ cap ∧ base ≤ g ∧ Arr w g e cs := by
  obtain ⟨hl, ⟨_, h2⟩ | ⟨g, cap, cur, hv, hb, hg, hc, hm, hs, ht⟩⟩ := h
  · omega
  · refine ⟨g, cap, hv, hc, hb, cur, hg, fun j u hu => ?_⟩
    rw [← ht] at hu
    rw [List.getElem?_take] at hu
    split at hu
    · simpa using hu
    · cases hu
theorem Arr.slR {w : World} {b T : Nat} {vs : List Value} (h : Arr w b T vs) {cap : Nat} (hc : vs.length ≤ cap) {S : Nat → Prop} (hS : S b) : SlR S w 1 (.slice (some ⟨b, 0, none⟩) vs.length cap) vs.length vs :=
  SlR.mk' (by simp) rfl hc (fun _ => hS) (fun j hj => by
    have hj' : j < vs.length := by omega
    rw [Nat.zero_add, h.cell (v := vs[j]) (by simp [hj'])]
    simp [hj'])
theorem updAt {w : World} {g j : Nat} (u : Value) : Upd (fun k => k = g) w (w.setCell ⟨g, j, none⟩ u) := (Upd.refl (fun k => k = g) w).setCell (p := ⟨g, j, none⟩) (.inl rfl) u
end Go.Hw
