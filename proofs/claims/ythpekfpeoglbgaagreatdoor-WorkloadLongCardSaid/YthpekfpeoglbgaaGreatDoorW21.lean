/- The table of the phases, in memory. -/
import Derived.Test.YthpekfpeoglbgaaGreatDoorW19
import Derived.Test.YthpekfpeoglbgaaGreatDoorW20
namespace Go.Proofs.YthpekfpeoglbgaaGreatDoor
open Go.RowKit Go.Hw
set_option linter.unusedVariables false
set_option linter.unusedSimpArgs false

theorem Upd.at_ {w : World} {g j : Nat} (u : Value) : Upd (fun k => k = g) w (w.setCell ⟨g, j, none⟩ u) := (Upd.refl (fun k => k = g) w).setCell (p := ⟨g, j, none⟩) (.inl rfl) u
theorem wpList_run {P : Program} {ops : Array Oper} {rest : List Oper} {o : Oper} {a : Act} {w w' : World} {Q : Exit → Act → World → Prop} {v : Value} (hgd : o.guard = none)
    (hr : (execOp a.eval o).run P w = .ok (.value v) w') (h : wpList P ops Q rest (a.put o.dst v) w') : wpList P ops Q (o :: rest) a w :=
  wpList_plain hgd fun _ hK => by
    unfold Oper.wp
    rw [hr]
    exact hK _ _ h
/-- the table in memory: the rows that are made, what they hold -/
structure TabR (w : World) (bB : Nat) (rows : Nat → Nat) (K n : Nat) (F : Nat → Nat → Int) : Prop where
  best : ∃ cs : Array Value, w.heap[bB]? = some (.cells cs 92) ∧ cs.size = 21 ∧ (∀ q, q < K → cs[q]? = some (.slice (some ⟨rows q, 0, none⟩) (n + 1) (n + 1))) ∧ ∀ q, K ≤ q → q < 21 → cs[q]? = some (.slice none 0 0)
  row : ∀ q, q < K → ∃ arr : Array Value, w.heap[rows q]? = some (.cells arr 3) ∧ arr.size = n + 1 ∧ ∀ j, j ≤ n → arr[j]? = some (.int .i64 (F q j))
  inj : ∀ q q', q < K → q' < K → rows q = rows q' → q = q'
  ne : ∀ q, q < K → rows q ≠ bB
section
variable {w w' : World} {bB K n : Nat} {rows : Nat → Nat} {F G : Nat → Nat → Int}
theorem TabR.kept {X : Nat → Prop} (h : TabR w bB rows K n F) (hu : Upd X w w') (h1 : ¬ X bB) (h2 : ∀ q, q < K → ¬ X (rows q)) : TabR w' bB rows K n F := by
  obtain ⟨⟨cs, a, b, c⟩, h3, h4, h5⟩ := h
  refine ⟨⟨cs, hu.heap a h1, b, c⟩, fun q hq => ?_, h4, h5⟩
  obtain ⟨arr, r1, r2, r3⟩ := h3 q hq
  exact ⟨arr, hu.heap r1 (h2 q hq), r2, r3⟩
theorem TabR.ext (h : TabR w bB rows K n F) (hu : Ext w w') : TabR w' bB rows K n F := h.kept hu (fun h => h) (fun _ _ h => h)
theorem TabR.congr (h : TabR w bB rows K n F) (he : ∀ q j, q < K → j ≤ n → F q j = G q j) : TabR w bB rows K n G := by
  refine ⟨h.best, fun q hq => ?_, h.inj, h.ne⟩
  obtain ⟨arr, r1, r2, r3⟩ := h.row q hq
  exact ⟨arr, r1, r2, fun j hj => by rw [r3 j hj, he q j hq hj]⟩
theorem TabR.slice (h : TabR w bB rows K n F) {q : Nat} (hq : q < K) : w.cell? ⟨bB, q, none⟩ = some (.slice (some ⟨rows q, 0, none⟩) (n + 1) (n + 1)) := by
  obtain ⟨cs, a, _, c, _⟩ := h.best
  exact cellRow a q _ (c q hq)
theorem TabR.num (h : TabR w bB rows K n F) {q j : Nat} (hq : q < K) (hj : j ≤ n) : w.cell? ⟨rows q, j, none⟩ = some (.int .i64 (F q j)) := by
  obtain ⟨arr, a, _, c⟩ := h.row q hq
  exact cellRow a j _ (c j hj)
theorem TabR.mark (h : TabR w bB rows K n F) {q : Nat} (hq : q < K) (j : Nat) : w.frozen? ⟨rows q, j, none⟩ = false := by
  obtain ⟨arr, a, _, c⟩ := h.row q hq
  exact frozenRow a j
theorem TabR.set (h : TabR w bB rows K n F) {p i : Nat} (hp : p < K) (hi : i ≤ n) (x : Int) : TabR (w.setCell ⟨rows p, i, none⟩ (.int .i64 x)) bB rows K n (fun q j => if q = p ∧ j = i then x else F q j) := by
  have hu : Upd (fun k => k = rows p) w (w.setCell ⟨rows p, i, none⟩ (.int .i64 x)) := Upd.at_ _
  obtain ⟨⟨cs, a, b, c⟩, h3, h4, h5⟩ := h
  refine ⟨⟨cs, hu.heap a (fun e => h5 p hp e.symm), b, c⟩, fun q hq => ?_, h4, h5⟩
  obtain ⟨arr, r1, r2, r3⟩ := h3 q hq
  by_cases e : q = p
  · subst e
    refine ⟨arr.setIfInBounds i (.int .i64 x), setBlock r1 i _, by rw [Array.size_setIfInBounds]; exact r2, fun j hj => ?_⟩
    by_cases e2 : j = i
    · subst e2
      rw [Array.getElem?_setIfInBounds_self_of_lt (by omega)]; simp
    · rw [Array.getElem?_setIfInBounds_ne (by omega), r3 j hj, if_neg (by omega)]
  · refine ⟨arr, hu.heap r1 (fun e2 => e (h4 q p hq hp e2)), r2, fun j hj => by rw [r3 j hj, if_neg (by omega)]⟩
/-- one row more -/
theorem TabR.add (h : TabR w bB rows K n F) (hK : K < 21) (hu : Ext w w') {g : Nat} (hg : w.heap.size ≤ g) (x : Int) (hr : w'.heap[g]? = some (.cells (List.replicate (n + 1) (Value.int .i64 x)).toArray 3)) :
    TabR (w'.setCell ⟨bB, K, none⟩ (.slice (some ⟨g, 0, none⟩) (n + 1) (n + 1))) bB (fun q => if q = K then g else rows q) (K + 1) n (fun q j => if q = K then x else F q j) := by
  have h' := h.ext hu
  have hst : Upd (fun k => k = bB) w' (w'.setCell ⟨bB, K, none⟩ (.slice (some ⟨g, 0, none⟩) (n + 1) (n + 1))) := Upd.at_ _
  obtain ⟨cs, a, b, c, d⟩ := h'.best
  have hbl : bB < w.heap.size := by obtain ⟨cs, a, _⟩ := h.best; exact (Array.getElem?_eq_some_iff.1 a).1
  have hrl : ∀ q, q < K → rows q < w.heap.size := fun q hq => by obtain ⟨arr, a, _⟩ := h.row q hq; exact (Array.getElem?_eq_some_iff.1 a).1
  refine ⟨⟨cs.setIfInBounds K (.slice (some ⟨g, 0, none⟩) (n + 1) (n + 1)), setBlock a _ _, by rw [Array.size_setIfInBounds]; exact b, fun q hq => ?_, fun q h1 h2 => ?_⟩, fun q hq => ?_, fun q q' h1 h2 he => ?_, fun q hq => ?_⟩
  · by_cases e : q = K
    · subst e; rw [Array.getElem?_setIfInBounds_self_of_lt (by omega), if_pos rfl]
    · rw [Array.getElem?_setIfInBounds_ne (by omega), if_neg e]; exact c q (by omega)
  · rw [Array.getElem?_setIfInBounds_ne (by omega)]; exact d q (by omega) h2
  · by_cases e : q = K
    · subst e
      simp only [if_true]
      exact ⟨_, hst.heap hr (by omega), by simp, fun j hj => by rw [List.getElem?_toArray, List.getElem?_replicate, if_pos (by omega)]⟩
    · obtain ⟨arr, r1, r2, r3⟩ := h'.row q (by omega)
      simp only [if_neg e]
      exact ⟨arr, hst.heap r1 (h.ne q (by omega)), r2, r3⟩
  · by_cases e : q = K <;> by_cases e' : q' = K
    · omega
    · simp only [e, e', if_true, if_false] at he; have := hrl q' (by omega); omega
    · simp only [e, e', if_true, if_false] at he; have := hrl q (by omega); omega
    · simp only [e, e', if_false] at he; exact h.inj q q' (by omega) (by omega) he
  · by_cases e : q = K
    · simp only [if_pos e]; omega
    · simp only [if_neg e]; exact h.ne q (by omega)
end

end Go.Proofs.YthpekfpeoglbgaaGreatDoor
