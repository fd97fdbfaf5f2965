/- Codes. -/
import Derived.Test.YtlbnilhbfiidmaaDoorLN
namespace Go.Proofs.YtlbnilhbfiidmaaDoor
open Go.RowKit Go.Hw
set_option linter.unusedVariables false
set_option linter.unusedSimpArgs false

/-! ### codes: what they are, and how they lie in memory -/
structure Fn where
  name : ByteArray
  params : Int
  locals : Int
  result : Bool
  code : List (Int × Int)
  v : Value
instance : Inhabited Fn := ⟨⟨ByteArray.empty, 0, 0, false, [], .slice none 0 0⟩⟩
structure Cd where
  fields : List Int
  glob : Int
  funcs : List Fn
def insCells (l : List (Int × Int)) : List Value := l.flatMap fun p => [.int .i64 p.1, .int .i64 p.2]
def fnCells (f : Fn) : List Value := [.string f.name, .int .i64 f.params, .int .i64 f.locals, .bool f.result, f.v]
def fnsCells (l : List Fn) : List Value := l.flatMap fnCells
theorem insCells_get : ∀ (l : List (Int × Int)) (i : Nat), i < l.length → (insCells l)[i * 2]? = some (.int .i64 (l.getD i (0, 0)).1) ∧ (insCells l)[i * 2 + 1]? = some (.int .i64 (l.getD i (0, 0)).2)
  | [], i, h => by simp at h
  | p :: r, 0, _ => ⟨rfl, rfl⟩
  | p :: r, i + 1, h => by
    have ih := insCells_get r i (by simpa using h)
    have e : insCells (p :: r) = .int .i64 p.1 :: .int .i64 p.2 :: insCells r := rfl
    rw [e, show (i + 1) * 2 = i * 2 + 1 + 1 by omega, List.getElem?_cons_succ, List.getElem?_cons_succ, List.getElem?_cons_succ, List.getElem?_cons_succ]
    exact ih
theorem insCells_len (l : List (Int × Int)) : (insCells l).length = l.length * 2 := by
  induction l with
  | nil => rfl
  | cons p r ih =>
    have e : insCells (p :: r) = .int .i64 p.1 :: .int .i64 p.2 :: insCells r := rfl
    rw [e, List.length_cons, List.length_cons, ih, List.length_cons]; omega
theorem fnsCells_get : ∀ (l : List Fn) (i j : Nat), i < l.length → j < 5 → (fnsCells l)[i * 5 + j]? = (fnCells (l.getD i default))[j]?
  | [], i, _, h, _ => by simp at h
  | p :: r, 0, j, _, hj => by
    have e : fnsCells (p :: r) = fnCells p ++ fnsCells r := rfl
    rw [e, List.getElem?_append_left (by show 0 * 5 + j < 5; omega)]
    simp
  | p :: r, i + 1, j, h, hj => by
    have ih := fnsCells_get r i j (by simpa using h) hj
    have e : fnsCells (p :: r) = fnCells p ++ fnsCells r := rfl
    rw [e, List.getElem?_append_right (by show 5 ≤ (i + 1) * 5 + j; omega)]
    have e2 : (i + 1) * 5 + j - (fnCells p).length = i * 5 + j := by show (i + 1) * 5 + j - 5 = _; omega
    rw [e2, ih]
    rfl
abbrev Any1 : Nat → Prop := fun _ => True
def I64 (x : Int) : Prop := -9223372036854775808 ≤ x ∧ x ≤ 9223372036854775807
structure FnR (w : World) (f : Fn) : Prop where
  row : SlR Any1 w 2 f.v f.code.length (insCells f.code)
  len : f.code.length ≤ 140737488351232
  nlen : f.name.size ≤ 140737488351232
  lb : I64 f.locals
  ib : ∀ p ∈ f.code, I64 p.1 ∧ I64 p.2
structure CdR (w : World) (a fv : Value) (c : Cd) : Prop where
  flds : SlR Any1 w 1 a c.fields.length (c.fields.map (.int .i64))
  fns : SlR Any1 w 5 fv c.funcs.length (fnsCells c.funcs)
  fn : ∀ f ∈ c.funcs, FnR w f
  l1 : c.fields.length ≤ 140737488351232
  l2 : c.funcs.length ≤ 140737488351232
  gb : I64 c.glob
variable {w w' : World} {a fv : Value} {c : Cd} {f : Fn}
theorem FnR.kept (h : FnR w f) (hu : Ext w w') : FnR w' f := ⟨h.row.kept hu (fun _ _ x => x), h.len, h.nlen, h.lb, h.ib⟩
theorem CdR.kept (h : CdR w a fv c) (hu : Ext w w') : CdR w' a fv c := ⟨h.flds.kept hu (fun _ _ x => x), h.fns.kept hu (fun _ _ x => x), fun f hf => (h.fn f hf).kept hu, h.l1, h.l2, h.gb⟩
theorem CdR.shapes (h : CdR w a fv c) : (∃ x cap, a = .slice x c.fields.length cap) ∧ ∃ x cap, fv = .slice x c.funcs.length cap := ⟨h.flds.shape, h.fns.shape⟩
theorem FnR.shape (h : FnR w f) : ∃ x cap, f.v = .slice x f.code.length cap := h.row.shape
theorem fn_mem {l : List Fn} {i : Nat} (h : i < l.length) : l.getD i default ∈ l := by simp [h]
/-- the five cells of a function -/
theorem CdR.at (h : CdR w a fv c) {i : Nat} (hi : i < c.funcs.length) : ∃ g off cap, fv = .slice (some ⟨g, off, none⟩) c.funcs.length cap ∧ c.funcs.length ≤ cap ∧
    w.cell? ⟨g, off + i * 5, none⟩ = some (.string (c.funcs.getD i default).name) ∧ w.cell? ⟨g, off + i * 5 + 1, none⟩ = some (.int .i64 (c.funcs.getD i default).params) ∧
    w.cell? ⟨g, off + i * 5 + 2, none⟩ = some (.int .i64 (c.funcs.getD i default).locals) ∧ w.cell? ⟨g, off + i * 5 + 3, none⟩ = some (.bool (c.funcs.getD i default).result) ∧
    w.cell? ⟨g, off + i * 5 + 4, none⟩ = some (c.funcs.getD i default).v ∧ FnR w (c.funcs.getD i default) := by
  obtain ⟨g, off, cap, hv, hc, _, hj⟩ := h.fns.pos (by omega)
  have key : ∀ j, j < 5 → w.cell? ⟨g, off + i * 5 + j, none⟩ = (fnCells (c.funcs.getD i default))[j]? := fun j hj5 => by
    have := hj (i * 5 + j) (by omega)
    rw [fnsCells_get _ _ _ hi hj5, ← Nat.add_assoc] at this
    exact this
  exact ⟨g, off, cap, hv, hc, key 0 (by decide), key 1 (by decide), key 2 (by decide), key 3 (by decide), key 4 (by decide), h.fn _ (fn_mem hi)⟩
/-- the two cells of an instruction -/
theorem FnR.at (h : FnR w f) {i : Nat} (hi : i < f.code.length) : ∃ g off cap, f.v = .slice (some ⟨g, off, none⟩) f.code.length cap ∧ f.code.length ≤ cap ∧
    w.cell? ⟨g, off + i * 2, none⟩ = some (.int .i64 (f.code.getD i (0, 0)).1) ∧ w.cell? ⟨g, off + i * 2 + 1, none⟩ = some (.int .i64 (f.code.getD i (0, 0)).2) := by
  obtain ⟨g, off, cap, hv, hc, _, hj⟩ := h.row.pos (by omega)
  obtain ⟨c1, c2⟩ := insCells_get f.code i hi
  refine ⟨g, off, cap, hv, hc, ?_, ?_⟩
  · have := hj (i * 2) (by omega); rw [c1] at this; exact this
  · have := hj (i * 2 + 1) (by omega); rw [c2, ← Nat.add_assoc] at this; exact this
theorem CdR.fld (h : CdR w a fv c) {i : Nat} (hi : i < c.fields.length) : ∃ g off cap, a = .slice (some ⟨g, off, none⟩) c.fields.length cap ∧ c.fields.length ≤ cap ∧ w.cell? ⟨g, off + i, none⟩ = some (.int .i64 (c.fields.getD i 0)) := by
  obtain ⟨g, off, cap, hv, hc, _, hj⟩ := h.flds.pos (by omega)
  refine ⟨g, off, cap, hv, hc, ?_⟩
  have := hj i (by omega)
  rw [this]; simp [hi]

/-! ### the plain functions -/
def totL (l : List Fn) : Nat := (l.map fun f => f.code.length).sum
def fldB (n : Int) : Bool := decide (0 ≤ n ∧ n ≤ 12)
def fn1B (f : Fn) : Bool := nmB f.name && decide (0 ≤ f.params ∧ f.params ≤ 6 ∧ f.params ≤ f.locals ∧ f.locals ≤ 100 ∧ 1 ≤ f.code.length ∧ f.code.length ≤ 1048576)
def twB (l : List Fn) (i : Nat) : Bool := (l.take i).any fun g => decide (g.name = (l.getD i default).name)
def fnAt (l : List Fn) (i : Nat) : Bool := fn1B (l.getD i default) && !twB l i
def headB (c : Cd) : Bool := (decide (c.fields.length ≤ 12) && c.fields.all fldB) && (decide (0 ≤ c.glob ∧ c.glob ≤ 8 ∧ c.funcs.length ≤ 40) && (List.range c.funcs.length).all (fnAt c.funcs))
def belB (x n : Int) : Bool := decide (0 ≤ x ∧ x < n)
def rightB (c : Cd) (f : Fn) (op x : Int) : Bool :=
  if op = 1 then decide (-1099511627776 ≤ x ∧ x ≤ 1099511627776)
  else if op = 2 ∨ op = 3 then belB x f.locals
  else if op = 4 ∨ op = 5 then belB x c.glob
  else if op = 6 ∨ op = 7 then belB x 12
  else if op = 8 then belB x c.fields.length
  else if op = 9 then belB x c.funcs.length
  else if op = 11 ∨ op = 12 then belB x f.code.length
  else decide (1 ≤ op ∧ op ≤ 31) && decide (x = 0)
theorem range_stop (p : Nat → Bool) (n i : Nat) (hi : i < n) (h : p i = false) : (List.range n).all p = false := by
  rw [List.all_eq_false]; exact ⟨i, List.mem_range.2 hi, by rw [h]; decide⟩
theorem range_all (p : Nat → Bool) (n : Nat) (h : ∀ i, i < n → p i = true) : (List.range n).all p = true := by
  rw [List.all_eq_true]; exact fun i hi => h i (List.mem_range.1 hi)
theorem list_stop {α : Type} [Inhabited α] (p : α → Bool) (l : List α) (i : Nat) (d : α) (hi : i < l.length) (h : p (l.getD i d) = false) : l.all p = false := by
  rw [List.all_eq_false]; exact ⟨l.getD i d, by simp [hi], by rw [h]; decide⟩
theorem list_all {α : Type} [Inhabited α] (p : α → Bool) (l : List α) (d : α) (h : ∀ i, i < l.length → p (l.getD i d) = true) : l.all p = true := by
  rw [List.all_eq_true]
  intro x hx
  obtain ⟨i, hi, rfl⟩ := List.getElem_of_mem hx
  have := h i hi
  simpa [hi] using this

end Go.Proofs.YtlbnilhbfiidmaaDoor
