/- The operations of a script in memory. -/
import Derived.Test.YthpekfpeoglbgaaGreatDoorRows
import Derived.Test.YthpekfpeoglbgaaGreatDoorL1
import Derived.Test.YthpekfpeoglbgaaGreatDoorP1
namespace Go.Proofs.YthpekfpeoglbgaaGreatDoor
open Go.RowKit Go.Hw
set_option linter.unusedVariables false
set_option linter.unusedSimpArgs false
def nums (l : List Int) : List Value := l.map fun n => Value.int .i64 n
theorem nums_length (l : List Int) : (nums l).length = l.length := by simp [nums]
theorem nums_get (l : List Int) (j : Nat) (h : j < l.length) : (nums l)[j]? = some (.int .i64 (l.getD j 0)) := by simp [nums, h]
theorem nums_append (a b : List Int) : nums (a ++ b) = nums a ++ nums b := by simp [nums]
theorem nums_take (a : List Int) (k : Nat) : nums (a.take k) = (nums a).take k := by simp [nums, List.map_take]
theorem nums_one (l : List Int) : ∀ u ∈ nums l, u.oneCell' = true := by
  intro u hu; simp [nums] at hu; obtain ⟨a, _, rfl⟩ := hu; rfl

/-- a list of numbers in memory -/
def NumR (S : Nat → Prop) (w : World) (v : Value) (l : List Int) : Prop := SlR S w 1 v l.length (nums l)

/-- an operation as it lies: its arguments' slice beside it -/
structure OpV where
  op : OpM
  v : Value
def OpV.cells (o : OpV) : List Value := [.int .i64 o.op.code, o.v]
def opCells (l : List OpV) : List Value := (l.map OpV.cells).flatten
theorem opCells_nil : opCells [] = [] := rfl
theorem opCells_length (l : List OpV) : (opCells l).length = l.length * 2 := by
  induction l with
  | nil => rfl
  | cons e l ih => simp only [opCells, List.map_cons, List.flatten_cons, List.length_append, List.length_cons] at ih ⊢; simp only [OpV.cells, List.length_cons, List.length_nil]; omega
theorem opCells_append (a b : List OpV) : opCells (a ++ b) = opCells a ++ opCells b := by simp [opCells]
def OpV.zero : OpV := ⟨⟨0, []⟩, .slice none 0 0⟩
theorem opCells_get (l : List OpV) (i j : Nat) (h : i < l.length) (hj : j < 2) : (opCells l)[i * 2 + j]? = (OpV.cells (l.getD i .zero))[j]? := by
  induction l generalizing i with
  | nil => simp at h
  | cons e l ih =>
    simp only [opCells, List.map_cons, List.flatten_cons]
    cases i with
    | zero => rw [List.getElem?_append_left (by simp [OpV.cells]; omega)]; simp
    | succ i =>
      rw [List.getElem?_append_right (by simp [OpV.cells]; omega)]
      have : (i + 1) * 2 + j - (OpV.cells e).length = i * 2 + j := by simp [OpV.cells]; omega
      rw [this]
      have := ih i (by simpa using h)
      simp only [opCells] at this
      rw [this]; simp

/-- operations in memory -/
structure OpsR (S : Nat → Prop) (w : World) (v : Value) (l : List OpV) : Prop where
  row : SlR S w 2 v l.length (opCells l)
  arg : ∀ o ∈ l, NumR S w o.v o.op.args
theorem OpsR.kept {F S : Nat → Prop} {w w' : World} {v : Value} {l : List OpV} (h : OpsR S w v l) (hu : Upd F w w') (hF : ∀ k, S k → ¬ F k) : OpsR S w' v l :=
  ⟨h.row.kept hu hF, fun o ho => (h.arg o ho).kept hu hF⟩
theorem OpsR.weaken {S T : Nat → Prop} {w : World} {v : Value} {l : List OpV} (h : OpsR S w v l) (hs : ∀ k, S k → T k) : OpsR T w v l :=
  ⟨h.row.weaken hs, fun o ho => (h.arg o ho).weaken hs⟩
theorem getD_mem {l : List OpV} {i : Nat} (h : i < l.length) : l.getD i .zero ∈ l := by simp [h]
theorem OpsR.at {S : Nat → Prop} {w : World} {v : Value} {l : List OpV} (h : OpsR S w v l) {i : Nat} (hi : i < l.length) :
    ∃ g off cap, v = .slice (some ⟨g, off, none⟩) l.length cap ∧ l.length ≤ cap ∧ S g ∧ w.cell? ⟨g, off + i * 2, none⟩ = some (.int .i64 (l.getD i .zero).op.code) ∧
      w.cell? ⟨g, off + i * 2 + 1, none⟩ = some (l.getD i .zero).v ∧ NumR S w (l.getD i .zero).v (l.getD i .zero).op.args := by
  obtain ⟨g, off, cap, hv, hc, hg, hj⟩ := h.row.pos (by omega)
  refine ⟨g, off, cap, hv, hc, hg, ?_, ?_, h.arg _ (getD_mem hi)⟩
  · have := hj (i * 2 + 0) (by omega)
    rw [opCells_get l i 0 hi (by decide)] at this; exact this
  · have := hj (i * 2 + 1) (by omega)
    rw [opCells_get l i 1 hi (by decide)] at this; exact this


end Go.Proofs.YthpekfpeoglbgaaGreatDoor
