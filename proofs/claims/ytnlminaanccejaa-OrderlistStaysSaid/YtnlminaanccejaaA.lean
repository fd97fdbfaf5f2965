/- The list of the Go package orderlist as plain data, and its place in memory. -/
import Derived.Test.YtnlminaanccejaaRows
import Derived.Test.YtnlminaanccejaaL1
namespace Go.Proofs.Ytnlminaanccejaa
open Go.RowKit Go.Hw
set_option linter.unusedVariables false
set_option linter.unusedSimpArgs false

/-- two results -/
def two (p : Int × Int) : Value := .tuple #[.int .i64 p.1, .int .i64 p.2]
/-- numbers as values -/
def ints (l : List Nat) : List Value := l.map fun (n : Nat) => Value.int .i64 (n : Int)
theorem info3 : (Try.prog.info? 3).map (fun i => (i.zero, i.size, i.bytes)) = some (some (.int .i64 0), 1, 8) := by kernel_rfl

structure El where
  label : Int
  prev : Int
  nxt : Int
  inn : Bool
deriving Inhabited

def El.cells (e : El) : List Value := [.int .i64 e.label, .int .i64 e.prev, .int .i64 e.nxt, .bool e.inn]

structure LM where
  l : List El
  first : Int
  last : Int
  n : Int
  moves : Int

def elCells (l : List El) : List Value := (l.map El.cells).flatten

theorem elCells_nil : elCells [] = [] := rfl
theorem elCells_cons (e : El) (l : List El) : elCells (e :: l) = e.cells ++ elCells l := rfl
theorem elCells_append (l r : List El) : elCells (l ++ r) = elCells l ++ elCells r := by simp [elCells]
theorem elCells_length (l : List El) : (elCells l).length = l.length * 4 := by
  induction l with
  | nil => rfl
  | cons e l ih => rw [elCells_cons, List.length_append, ih]; simp [El.cells]; omega

theorem elCells_get (l : List El) (i j : Nat) (h : i < l.length) (hj : j < 4) : (elCells l)[i * 4 + j]? = (l.getD i default).cells[j]? := by
  induction l generalizing i with
  | nil => simp at h
  | cons e l ih =>
    rw [elCells_cons]
    cases i with
    | zero => rw [List.getElem?_append_left (by simp [El.cells]; omega)]; simp
    | succ i =>
      rw [List.getElem?_append_right (by simp [El.cells]; omega)]
      have : (i + 1) * 4 + j - e.cells.length = i * 4 + j := by simp [El.cells]; omega
      rw [this, ih i (by simpa using h)]; simp

theorem elCells_set (l : List El) (i j : Nat) (h : i < l.length) (hj : j < 4) (e' : El) (u : Value)
    (he : (l.getD i default).cells.set j u = e'.cells) : (elCells l).set (i * 4 + j) u = elCells (l.set i e') := by
  induction l generalizing i with
  | nil => simp at h
  | cons e l ih =>
    cases i with
    | zero =>
      simp at he
      rw [List.set_cons_zero, elCells_cons, elCells_cons, List.set_append_left _ _ (by simp [El.cells]; omega)]
      simp [he]
    | succ i =>
      rw [List.set_cons_succ, elCells_cons, elCells_cons, List.set_append_right _ _ (by simp [El.cells]; omega)]
      have : (i + 1) * 4 + j - e.cells.length = i * 4 + j := by simp [El.cells]; omega
      rw [this, ih i (by simpa using h) (by simpa using he)]

/-- The list lies at block b. -/
def LRep (base : Nat) (w : World) (b : Nat) (v : Value) (M : LM) : Prop :=
  w.heap[b]? = some (.cells #[v, .int .i64 M.first, .int .i64 M.last, .int .i64 M.n, .int .i64 M.moves] 59 (0, 0)) ∧ base ≤ b ∧
  w.ownsRow base 61 4 v M.l.length (elCells M.l) ∧ v.ownBlock ≠ some b

section
variable {base : Nat} {w : World} {b : Nat} {v : Value} {M : LM}
theorem LRep.c0 (h : LRep base w b v M) : w.cell? ⟨b, 0, none⟩ = some v := by rw [cell_of_row w b 0 _ _ _ h.1]; rfl
theorem LRep.c1 (h : LRep base w b v M) : w.cell? ⟨b, 1, none⟩ = some (.int .i64 M.first) := by rw [cell_of_row w b 1 _ _ _ h.1]; rfl
theorem LRep.c2 (h : LRep base w b v M) : w.cell? ⟨b, 2, none⟩ = some (.int .i64 M.last) := by rw [cell_of_row w b 2 _ _ _ h.1]; rfl
theorem LRep.c3 (h : LRep base w b v M) : w.cell? ⟨b, 3, none⟩ = some (.int .i64 M.n) := by rw [cell_of_row w b 3 _ _ _ h.1]; rfl
theorem LRep.c4 (h : LRep base w b v M) : w.cell? ⟨b, 4, none⟩ = some (.int .i64 M.moves) := by rw [cell_of_row w b 4 _ _ _ h.1]; rfl
theorem LRep.fz (h : LRep base w b v M) (j : Nat) : w.frozen? ⟨b, j, none⟩ = false := frozen_of_row w b j _ _ h.1
theorem LRep.row (h : LRep base w b v M) (hx : 0 < M.l.length) : ∃ g cap, v = .slice (some ⟨g, 0, none⟩) M.l.length cap ∧ g ≠ b ∧ base ≤ g ∧ g < w.heap.size := by
  rcases h.2.2.1.2 with ⟨_, h2⟩ | ⟨g, cap, cur, hv, hb, hg, _⟩
  · omega
  · refine ⟨g, cap, hv, ?_, hb, (Array.getElem?_eq_some_iff.1 hg).1⟩
    intro e; subst e; exact h.2.2.2 (by simp [hv, Value.ownBlock])
theorem LRep.el {g cap : Nat} (h : LRep base w b v M) (hv : v = .slice (some ⟨g, 0, none⟩) M.l.length cap) {i : Nat} (hi : i < M.l.length) {j : Nat} (hj : j < 4) :
    w.cell? ⟨g, i * 4 + j, none⟩ = (M.l.getD i default).cells[j]? := by
  subst hv
  rw [h.2.2.1.cellAt (i * 4 + j) (by omega), elCells_get _ _ _ hi hj]
end

end Go.Proofs.Ytnlminaanccejaa
namespace Go.Proofs.Ytnlminaanccejaa
open Go.RowKit Go.Hw
set_option linter.unusedVariables false
set_option linter.unusedSimpArgs false

/-- The blocks of a list. -/
def own (b : Nat) (v : Value) : Nat → Prop := fun k => k = b ∨ v.ownBlock = some k

section
variable {base : Nat} {w : World} {b : Nat} {v : Value} {M : LM}
theorem LRep.ownsBase (h : LRep base w b v M) : ∀ k, own b v k → base ≤ k := by
  intro k hk
  rcases hk with rfl | hk
  · exact h.2.1
  · exact (h.2.2.1.lt k hk).1
theorem LRep.lt (h : LRep base w b v M) : b < w.heap.size := (Array.getElem?_eq_some_iff.1 h.1).1
theorem LRep.ownsLt (h : LRep base w b v M) : ∀ k, own b v k → k < w.heap.size := by
  intro k hk
  rcases hk with rfl | hk
  · exact h.lt
  · exact (h.2.2.1.lt k hk).2
theorem LRep.kept {F : Nat → Prop} {w' : World} (h : LRep base w b v M) (hu : Upd F w w') (hF : ∀ k, own b v k → ¬ F k) : LRep base w' b v M := by
  refine ⟨by rw [hu.block b h.lt (hF b (.inl rfl))]; exact h.1, h.2.1, ?_, h.2.2.2⟩
  refine ⟨h.2.2.1.1, ?_⟩
  rcases h.2.2.1.2 with hn | ⟨g, cap, cur, rfl, hb, hgg, rest⟩
  · exact .inl hn
  · refine .inr ⟨g, cap, cur, rfl, hb, ?_, rest⟩
    rw [hu.block g (Array.getElem?_eq_some_iff.1 hgg).1 (hF g (.inr rfl))]
    exact hgg
theorem LRep.row_kept (h : LRep base w b v M) (j : Nat) (u : Value) : (w.setCell ⟨b, j, none⟩ u).ownsRow base 61 4 v M.l.length (elCells M.l) :=
  h.2.2.1.kept (row := some b) ⟨rfl, rfl, rfl, by simp [World.setCell], fun k _ hk => Below.heap_setCell _ _ _ _ (by intro e; exact hk (by rw [e]))⟩ (.inr h.2.2.2)
theorem LRep.set1 (h : LRep base w b v M) (y : Int) : LRep base (w.setCell ⟨b, 1, none⟩ (.int .i64 y)) b v { M with first := y } :=
  ⟨by rw [heap_setCell_same w b 1 _ _ _ h.1]; simp, h.2.1, h.row_kept _ _, h.2.2.2⟩
theorem LRep.set2 (h : LRep base w b v M) (y : Int) : LRep base (w.setCell ⟨b, 2, none⟩ (.int .i64 y)) b v { M with last := y } :=
  ⟨by rw [heap_setCell_same w b 2 _ _ _ h.1]; simp, h.2.1, h.row_kept _ _, h.2.2.2⟩
theorem LRep.set3 (h : LRep base w b v M) (y : Int) : LRep base (w.setCell ⟨b, 3, none⟩ (.int .i64 y)) b v { M with n := y } :=
  ⟨by rw [heap_setCell_same w b 3 _ _ _ h.1]; simp, h.2.1, h.row_kept _ _, h.2.2.2⟩
theorem LRep.set4 (h : LRep base w b v M) (y : Int) : LRep base (w.setCell ⟨b, 4, none⟩ (.int .i64 y)) b v { M with moves := y } :=
  ⟨by rw [heap_setCell_same w b 4 _ _ _ h.1]; simp, h.2.1, h.row_kept _ _, h.2.2.2⟩
theorem LRep.setEl {g cap : Nat} (h : LRep base w b v M) (hv : v = .slice (some ⟨g, 0, none⟩) M.l.length cap) {i : Nat} (hi : i < M.l.length) {j : Nat} (hj : j < 4) (u : Value) (e' : El)
    (he : (M.l.getD i default).cells.set j u = e'.cells) : LRep base (w.setCell ⟨g, i * 4 + j, none⟩ u) b v { M with l := M.l.set i e' } := by
  have hgb : b ≠ g := fun e => h.2.2.2 (by simp [hv, Value.ownBlock, e])
  subst hv
  have h1 := (h.2.2.1.stored (i * 4 + j) u).1
  rw [elCells_set _ _ _ hi hj e' u he] at h1
  refine ⟨by rw [heap_setCell_other _ _ _ _ (by simpa using hgb)]; exact h.1, h.2.1, ?_, h.2.2.2⟩
  simpa using h1
theorem LRep.fzEl {g cap : Nat} (h : LRep base w b v M) (hv : v = .slice (some ⟨g, 0, none⟩) M.l.length cap) (j : Nat) : w.frozen? ⟨g, j, none⟩ = false := by
  subst hv; exact h.2.2.1.frozenAt j
end

def LM.at (M : LM) (x : Int) : El := M.l.getD x.toNat default
def LM.upd (M : LM) (x : Int) (f : El → El) : LM := { M with l := M.l.set x.toNat (f (M.at x)) }
def LM.after (M : LM) (x : Int) : Int := if x < 0 then M.first else (M.at x).nxt
def LM.conn1 (M : LM) (x y : Int) : LM := if x < 0 then { M with first := y } else M.upd x (fun e => { e with nxt := y })
def LM.conn2 (M : LM) (x y : Int) : LM := if y < 0 then { M with last := x } else M.upd y (fun e => { e with prev := x })
def LM.connect (M : LM) (x y : Int) : LM := (M.conn1 x y).conn2 x y

end Go.Proofs.Ytnlminaanccejaa
