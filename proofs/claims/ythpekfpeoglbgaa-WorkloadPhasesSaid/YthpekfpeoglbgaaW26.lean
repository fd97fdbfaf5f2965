/- Parts of a script. -/
import Derived.Test.YthpekfpeoglbgaaW25
namespace Go.Proofs.Ythpekfpeoglbgaa
open Go.RowKit Go.Hw
set_option linter.unusedVariables false
set_option linter.unusedSimpArgs false

section
variable {P : Program} {w : World}
/-- x[l:h] -/
theorem wpList_slice_lh {ops : Array Oper} {rest : List Oper} {o : Oper} {a : Act} {Q : Exit → Act → World → Prop} (hgd : o.guard = none) (t : TypeId) (x l h : Operand)
    (ho : o.op = .slice t x (some l) (some h) none) (size : Nat) (ht : P.underlying t = some (.slice (P.elem t))) (hsz : ∀ w, (sizeOf (P.elem t)).run P w = .ok size w)
    (ad : Option Addr) (n cap : Nat) (hx : a.eval x = .slice ad n cap) (kl kh : IntKind) (i j : Nat) (hl : a.eval l = .int kl (i : Int)) (hh : a.eval h = .int kh (j : Int)) (hij : i ≤ j) (hj : j ≤ cap)
    (hn : wpList P ops Q rest (a.put o.dst (sliced ad i j cap size)) w) : wpList P ops Q (o :: rest) a w := by
  refine wpList_plain hgd fun _ hK => ?_
  unfold Oper.wp execOp
  have hr := run_slice_lh (P := P) w t ad n cap ht kl kh (i : Int) (j : Int) (by omega) (by omega) (by omega)
  simp only [hsz, Result.andThen_ok, Int.toNat_natCast] at hr
  simp only [ho, run_sliceAt_slice (P := P) w t _ _ _ _ ht, Sem.run_bind, Sem.run_pure, Result.andThen_ok, Option.map_some, Option.map_none, hx, hl, hh, hr]
  exact hK _ _ hn
end
theorem opCells_take (l : List OpV) (k : Nat) : (opCells l).take (k * 2) = opCells (l.take k) := by
  induction l generalizing k with
  | nil => simp [opCells]
  | cons e l ih =>
    cases k with
    | zero => simp [opCells]
    | succ k =>
      have : (k + 1) * 2 = k * 2 + 1 + 1 := by omega
      rw [this]
      simp only [opCells, List.map_cons, List.flatten_cons, OpV.cells, List.cons_append, List.nil_append, List.take_succ_cons] at ih ⊢
      rw [ih]
theorem opCells_drop (l : List OpV) (k : Nat) : (opCells l).drop (k * 2) = opCells (l.drop k) := by
  induction l generalizing k with
  | nil => simp [opCells]
  | cons e l ih =>
    cases k with
    | zero => simp [opCells]
    | succ k =>
      have : (k + 1) * 2 = k * 2 + 1 + 1 := by omega
      rw [this]
      simp only [opCells, List.map_cons, List.flatten_cons, OpV.cells, List.cons_append, List.nil_append, List.drop_succ_cons] at ih ⊢
      rw [ih]
/-- a part of a script -/
theorem OpsR.part {S : Nat → Prop} {w : World} {a : Option Addr} {m cap : Nat} {l : List OpV} (h : OpsR S w (.slice a m cap) l) {i j : Nat} (hij : i ≤ j) (hj : j ≤ l.length) :
    OpsR S w (sliced a i j cap 2) ((l.take j).drop i) := by
  have h1 := h.row.to rfl j hj
  rw [opCells_take] at h1
  have h2 := h1.from rfl i hij
  rw [opCells_drop] at h2
  have hlen : ((l.take j).drop i).length = j - i := by rw [List.length_drop, List.length_take]; omega
  refine ⟨by rw [hlen]; exact h2, fun o ho => h.arg o (List.mem_of_mem_take (List.mem_of_mem_drop ho))⟩
theorem csL_part (l : List OpV) (i j : Nat) (hij : i ≤ j) : csL ((l.take j).drop i) = seg (csL l) i j := by
  unfold seg
  rw [List.drop_take]
  simp only [csL, codesL, opsL, List.map_take, List.map_drop]
theorem UN_le' (K : Nat) (cs : List Int) (i j : Nat) (h : i ≤ j) (hj : j ≤ cs.length) : UN K cs i j ≤ (j : Int) - i := by
  have := un_le K (seg cs i j)
  rw [seg_length cs i j h hj] at this
  unfold UN; omega
theorem cost_le (U : Nat → Nat → Int) (n : Nat) (hU : ∀ i j, i ≤ j → j ≤ n → U i j ≤ (j : Int) - i) : ∀ (s : List Nat) (i : Nat), Dv n i s → i ≤ n → cost U n s ≤ (n : Int) - i := by
  intro s; induction s with
  | nil => intro i h hi; simp only [cost]; have : i = n := h; omega
  | cons j r ih =>
    intro i h hi
    obtain ⟨rfl, h1, h2, h3⟩ := h
    have h4 : r.headD n ≤ n := by
      cases r with
      | nil => simp
      | cons k t => obtain ⟨_, h5, _⟩ := h3; simp; omega
    have := ih _ h3 h4
    have := hU i (r.headD n) (by omega) h4
    simp only [cost]; omega

end Go.Proofs.Ythpekfpeoglbgaa
