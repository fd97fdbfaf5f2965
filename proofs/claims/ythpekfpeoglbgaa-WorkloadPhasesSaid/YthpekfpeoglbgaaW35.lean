/- Rows of divisions. -/
import Derived.Test.YthpekfpeoglbgaaW34
import Derived.Test.YthpekfpeoglbgaaW26
namespace Go.Proofs.Ythpekfpeoglbgaa
open Go.RowKit Go.Hw
set_option linter.unusedVariables false
set_option linter.unusedSimpArgs false

/-- a division as it lies -/
structure DivV where
  st : List Nat
  v : Value
section
variable (C : List Nat → Int)
def DivV.cells (d : DivV) : List Value := [d.v, .int .i64 (C d.st)]
def divCells (L : List DivV) : List Value := (L.map (DivV.cells C)).flatten
def DivV.zero : DivV := ⟨[], .slice none 0 0⟩
theorem divCells_length (L : List DivV) : (divCells C L).length = L.length * 2 := by
  induction L with
  | nil => rfl
  | cons d L ih => simp only [divCells, List.map_cons, List.flatten_cons, List.length_append, DivV.cells, List.length_cons, List.length_nil] at ih ⊢; omega
theorem divCells_cons (d : DivV) (L : List DivV) : divCells C (d :: L) = d.v :: .int .i64 (C d.st) :: divCells C L := rfl
theorem divCells_get (L : List DivV) : ∀ (i : Nat), i < L.length → (divCells C L)[i * 2]? = some (L.getD i .zero).v ∧ (divCells C L)[i * 2 + 1]? = some (.int .i64 (C (L.getD i .zero).st)) := by
  induction L with
  | nil => intro i h; cases h
  | cons d L ih =>
    intro i h
    cases i with
    | zero => exact ⟨rfl, rfl⟩
    | succ i =>
      have h1 := ih i (Nat.lt_of_succ_lt_succ h)
      have e1 : (i + 1) * 2 = i * 2 + 1 + 1 := by omega
      have e2 : (i + 1) * 2 + 1 = i * 2 + 1 + 1 + 1 := by omega
      rw [divCells_cons, e1]
      simp only [List.getElem?_cons_succ, List.getD_cons_succ]
      exact h1
theorem divCells_set (L : List DivV) (d : DivV) : ∀ (i : Nat), i < L.length → divCells C (L.set i d) = ((divCells C L).set (i * 2) d.v).set (i * 2 + 1) (.int .i64 (C d.st)) := by
  induction L with
  | nil => intro i h; cases h
  | cons e L ih =>
    intro i h
    cases i with
    | zero => rfl
    | succ i =>
      have h1 := ih i (Nat.lt_of_succ_lt_succ h)
      have e1 : (i + 1) * 2 = i * 2 + 1 + 1 := by omega
      rw [divCells_cons, List.set_cons_succ, divCells_cons, e1]
      simp only [List.set_cons_succ]
      rw [h1]
theorem divCells_rep (n : Nat) (h0 : C [] = 0) : divCells C (List.replicate n DivV.zero) = (List.replicate n [Value.slice none 0 0, .int .i64 0]).flatten := by
  unfold divCells
  rw [List.map_replicate]
  congr 2
  simp [DivV.cells, DivV.zero, h0]
theorem divCells_one : ∀ (L : List DivV), (∀ d ∈ L, ∃ a n c, d.v = .slice a n c) → ∀ u ∈ divCells C L, u.oneCell' = true
  | [], _, u, hu => by cases hu
  | d :: L, h, u, hu => by
    rw [divCells_cons] at hu
    rcases List.mem_cons.1 hu with e | hu
    · obtain ⟨a, n, c, hv⟩ := h d List.mem_cons_self
      rw [e, hv]; rfl
    · rcases List.mem_cons.1 hu with e | hu
      · rw [e]; rfl
      · exact divCells_one L (fun d hd => h d (List.mem_cons_of_mem _ hd)) u hu
/-- a row of divisions in block g, the rows' blocks G -/
structure DivR (G : Nat → Prop) (w : World) (g : Nat) (L : List DivV) : Prop where
  row : ∃ arr, w.heap[g]? = some (.cells arr 71 (0, 0)) ∧ ∀ j, j < L.length * 2 → arr[j]? = (divCells C L)[j]?
  mem : G g
  st : ∀ d ∈ L, NumR (fun k => k < w.heap.size ∧ ¬ G k) w d.v (ints d.st)
variable {C}
theorem DivR.cell {G : Nat → Prop} {w : World} {g : Nat} {L : List DivV} (h : DivR C G w g L) {i : Nat} (hi : i < L.length) :
    w.cell? ⟨g, i * 2, none⟩ = some (L.getD i .zero).v ∧ w.cell? ⟨g, i * 2 + 1, none⟩ = some (.int .i64 (C (L.getD i .zero).st)) ∧ w.frozen? ⟨g, i * 2, none⟩ = false ∧ w.frozen? ⟨g, i * 2 + 1, none⟩ = false := by
  obtain ⟨arr, h1, h2⟩ := h.row
  have h3 := divCells_get C L i hi
  exact ⟨cellRow h1 _ _ (by rw [h2 _ (by omega)]; exact h3.1), cellRow h1 _ _ (by rw [h2 _ (by omega)]; exact h3.2), frozenRow h1 _, frozenRow h1 _⟩
theorem DivR.lt {G : Nat → Prop} {w : World} {g : Nat} {L : List DivV} (h : DivR C G w g L) : g < w.heap.size := by
  obtain ⟨arr, h1, _⟩ := h.row
  exact (Array.getElem?_eq_some_iff.1 h1).1
theorem DivR.kept {G F : Nat → Prop} {w w' : World} {g : Nat} {L : List DivV} (h : DivR C G w g L) (hu : Upd F w w') (h1 : ¬ F g) (h2 : ∀ k, k < w.heap.size → F k → G k) : DivR C G w' g L := by
  obtain ⟨arr, h3, h4⟩ := h.row
  refine ⟨⟨arr, hu.heap h3 h1, h4⟩, h.mem, fun d hd => ?_⟩
  exact ((h.st d hd).kept hu (fun k hk hf => hk.2 (h2 k hk.1 hf))).weaken (fun k hk => ⟨Nat.lt_of_lt_of_le hk.1 hu.size, hk.2⟩)
theorem DivR.regroup {G H : Nat → Prop} {w : World} {g : Nat} {L : List DivV} (h : DivR C G w g L) (h1 : H g) (h2 : ∀ k, k < w.heap.size → H k → G k) : DivR C H w g L :=
  ⟨h.row, h1, fun d hd => (h.st d hd).weaken (fun k hk => ⟨hk.1, fun hh => hk.2 (h2 k hk.1 hh)⟩)⟩
theorem DivR.set {G : Nat → Prop} {w : World} {g : Nat} {L : List DivV} (h : DivR C G w g L) {i : Nat} (hi : i < L.length) (d : DivV) (hd : NumR (fun k => k < w.heap.size ∧ ¬ G k) w d.v (ints d.st)) :
    DivR C G ((w.setCell ⟨g, i * 2, none⟩ d.v).setCell ⟨g, i * 2 + 1, none⟩ (.int .i64 (C d.st))) g (L.set i d) := by
  obtain ⟨arr, h1, h2⟩ := h.row
  have hu : Upd (fun k => k = g) w ((w.setCell ⟨g, i * 2, none⟩ d.v).setCell ⟨g, i * 2 + 1, none⟩ (.int .i64 (C d.st))) :=
    ((Upd.refl (fun k => k = g) w).setCell (p := ⟨g, i * 2, none⟩) (.inl rfl) _).setCell (p := ⟨g, i * 2 + 1, none⟩) (.inl rfl) _
  refine ⟨⟨_, setBlock (setBlock h1 _ _) _ _, fun j hj => ?_⟩, h.mem, fun x hx => ?_⟩
  · rw [List.length_set] at hj
    rw [divCells_set C L d i hi]
    simp only [Array.getElem?_setIfInBounds, List.getElem?_set, Array.size_setIfInBounds, List.length_set, divCells_length]
    have e := h2 j hj
    have hs : j < arr.size := by
      rcases Nat.lt_or_ge j arr.size with h | h
      · exact h
      · rw [Array.getElem?_eq_none h, List.getElem?_eq_getElem (by rw [divCells_length]; exact hj)] at e; cases e
    by_cases a1 : i * 2 + 1 = j
    · subst a1; simp [hs, hj]
    · by_cases a2 : i * 2 = j
      · subst a2; simp [a1, hs, hj]
      · simp only [if_neg a1, if_neg a2]; exact e
  · have hx' : x ∈ L ∨ x = d := List.mem_or_eq_of_mem_set hx
    have hn : NumR (fun k => k < w.heap.size ∧ ¬ G k) w x.v (ints x.st) := by
      rcases hx' with h3 | h3
      · exact h.st x h3
      · rw [h3]; exact hd
    exact (hn.kept hu (fun k hk hf => hk.2 (hf ▸ h.mem))).weaken (fun k hk => ⟨Nat.lt_of_lt_of_le hk.1 hu.size, hk.2⟩)
theorem DivR.slr {G : Nat → Prop} {w : World} {g cp m : Nat} {L : List DivV} (h : DivR C G w g L) (hm : L.length = m) (hc : m ≤ cp) : SlR (fun k => k = g) w 2 (.slice (some ⟨g, 0, none⟩) m cp) m (divCells C L) := by
  subst hm
  obtain ⟨arr, h1, h2⟩ := h.row
  exact SlR.mk' (by rw [divCells_length]) rfl hc (fun _ => rfl) (fun j hj => by
    rw [Nat.zero_add, cell_of_row w g j arr 71 _ h1]; exact h2 j hj)
theorem DivR.ones {G : Nat → Prop} {w : World} {g : Nat} {L : List DivV} (h : DivR C G w g L) : ∀ u ∈ divCells C L, u.oneCell' = true :=
  divCells_one C L fun d hd => by
    obtain ⟨a, c, e⟩ := (h.st d hd).shape
    exact ⟨a, _, c, e⟩
theorem divrow_own {w : World} {B m : Nat} {v : Value} {L : List DivV} (h : w.ownsRow B 71 2 v m (divCells C L)) (hm : L.length = m) (hpos : 0 < m) :
    ∃ g cp, v = .slice (some ⟨g, 0, none⟩) m cp ∧ B ≤ g ∧ m ≤ cp ∧ g < w.heap.size ∧ ∃ arr, w.heap[g]? = some (.cells arr 71 (0, 0)) ∧ ∀ j, j < L.length * 2 → arr[j]? = (divCells C L)[j]? := by
  rcases h.2 with ⟨_, h2⟩ | ⟨g, cap, cur, rfl, hb, hg, hc, hmx, hs, ht⟩
  · omega
  · refine ⟨g, cap, rfl, hb, hc, (Array.getElem?_eq_some_iff.1 hg).1, cur, hg, fun j hj => ?_⟩
    rw [← ht, List.getElem?_take_of_lt (by rw [← hm]; exact hj)]
    simp
theorem own_empty {w : World} {B b : Nat} (hb : w.heap[b]? = some (.cells #[] 71 (0, 0))) (h : B ≤ b) : w.ownsRow B 71 2 (.slice (some ⟨b, 0, none⟩) 0 0) 0 [] :=
  ⟨rfl, .inr ⟨b, 0, #[], rfl, h, hb, Nat.le_refl _, Nat.zero_le _, rfl, rfl⟩⟩
theorem own_one {w : World} {B b : Nat} {i : Int} (hb : w.heap[b]? = some (.cells #[.int .i64 i] 3 (0, 0))) (h : B ≤ b) : w.ownsRow B 3 1 (.slice (some ⟨b, 0, none⟩) 1 1) 1 [.int .i64 i] :=
  ⟨rfl, .inr ⟨b, 1, _, rfl, h, hb, Nat.le_refl _, by decide, rfl, rfl⟩⟩
theorem run_lh {P : Program} {w : World} (t : TypeId) (size : Nat) (ht : P.underlying t = some (.slice (P.elem t))) (hsz : ∀ w, (sizeOf (P.elem t)).run P w = .ok size w)
    (ad : Option Addr) (n cap : Nat) (kl kh : IntKind) (i j : Nat) (hij : i ≤ j) (hj : j ≤ cap) : (Instr.sliceAt t (.slice ad n cap) (some (.int kl (i : Int))) (some (.int kh (j : Int))) none).run P w = .ok (sliced ad i j cap size) w := by
  have hr := run_slice_lh (P := P) w t ad n cap ht kl kh (i : Int) (j : Int) (by omega) (by omega) (by omega)
  simp only [hsz, Result.andThen_ok, Int.toNat_natCast] at hr
  rw [run_sliceAt_slice (P := P) w t _ _ _ _ ht, hr]
end
theorem info71 : (Try.prog.info? 71).map (fun i => (i.zero, i.size, i.bytes)) = some (some (.agg #[.slice none 0 0, .int .i64 0]), 2, 32) := by kernel_rfl
theorem size69 (w : World) : (sizeOf (Try.prog.elem 69)).run Try.prog w = .ok 2 w := by kernel_rfl
section
variable {P : Program} {w : World}
/-- x[l:] -/
theorem wpList_slice_l {ops : Array Oper} {rest : List Oper} {o : Oper} {a : Act} {Q : Exit → Act → World → Prop} (hgd : o.guard = none) (t : TypeId) (x l : Operand)
    (ho : o.op = .slice t x (some l) none none) (size : Nat) (ht : P.underlying t = some (.slice (P.elem t))) (hsz : ∀ w, (sizeOf (P.elem t)).run P w = .ok size w)
    (ad : Option Addr) (n cap : Nat) (hx : a.eval x = .slice ad n cap) (kl : IntKind) (i : Nat) (hl : a.eval l = .int kl (i : Int)) (hij : i ≤ n)
    (hn : wpList P ops Q rest (a.put o.dst (sliced ad i n cap size)) w) : wpList P ops Q (o :: rest) a w := by
  refine wpList_plain hgd fun _ hK => ?_
  unfold Oper.wp execOp
  have hr := run_slice_l (P := P) w t ad n cap ht kl (i : Int) (by omega) (by omega)
  simp only [hsz, Result.andThen_ok, Int.toNat_natCast] at hr
  simp only [ho, run_sliceAt_slice (P := P) w t _ _ _ _ ht, Sem.run_bind, Sem.run_pure, Result.andThen_ok, Option.map_some, Option.map_none, hx, hl, hr]
  exact hK _ _ hn
end

end Go.Proofs.Ythpekfpeoglbgaa
