/- The texts L4 TA I9 I10 I11, one behind the other. -/
import Derived.Test.YtiimccogojkldaaGreatDoorYAE
import Derived.Test.YtiimccogojkldaaGreatDoorYAA
import Derived.BigQuiet
import Derived.Test.YtiimccogojkldaaGreatDoorYAB
/- A drawn region walked once, in the order of the text: calls and allocations among its operations are said by what they leave, in whatever later world. -/
namespace Go.Hw
open Go.RowKit
set_option linter.unusedVariables false
set_option linter.unusedSimpArgs false

section
variable {P : Program} {ops : Array Oper} {Q : Exit → Act → World → Prop} {α : Type} {w0 : World} {Qt : Act → World → Prop} {dp : Nat → List Nat} {n : Nat} {md : Region.Mode} {fl : List Nat} {snk : Nat}

/-- what is said of an operation that makes memory: its value, and what is true of it from then on -/
structure Ann (α : Type) where
  val : α → Value
  R : α → World → Prop
  st : ∀ x W W', R x W → Ext W W' → R x W'

variable {ann : Nat → Option (Ann α)}
/-- the walk, in the order of the text -/
def Can (P : Program) (ops : Array Oper) (Qt : Act → World → Prop) (w0 : World) (dp : Nat → List Nat) (ann : Nat → Option (Ann α)) : List Oper → Nat → List (Nat × (World → Prop)) → Act → Prop
  | [], _, G, a => ∀ W, Ext w0 W → (∀ g ∈ G, g.2 W) → Qt a W
  | o :: r, i, G, a => match ann i with
    | none => if Region.wanted o (yielded ops a.tmps) then ∃ v, (∀ W, Ext w0 W → (∀ g ∈ G, g.1 ∈ dp i → g.2 W) → (execOp a.eval o).run P W = .ok (.value v) W) ∧ Can P ops Qt w0 dp ann r (i + 1) G (a.put o.dst v)
        else Can P ops Qt w0 dp ann r (i + 1) G (a.put o.dst undef)
    | some A => Region.wanted o (yielded ops a.tmps) = true ∧
        (∀ W, Ext w0 W → (∀ g ∈ G, g.1 ∈ dp i → g.2 W) → ∀ K : Act → World → Prop, (∀ x W', Ext W W' → A.R x W' → K (a.put o.dst (A.val x)) W') → o.wp P a W K (fun _ _ _ => False)) ∧
        ∀ x, Can P ops Qt w0 dp ann r (i + 1) (G ++ [(i, A.R x)]) (a.put o.dst (A.val x))

def FactAt (P : Program) (ops : Array Oper) (w0 : World) (dp : Nat → List Nat) (ann : Nat → Option (Ann α)) (X : Nat → α) (V : Nat → Value) (i : Nat) (o : Oper) (a : Act) : Prop :=
  match ann i with
  | none => (Region.wanted o (yielded ops a.tmps) = true → ∀ W, Ext w0 W → (∀ j A, j < i → j ∈ dp i → ann j = some A → A.R (X j) W) → (execOp a.eval o).run P W = .ok (.value (V i)) W) ∧
      (Region.wanted o (yielded ops a.tmps) = false → V i = undef)
  | some A => Region.wanted o (yielded ops a.tmps) = true ∧ V i = A.val (X i) ∧
      ∀ W, Ext w0 W → (∀ j A, j < i → j ∈ dp i → ann j = some A → A.R (X j) W) → ∀ K : Act → World → Prop, (∀ x W', Ext W W' → A.R x W' → K (a.put o.dst (A.val x)) W') → o.wp P a W K (fun _ _ _ => False)

def Good (P : Program) (ops : Array Oper) (Qt : Act → World → Prop) (w0 : World) (dp : Nat → List Nat) (ann : Nat → Option (Ann α)) (X : Nat → α) (V : Nat → Value) : List Oper → Nat → Act → Prop
  | [], k, a => ∀ W, Ext w0 W → (∀ j A, j < k → ann j = some A → A.R (X j) W) → Qt a W
  | o :: r, k, a => FactAt P ops w0 dp ann X V k o a ∧ Good P ops Qt w0 dp ann X V r (k + 1) (a.put o.dst (V k))

theorem FactAt.congr {X : Nat → α} {V V' : Nat → Value} {i : Nat} {o : Oper} {a : Act} (h : V i = V' i) (hf : FactAt P ops w0 dp ann X V i o a) : FactAt P ops w0 dp ann X V' i o a := by
  unfold FactAt at *
  rw [← h]; exact hf
theorem Good.congr {X : Nat → α} {V V' : Nat → Value} : ∀ (r : List Oper) (k : Nat) (a : Act), (∀ j, k ≤ j → V j = V' j) → Good P ops Qt w0 dp ann X V r k a → Good P ops Qt w0 dp ann X V' r k a
  | [], _, _, _, h => h
  | o :: r, k, a, he, h => ⟨h.1.congr (he k (Nat.le_refl _)), by rw [← he k (Nat.le_refl _)]; exact Good.congr r (k + 1) _ (fun j hj => he j (by omega)) h.2⟩

theorem good_of_can (X : Nat → α) : ∀ (r : List Oper) (k : Nat) (G : List (Nat × (World → Prop))) (a : Act), Can P ops Qt w0 dp ann r k G a →
    (∀ g ∈ G, ∃ A, ann g.1 = some A ∧ g.1 < k ∧ g.2 = A.R (X g.1)) → ∃ V, Good P ops Qt w0 dp ann X V r k a
  | [], k, G, a, h, hG => ⟨fun _ => undef, fun W hW hR => h W hW fun g hg => by obtain ⟨A, h1, h2, h3⟩ := hG g hg; rw [h3]; exact hR _ _ h2 h1⟩
  | o :: r, k, G, a, h, hG => by
    have hH : ∀ W, (∀ j A, j < k → j ∈ dp k → ann j = some A → A.R (X j) W) → ∀ g ∈ G, g.1 ∈ dp k → g.2 W := fun W hR g hg hd => by
      obtain ⟨A, h1, h2, h3⟩ := hG g hg
      rw [h3]; exact hR _ _ h2 hd h1
    unfold Can at h
    have hG' : ∀ g ∈ G, ∃ A, ann g.1 = some A ∧ g.1 < k + 1 ∧ g.2 = A.R (X g.1) := fun g hg => by
      obtain ⟨A, h1, h2, h3⟩ := hG g hg
      exact ⟨A, h1, by omega, h3⟩
    cases ha : ann k with
    | none =>
      rw [ha] at h
      simp only at h
      by_cases hw : Region.wanted o (yielded ops a.tmps) = true
      · rw [if_pos hw] at h
        obtain ⟨v, hv, h⟩ := h
        obtain ⟨V, hV⟩ := good_of_can X r (k + 1) G _ h hG'
        refine ⟨fun j => if j = k then v else V j, ?_, ?_⟩
        · unfold FactAt
          rw [ha]
          simp only [if_true]
          exact ⟨fun _ W hW hR => hv W hW (hH W hR), fun h => by rw [hw] at h; cases h⟩
        · rw [show (fun j => if j = k then v else V j) k = v from if_pos rfl]
          exact hV.congr _ _ _ (fun j hj => by rw [if_neg (by omega)])
      · rw [if_neg hw] at h
        obtain ⟨V, hV⟩ := good_of_can X r (k + 1) G _ h hG'
        refine ⟨fun j => if j = k then undef else V j, ?_, ?_⟩
        · unfold FactAt
          rw [ha]
          simp only [if_true]
          exact ⟨fun h => absurd h hw, fun _ => trivial⟩
        · rw [show (fun j => if j = k then undef else V j) k = undef from if_pos rfl]
          exact hV.congr _ _ _ (fun j hj => by rw [if_neg (by omega)])
    | some A =>
      rw [ha] at h
      simp only at h
      obtain ⟨hw, hm, h⟩ := h
      obtain ⟨V, hV⟩ := good_of_can X r (k + 1) _ _ (h (X k)) (fun g hg => by
        rcases List.mem_append.1 hg with h1 | h1
        · exact hG' g h1
        · simp only [List.mem_singleton] at h1
          subst h1
          exact ⟨A, ha, Nat.lt_succ_self _, rfl⟩)
      refine ⟨fun j => if j = k then A.val (X k) else V j, ?_, ?_⟩
      · unfold FactAt
        rw [ha]
        simp only [if_true]
        exact ⟨hw, trivial, fun W hW hR K hK => hm W hW (hH W hR) K hK⟩
      · rw [show (fun j => if j = k then A.val (X k) else V j) k = A.val (X k) from if_pos rfl]
        exact hV.congr _ _ _ (fun j hj => by rw [if_neg (by omega)])

/-- the frame behind the first operations -/
def frL (V : Nat → Value) : List Oper → Nat → Act → Act
  | [], _, a => a
  | o :: r, k, a => frL V r (k + 1) (a.put o.dst (V k))
theorem Good.at {X : Nat → α} {V : Nat → Value} : ∀ (r : List Oper) (k : Nat) (a : Act), Good P ops Qt w0 dp ann X V r k a → ∀ i o, r[i]? = some o → FactAt P ops w0 dp ann X V (k + i) o (frL V (r.take i) k a)
  | [], _, _, _, i, o, h => by simp at h
  | p :: r, k, a, h, 0, o, ho => by simp at ho; subst ho; exact h.1
  | p :: r, k, a, h, i + 1, o, ho => by
    rw [List.getElem?_cons_succ] at ho
    have := Good.at r (k + 1) _ h.2 i o ho
    rw [show k + (i + 1) = k + 1 + i by omega]
    exact this
theorem Good.fin {X : Nat → α} {V : Nat → Value} : ∀ (r : List Oper) (k : Nat) (a : Act), Good P ops Qt w0 dp ann X V r k a → ∀ W, Ext w0 W → (∀ j A, j < k + r.length → ann j = some A → A.R (X j) W) → Qt (frL V r k a) W
  | [], _, _, h, W, hW, hR => h W hW hR
  | p :: r, k, a, h, W, hW, hR => Good.fin r (k + 1) _ h.2 W hW (fun j A hj => hR j A (by simp only [List.length_cons]; omega))
theorem put_size (a : Act) (d : Option Tmp) (v : Value) : (a.put d v).tmps.size = a.tmps.size := by cases d <;> simp [Act.put]
theorem put_defers' (a : Act) (d : Option Tmp) (v : Value) : (a.put d v).defers = a.defers := by cases d <;> rfl
theorem put_ne (a : Act) (d : Option Tmp) (v : Value) (t : Nat) (h : d ≠ some t) : (a.put d v).tmps[t]? = a.tmps[t]? := by
  cases d with
  | none => rfl
  | some d => exact Array.getElem?_setIfInBounds_ne (fun e => h (by rw [e]))
theorem put_eq (a : Act) (v : Value) (t : Nat) (h : t < a.tmps.size) : (a.put (some t) v).tmps[t]? = some v := by
  simp [Act.put, h]
theorem frL_size (V : Nat → Value) : ∀ (r : List Oper) (k : Nat) (a : Act), (frL V r k a).tmps.size = a.tmps.size ∧ (frL V r k a).defers = a.defers
  | [], _, _ => ⟨rfl, rfl⟩
  | o :: r, k, a => by have := frL_size V r (k + 1) (a.put o.dst (V k)); exact ⟨this.1.trans (put_size _ _ _), this.2.trans (put_defers' _ _ _)⟩
theorem frL_out (V : Nat → Value) (t : Nat) : ∀ (r : List Oper) (k : Nat) (a : Act), (∀ (j : Nat) o, r[j]? = some o → o.dst ≠ some t) → (frL V r k a).tmps[t]? = a.tmps[t]?
  | [], _, _, _ => rfl
  | o :: r, k, a, h => by
    have h1 := frL_out V t r (k + 1) (a.put o.dst (V k)) (fun j p hp => h (j + 1) p (by simpa using hp))
    have h2 := h 0 o (by simp)
    exact h1.trans (put_ne _ _ _ _ h2)
theorem frL_in (V : Nat → Value) (t : Nat) : ∀ (r : List Oper) (k : Nat) (a : Act) (j : Nat) (o : Oper), r[j]? = some o → o.dst = some t → t < a.tmps.size →
    (∀ (i : Nat) p, r[i]? = some p → p.dst = some t → i = j) → (frL V r k a).tmps[t]? = some (V (k + j))
  | [], _, _, j, o, h, _, _, _ => by simp at h
  | p :: r, k, a, 0, o, h, hd, ht, hu => by
    simp at h
    subst h
    have h1 := frL_out V t r (k + 1) (a.put p.dst (V k)) (fun i q hq he => by have := hu (i + 1) q (by simpa using hq) he; omega)
    refine h1.trans ?_
    rw [hd]; exact put_eq _ _ _ ht
  | p :: r, k, a, j + 1, o, h, hd, ht, hu => by
    rw [List.getElem?_cons_succ] at h
    have h1 := frL_in V t r (k + 1) (a.put p.dst (V k)) j o h hd (by rw [put_size]; exact ht) (fun i q hq he => by have := hu (i + 1) q (by simpa using hq) he; omega)
    rw [show k + (j + 1) = k + 1 + j by omega]
    exact h1
/-- what an operation does hangs on what it looks at -/
theorem same_at {o : Oper} (hs : ∀ cs b, o.op ≠ .select cs b) {a b : Act} (h : ∀ t ∈ o.looksAt ops, a.tmps[t]? = b.tmps[t]?) :
    execOp a.eval o = execOp b.eval o ∧ Region.wanted o (yielded ops a.tmps) = Region.wanted o (yielded ops b.tmps) := by
  constructor
  · refine execOp_congr o hs fun x hx => ?_
    cases x with
    | tmp t =>
      have := h t (List.mem_append_left _ (List.mem_filterMap.2 ⟨.tmp t, by simpa using hx, rfl⟩))
      simp only [Act.eval, Array.getD_eq_getD_getElem?, this]
    | _ => rfl
  · unfold Region.wanted
    cases hg : o.guard with
    | none => rfl
    | some gw =>
      obtain ⟨g, want⟩ := gw
      simp only
      have : yielded ops a.tmps g = yielded ops b.tmps g := by
        unfold yielded
        cases ht : (ops[g]?).bind (·.dst) with
        | none => rfl
        | some t =>
          have := h t (List.mem_append_right _ (by simp [hg, ht]))
          simp [this]
      rw [this]

/-- operations that only hand on a value: they may come up late -/
def floatB : Op → Bool
  | .extract _ _ => true
  | .move _ => true
  | .assign _ => true
  | _ => false
theorem float_run {o : Oper} (h : floatB o.op = true) {ρ : Operand → Value} {v : Value} {W : World} (hr : (execOp ρ o).run P W = .ok (.value v) W) : ∀ W', (execOp ρ o).run P W' = .ok (.value v) W' := by
  intro W'
  unfold execOp at *
  cases ho : o.op <;> rw [ho] at h <;> simp only [floatB, Bool.false_eq_true] at h
  case extract x ix =>
    rw [ho] at hr
    simp only at hr ⊢
    unfold Instr.extract at *
    cases hx : ρ x <;> rw [hx] at hr
    case tuple vs =>
      simp only [Sem.run_bind] at hr ⊢
      cases hv : vs[ix]? with
      | none => rw [hv] at hr; exact nomatch hr
      | some u =>
        rw [hv] at hr
        simp only [Sem.run_pure, Result.andThen_ok] at hr ⊢
        injection hr with h1 h2
        rw [h1]
    all_goals exact nomatch hr
  case move x =>
    rw [ho] at hr
    simp only [Sem.run_pure] at hr ⊢
    injection hr with h1 h2
    rw [h1]
  case assign x =>
    rw [ho] at hr
    simp only [Sem.run_pure] at hr ⊢
    injection hr with h1 h2
    rw [h1]
def subs : List Nat → List (List Nat)
  | [] => [[]]
  | x :: r => subs r ++ (subs r).map (x :: ·)
theorem filter_subs (p : Nat → Bool) : ∀ l : List Nat, l.filter p ∈ subs l
  | [] => by simp [subs]
  | x :: r => by
    have := filter_subs p r
    unfold subs
    rw [List.filter_cons]
    split
    · exact List.mem_append_right _ (List.mem_map.2 ⟨_, this, rfl⟩)
    · exact List.mem_append_left _ this

/-- what is checked of a region: its first n operations may be walked in the order of the text, the others wait for them -/
def parFB (ops : Array Oper) (n sz : Nat) (dp : Nat → List Nat) (ann : Nat → Bool) (fl : List Nat) (snk : Nat) (tail : List (Nat × Nat)) : Bool :=
  Region.noSelect ops && decide (n ≤ ops.size) &&
  (List.range n).all (fun i => match ops[i]? with
    | none => false
    | some o =>
      (match o.dst with
       | none => !ann i
       | some d => decide (d < sz) && (List.range n).all fun j => j == i || ((ops[j]?).bind (·.dst)) != some d) &&
      (o.looksAt ops).all (fun t => (List.range n).all fun j => ((ops[j]?).bind (·.dst)) != some t || o.after.any fun e => Region.binds .any e && e.on == j) &&
      o.after.all (fun e => !Region.binds .any e || decide (e.on < i))) &&
  (List.range ops.size).all (fun i => match ops[i]? with
    | none => false
    | some o => (dp i).all (fun j => o.after.any fun e => Region.binds .any e && (e.on == j || (decide (e.on < i) && (dp e.on).contains j)))) &&
  (List.range ops.size).all (fun m => decide (m < n) || (List.range n).all fun j => fl.contains j || (dp m).contains j) &&
  decide (tail.length + n = ops.size) && (subs ((List.range n).filter fun j => fl.contains j)).all (fun U => mixB .any ops snk (U.map (fun k => (k, 0)) ++ tail) (Array.ofFn (n := ops.size) fun j => decide (j.val < n) && !U.contains j.val)) && decide (0 < n) &&
  Region.sinkB .any ops snk && (List.range n).all (fun j => !fl.contains j || (!ann j && match ops[j]? with | some o => floatB o.op | none => false))
def parB (ops : Array Oper) (n sz : Nat) (dp : Nat → List Nat) (ann : Nat → Bool) (tail : List (Nat × Nat)) : Bool := parFB ops n sz dp ann [] 0 tail

structure ParS (ops : Array Oper) (n sz : Nat) (dp : Nat → List Nat) (ann : Nat → Bool) (tail : List (Nat × Nat)) (fl : List Nat) (snk : Nat) : Prop where
  nosel : Region.noSelect ops = true
  le : n ≤ ops.size
  pos : 0 < n
  dst : ∀ i o d, i < n → ops[i]? = some o → o.dst = some d → d < sz
  some_ : ∀ i o, i < n → ops[i]? = some o → ann i = true → ∃ d, o.dst = some d
  uniq : ∀ i j o p d, i < n → j < n → ops[i]? = some o → ops[j]? = some p → o.dst = some d → p.dst = some d → j = i
  reads : ∀ i j o p t, i < n → j < n → ops[i]? = some o → ops[j]? = some p → t ∈ o.looksAt ops → p.dst = some t → ∃ e ∈ o.after, Region.binds .any e = true ∧ e.on = j
  lt : ∀ i o, i < n → ops[i]? = some o → ∀ e ∈ o.after, Region.binds .any e = true → e.on < i
  dpx : ∀ i o j, ops[i]? = some o → j ∈ dp i → ∃ e ∈ o.after, Region.binds .any e = true ∧ (e.on = j ∨ (e.on < i ∧ j ∈ dp e.on))
  rest : ∀ m j, n ≤ m → m < ops.size → j < n → fl.contains j = false → j ∈ dp m
  len : tail.length + n = ops.size
  mix : ∀ U ∈ subs ((List.range n).filter fun j => fl.contains j), mixB .any ops snk (U.map (fun k => (k, 0)) ++ tail) (Array.ofFn (n := ops.size) fun j => decide (j.val < n) && !U.contains j.val) = true
  sink : Region.sinkB .any ops snk = true
  flo : ∀ j o, j < n → fl.contains j = true → ops[j]? = some o → floatB o.op = true ∧ ann j = false
theorem parS_of {sz : Nat} {an : Nat → Bool} {tail : List (Nat × Nat)} (h : parFB ops n sz dp an fl snk tail = true) : ParS ops n sz dp an tail fl snk := by
  unfold parFB at h
  simp only [Bool.and_eq_true, decide_eq_true_eq, List.all_eq_true, List.mem_range] at h
  obtain ⟨⟨⟨⟨⟨⟨⟨⟨⟨h1, h2⟩, h3⟩, h4⟩, h5⟩, h6⟩, h7⟩, h8⟩, h9⟩, h10⟩ := h
  refine ⟨h1, h2, h8, ?_, ?_, ?_, ?_, ?_, ?_, ?_, h6, h7, h9, ?_⟩
  · intro i o d hi ho hd
    have := h3 i hi
    rw [ho] at this
    simp only [hd, Bool.and_eq_true, decide_eq_true_eq] at this
    exact this.1.1.1
  · intro i o hi ho ha
    have := h3 i hi
    rw [ho] at this
    simp only at this
    cases hd : o.dst with
    | none => rw [hd] at this; simp [ha] at this
    | some d => exact ⟨d, rfl⟩
  · intro i j o p d hi hj ho hp hd hpd
    have := h3 i hi
    rw [ho] at this
    simp only [hd, Bool.and_eq_true, decide_eq_true_eq, List.all_eq_true, List.mem_range] at this
    have := this.1.1.2 j hj
    simp only [hp, Option.bind_some, hpd, Bool.or_eq_true, beq_iff_eq, bne_self_eq_false, Bool.false_eq_true, or_false] at this
    exact this
  · intro i j o p t hi hj ho hp ht hpd
    have := h3 i hi
    rw [ho] at this
    simp only [Bool.and_eq_true, List.all_eq_true, List.mem_range] at this
    have := this.1.2 t ht j hj
    simp only [hp, Option.bind_some, hpd, bne_self_eq_false, Bool.false_or, Array.any_eq_true', Bool.and_eq_true, beq_iff_eq] at this
    obtain ⟨e, he, hb, hj⟩ := this
    exact ⟨e, he, hb, hj⟩
  · intro i o hi ho e he hb
    have := h3 i hi
    rw [ho] at this
    simp only [Bool.and_eq_true] at this
    have := (Array.all_eq_true_iff_forall_mem.1 this.2) e he
    simpa [hb] using this
  · intro i o j ho hj
    have hi : i < ops.size := (Array.getElem?_eq_some_iff.1 ho).1
    have := h4 i hi
    rw [ho] at this
    simp only [List.all_eq_true] at this
    have := this j hj
    simp only [Array.any_eq_true', Bool.and_eq_true, Bool.or_eq_true, beq_iff_eq, decide_eq_true_eq, List.contains_iff_mem] at this
    obtain ⟨e, he, hb, hx⟩ := this
    exact ⟨e, he, hb, hx⟩
  · intro m j hm hm2 hj hfl
    have := h5 m hm2
    simp only [Bool.or_eq_true, decide_eq_true_eq, List.all_eq_true, List.mem_range] at this
    rcases this with h | h
    · omega
    · have := h j hj
      rw [hfl] at this
      simpa using this
  · intro j o hj hfl ho
    have := h10 j hj
    rw [hfl, ho] at this
    simp only [Bool.not_true, Bool.false_or, Bool.and_eq_true, Bool.not_eq_true'] at this
    exact ⟨this.2, this.1⟩
theorem ParS.closed {sz : Nat} {an : Nat → Bool} {tail : List (Nat × Nat)} (h : ParS ops n sz dp an tail fl snk) {l : Array Bool} (hd : Deps .any ops l) :
    ∀ (i : Nat) o, ops[i]? = some o → (∀ e ∈ o.after, Region.binds .any e = true → l.getD e.on false = true) → ∀ j ∈ dp i, l.getD j false = true := by
  intro i
  induction i using Nat.strongRecOn with
  | _ i ih =>
    intro o ho hall j hj
    obtain ⟨e, he, hb, hx⟩ := h.dpx i o j ho hj
    rcases hx with hx | ⟨hlt, hx⟩
    · rw [← hx]; exact hall e he hb
    · have hl := hall e he hb
      have hlt2 : e.on < ops.size := by
        rcases Nat.lt_or_ge e.on ops.size with h' | h'
        · exact h'
        · simp [Array.getElem?_eq_none (show l.size ≤ e.on by rw [hd.size]; exact h')] at hl
      exact ih e.on hlt ops[e.on] (Array.getElem?_eq_getElem hlt2) (fun e' he' hb' => hd.back e.on _ (Array.getElem?_eq_getElem hlt2) hl e' he' hb') j hx

/-- the frame of a state: what has come up is there, all else is as it was -/
structure FrS (ops : Array Oper) (n : Nat) (a0 : Act) (l : Array Bool) (V : Nat → Value) (b : Act) : Prop where
  size : b.tmps.size = a0.tmps.size
  defers : b.defers = a0.defers
  out : ∀ t, (∀ (j : Nat) o, j < n → ops[j]? = some o → o.dst ≠ some t) → b.tmps[t]? = a0.tmps[t]?
  in_ : ∀ (j : Nat) o t, j < n → ops[j]? = some o → o.dst = some t → l.getD j false = true → b.tmps[t]? = some (V j)

theorem FrS.start {a0 : Act} {V : Nat → Value} : FrS ops n a0 (Array.replicate ops.size false) V a0 :=
  ⟨rfl, rfl, fun _ _ => rfl, fun j o t hj ho hd hl => by
    rcases Nat.lt_or_ge j ops.size with h | h
    · simp [h] at hl
    · simp [h] at hl⟩
theorem FrS.step {sz : Nat} {an : Nat → Bool} {tail : List (Nat × Nat)} (hp : ParS ops n sz dp an tail fl snk) {a0 b : Act} {l : Array Bool} {V V' : Nat → Value} (h : FrS ops n a0 l V b) (hsz : a0.tmps.size = sz) {i : Nat} {o : Oper} (hi : i < n) (ho : ops[i]? = some o)
    (hV : ∀ j, j < n → l.getD j false = true → V' j = V j) : FrS ops n a0 (l.setIfInBounds i true) V' (b.put o.dst (V' i)) := by
  refine ⟨(put_size _ _ _).trans h.size, (put_defers' _ _ _).trans h.defers, fun t ht => ?_, fun j p t hj hpj hd hl => ?_⟩
  · rw [put_ne _ _ _ _ (ht i o hi ho)]; exact h.out t ht
  · by_cases e : j = i
    · subst e
      obtain rfl : o = p := Option.some.inj (ho.symm.trans hpj)
      rw [hd]
      exact put_eq _ _ _ (by rw [h.size, hsz]; exact hp.dst _ _ _ hi ho hd)
    · rw [getD_set_ne false (Ne.symm e)] at hl
      rw [put_ne _ _ _ _ (fun hd2 => e (hp.uniq i j o p t hi hj ho hpj hd2 hd)), hV j hj hl]
      exact h.in_ j p t hj hpj hd hl
/-- the frame of the walk, in front of operation i, as far as operation i looks at it -/
theorem FrS.look {sz : Nat} {an : Nat → Bool} {tail : List (Nat × Nat)} (hp : ParS ops n sz dp an tail fl snk) {a0 b : Act} {l : Array Bool} {V : Nat → Value} (h : FrS ops n a0 l V b) (hsz : a0.tmps.size = sz) {i : Nat} {o : Oper} (hi : i < n) (ho : ops[i]? = some o)
    (hall : ∀ e ∈ o.after, Region.binds .any e = true → l.getD e.on false = true) : ∀ t ∈ o.looksAt ops, (frL V (ops.toList.take i) 0 a0).tmps[t]? = b.tmps[t]? := by
  intro t ht
  have hle : i ≤ ops.toList.length := by have := hp.le; simp; omega
  by_cases hx : ∃ j p, j < n ∧ ops[j]? = some p ∧ p.dst = some t
  · obtain ⟨j, p, hj, hpj, hd⟩ := hx
    obtain ⟨e, he, hb, hon⟩ := hp.reads i j o p t hi hj ho hpj ht hd
    have hlt := hp.lt i o hi ho e he hb
    rw [hon] at hlt
    have hl := hall e he hb
    rw [hon] at hl
    rw [h.in_ j p t hj hpj hd hl]
    have := frL_in V t (ops.toList.take i) 0 a0 j p (by rw [List.getElem?_take_of_lt hlt]; simpa using hpj) hd (by rw [hsz]; exact hp.dst _ _ _ hj hpj hd) (fun k q hq hqd => by
      have hk : k < i := by
        have := (List.getElem?_eq_some_iff.1 hq).1
        rw [List.length_take] at this; omega
      rw [List.getElem?_take_of_lt hk] at hq
      exact hp.uniq j k p q t hj (by omega) hpj (by simpa using hq) hd hqd)
    rw [Nat.zero_add] at this
    exact this
  · have hno : ∀ (j : Nat) p, j < n → ops[j]? = some p → p.dst ≠ some t := fun j p hj hpj hd => hx ⟨j, p, hj, hpj, hd⟩
    rw [h.out t hno]
    refine frL_out V t _ 0 a0 fun j p hpj => ?_
    have hk : j < i := by
      have := (List.getElem?_eq_some_iff.1 hpj).1
      rw [List.length_take] at this; omega
    rw [List.getElem?_take_of_lt hk] at hpj
    exact hno j p (by omega) (by simpa using hpj)
theorem FrS.all {sz : Nat} {an : Nat → Bool} {tail : List (Nat × Nat)} (hp : ParS ops n sz dp an tail fl snk) {a0 b : Act} {l : Array Bool} {V : Nat → Value} (h : FrS ops n a0 l V b) (hsz : a0.tmps.size = sz)
    (hall : ∀ j, j < n → l.getD j false = true) : b = frL V (ops.toList.take n) 0 a0 := by
  have hs := frL_size V (ops.toList.take n) 0 a0
  have ht : b.tmps = (frL V (ops.toList.take n) 0 a0).tmps := by
    apply Array.ext_getElem?
    intro t
    by_cases hx : ∃ j p, j < n ∧ ops[j]? = some p ∧ p.dst = some t
    · obtain ⟨j, p, hj, hpj, hd⟩ := hx
      rw [h.in_ j p t hj hpj hd (hall j hj)]
      have := frL_in V t (ops.toList.take n) 0 a0 j p (by rw [List.getElem?_take_of_lt hj]; simpa using hpj) hd (by rw [hsz]; exact hp.dst _ _ _ hj hpj hd) (fun k q hq hqd => by
        have hk : k < n := by
          have := (List.getElem?_eq_some_iff.1 hq).1
          rw [List.length_take] at this; omega
        rw [List.getElem?_take_of_lt hk] at hq
        exact hp.uniq j k p q t hj hk hpj (by simpa using hq) hd hqd)
      rw [Nat.zero_add] at this
      exact this.symm
    · have hno : ∀ (j : Nat) p, j < n → ops[j]? = some p → p.dst ≠ some t := fun j p hj hpj hd => hx ⟨j, p, hj, hpj, hd⟩
      rw [h.out t hno]
      refine (frL_out V t _ 0 a0 fun j p hpj => ?_).symm
      have hk : j < n := by
        have := (List.getElem?_eq_some_iff.1 hpj).1
        rw [List.length_take] at this; omega
      rw [List.getElem?_take_of_lt hk] at hpj
      exact hno j p hk (by simpa using hpj)
  have hd : b.defers = (frL V (ops.toList.take n) 0 a0).defers := h.defers.trans hs.2.symm
  cases b; cases hb : frL V (ops.toList.take n) 0 a0
  rw [hb] at ht hd
  simp only at ht hd
  rw [ht, hd]
/-- what has come up has the same value, whatever is chosen for the rest -/
theorem Good.same {sz : Nat} {an : Nat → Bool} {tail : List (Nat × Nat)} (hp : ParS ops n sz dp an tail fl snk) {a0 : Act} {l : Array Bool} (hd : Deps .any ops l) (hsz : a0.tmps.size = sz) {X X' : Nat → α} {V V' : Nat → Value}
    (hV : Good P ops Qt w0 dp ann X V (ops.toList.take n) 0 a0) (hV' : Good P ops Qt w0 dp ann X' V' (ops.toList.take n) 0 a0) (hX : ∀ j, j < n → l.getD j false = true → X' j = X j)
    {W : World} (hW : Ext w0 W) (hR : ∀ j A, j < n → l.getD j false = true → ann j = some A → A.R (X j) W) : ∀ j, j < n → l.getD j false = true → V' j = V j := by
  intro j
  induction j using Nat.strongRecOn with
  | _ j ih =>
    intro hj hl
    have hjs : j < ops.size := Nat.lt_of_lt_of_le hj hp.le
    have ho : ops[j]? = some ops[j] := Array.getElem?_eq_getElem hjs
    have hot : (ops.toList.take n)[j]? = some ops[j] := by rw [List.getElem?_take_of_lt hj]; simp
    have hall : ∀ e ∈ ops[j].after, Region.binds .any e = true → l.getD e.on false = true := fun e he hb => hd.back j _ ho hl e he hb
    have f1 := hV.at _ _ _ j _ hot
    have f2 := hV'.at _ _ _ j _ hot
    rw [Nat.zero_add] at f1 f2
    rw [List.take_take, Nat.min_eq_left (Nat.le_of_lt hj)] at f1 f2
    have hclo := hp.closed hd j _ ho hall
    have hsame : ∀ t ∈ ops[j].looksAt ops, (frL V (ops.toList.take j) 0 a0).tmps[t]? = (frL V' (ops.toList.take j) 0 a0).tmps[t]? := by
      intro t ht
      by_cases hx : ∃ k p, k < j ∧ ops[k]? = some p ∧ p.dst = some t
      · obtain ⟨k, p, hk, hpk, hdk⟩ := hx
        have hkn : k < n := by omega
        have hkl : l.getD k false = true := by
          obtain ⟨e, he, hb, hon⟩ := hp.reads j k _ p t hj hkn ho hpk ht hdk
          have := hall e he hb
          rw [hon] at this; exact this
        have hu : ∀ (i : Nat) q, (ops.toList.take j)[i]? = some q → q.dst = some t → i = k := fun i q hq hqd => by
          have hi : i < j := by
            have := (List.getElem?_eq_some_iff.1 hq).1
            rw [List.length_take] at this; omega
          rw [List.getElem?_take_of_lt hi] at hq
          exact hp.uniq k i p q t hkn (by omega) hpk (by simpa using hq) hdk hqd
        have hk2 : (ops.toList.take j)[k]? = some p := by rw [List.getElem?_take_of_lt hk]; simpa using hpk
        rw [frL_in V t _ 0 a0 k p hk2 hdk (by rw [hsz]; exact hp.dst _ _ _ hkn hpk hdk) hu, frL_in V' t _ 0 a0 k p hk2 hdk (by rw [hsz]; exact hp.dst _ _ _ hkn hpk hdk) hu, Nat.zero_add, ih k hk hkn hkl]
      · have hno : ∀ (k : Nat) p, (ops.toList.take j)[k]? = some p → p.dst ≠ some t := fun k p hpk hdk => by
          have hk : k < j := by
            have := (List.getElem?_eq_some_iff.1 hpk).1
            rw [List.length_take] at this; omega
          rw [List.getElem?_take_of_lt hk] at hpk
          exact hx ⟨k, p, hk, by simpa using hpk, hdk⟩
        rw [frL_out V t _ 0 a0 hno, frL_out V' t _ 0 a0 hno]
    obtain ⟨s1, s2⟩ := same_at (ops := ops) (fun cs b => Region.noSelect_spec hp.nosel j _ cs b ho) hsame
    unfold FactAt at f1 f2
    cases ha : ann j with
    | none =>
      rw [ha] at f1 f2
      simp only at f1 f2
      cases hw : Region.wanted ops[j] (yielded ops (frL V (ops.toList.take j) 0 a0).tmps) with
      | true =>
        have r1 := f1.1 hw W hW (fun k A hk hdk hak => hR k A (by omega) (hclo k hdk) hak)
        have r2 := f2.1 (by rw [← s2]; exact hw) W hW (fun k A hk hdk hak => by rw [hX k (by omega) (hclo k hdk)]; exact hR k A (by omega) (hclo k hdk) hak)
        rw [← s1, r1] at r2
        injection r2 with r2
        injection r2 with r2
        exact r2.symm
      | false => rw [f1.2 hw, f2.2 (by rw [← s2]; exact hw)]
    | some A =>
      rw [ha] at f1 f2
      simp only at f1 f2
      rw [f1.2.1, f2.2.1, hX j hj hl]
/-- a step that was walked in the order of the text is one of the state -/
theorem wp_transfer {o : Oper} {a b : Act} {w : World} (he : execOp a.eval o = execOp b.eval o) {K K' : Act → World → Prop} (hK : ∀ v W, K (a.put o.dst v) W → K' (b.put o.dst v) W)
    (hdf : ∀ c W, K c W → c.defers = a.defers) (h : o.wp P a w K (fun _ _ _ => False)) : o.wp P b w K' Q := by
  unfold Oper.wp at *
  rw [he] at h
  generalize (execOp b.eval o).run P w = r at *
  cases r with
  | ok x w' =>
    cases x <;> simp only [Oper.upon] at h ⊢
    case value u => exact hK _ _ h
    case skip => exact hK _ _ h
    case defer d =>
      have := hdf _ _ h
      rw [put_defers'] at this
      have := congrArg List.length this
      simp at this
    case enter f args =>
      refine Calls.mono h fun e w'' he => ?_
      cases e with
      | returned u => exact hK _ _ he
      | panicked c => exact he.elim
      | outgrown => obtain ⟨_, _, hf⟩ := he; exact hf.elim
    case row row args => exact Rows.mono h fun u w'' he => hK _ _ he
  | halt x w' => cases x <;> simp only [Oper.upon] at h ⊢ <;> exact h.elim
theorem wpAny_more {md : Region.Mode} : ∀ (f : Nat) (l : Array Bool) (a : Act) (w : World), wpAny P md ops Q f l a w → wpAny P md ops Q (f + 1) l a w
  | 0, l, a, w, h => ⟨fun _ => h.2, fun i hi => by rw [h.1] at hi; cases hi⟩
  | f + 1, l, a, w, h => ⟨h.1, fun i hi => wpOp_mono (fun a' w' h' => wpAny_more f _ a' w' h') (h.2 i hi)⟩
theorem wpAny_le {md : Region.Mode} {f g : Nat} (hfg : f ≤ g) {l : Array Bool} {a : Act} {w : World} (h : wpAny P md ops Q f l a w) : wpAny P md ops Q g l a w := by
  induction g with
  | zero => obtain rfl : f = 0 := by omega
            exact h
  | succ g ih =>
    by_cases e : f = g + 1
    · subst e; exact h
    · exact wpAny_more g _ _ _ (ih (by omega))
/-- how many are to come -/
def remN (n : Nat) (l : Array Bool) : Nat := ((List.range n).filter fun j => !l.getD j false).length
theorem filter_less (p q : Nat → Bool) (i : Nat) (h : ∀ j, q j = true → p j = true) (hi : p i = true) (hq : q i = false) : ∀ (L : List Nat), i ∈ L → (L.filter q).length + 1 ≤ (L.filter p).length
  | [], h => by cases h
  | x :: L, hm => by
    have hle : ∀ (L : List Nat), (L.filter q).length ≤ (L.filter p).length := by
      intro L; induction L with
      | nil => simp
      | cons y L ih =>
        rw [List.filter_cons, List.filter_cons]
        cases hy : q y with
        | true => rw [if_pos rfl, if_pos (h y hy)]; simp; exact ih
        | false =>
          rw [if_neg (by simp)]
          split
          · simp; omega
          · exact ih
    rw [List.filter_cons, List.filter_cons]
    rcases List.mem_cons.1 hm with e | hm
    · subst e
      rw [hq, hi, if_neg (by simp), if_pos rfl]
      have := hle L
      simp; omega
    · have ih := filter_less p q i h hi hq L hm
      cases hx : q x with
      | true => rw [if_pos rfl, if_pos (h x hx)]; simp; exact ih
      | false =>
        rw [if_neg (by simp)]
        split
        · simp; omega
        · exact ih

theorem remN_zero {l : Array Bool} (h : remN n l = 0) (j : Nat) (hj : j < n) : l.getD j false = true := by
  have := List.eq_nil_of_length_eq_zero h
  have h2 := List.filter_eq_nil_iff.1 this j (List.mem_range.2 hj)
  simpa using h2
theorem remN_step {l : Array Bool} {i : Nat} (hi : i < n) (hl : l.getD i true = false) : remN n (l.setIfInBounds i true) + 1 ≤ remN n l := by
  have hs : i < l.size := by
    rcases Nat.lt_or_ge i l.size with h | h
    · exact h
    · simp [Array.getElem?_eq_none h] at hl
  refine filter_less _ _ i (fun j hj => ?_) ?_ ?_ _ (List.mem_range.2 hi)
  · cases h : l.getD j false with
    | false => rfl
    | true => rw [getD_set_true h] at hj; cases hj
  · rw [getD_ff hl]; rfl
  · simp [hs]
/-- what is left to float comes up first, then the tail -/
theorem mix_floats {sz : Nat} {an : Nat → Bool} {tail : List (Nat × Nat)} {l0 : List Oper} (hp : ParS l0.toArray n sz dp an tail fl snk) (han : ∀ i, (ann i).isSome = an i) {a0 : Act} (hsz : a0.tmps.size = sz) {W : World} (hW : Ext w0 W) {X : Nat → α} {V : Nat → Value}
    (hV : Good P l0.toArray (fun a W => wpMix P l0.toArray Q (fun _ => True) (pickO l0 tail) a W) w0 dp ann X V (l0.take n) 0 a0) (hR : ∀ j A, j < n → ann j = some A → A.R (X j) W) :
    ∀ (U : List Nat) (l : Array Bool) (b : Act), Deps .any l0.toArray l → (∀ j ∈ U, j < n ∧ fl.contains j = true) → (∀ j, j < n → l.getD j false = false → j ∈ U) →
      mixB .any l0.toArray snk (U.map (fun k => (k, 0)) ++ tail) l = true → FrS l0.toArray n a0 l V b → wpMix P l0.toArray Q (fun _ => True) (pickO l0 (U.map (fun k => (k, 0)) ++ tail)) b W := by
  intro U
  induction U with
  | nil =>
    intro l b hd _ hU _ hF
    have hall : ∀ j, j < n → l.getD j false = true := fun j hj => by
      cases h : l.getD j false with
      | true => rfl
      | false => cases hU j hj h
    have hb := hF.all hp hsz hall
    have hfin := hV.fin _ _ _ W hW (fun j A hj ha => hR j A (by simp at hj; omega) ha)
    rw [hb]
    exact hfin
  | cons i U ih =>
    intro l b hd hUn hU hB hF
    simp only [List.map_cons, List.cons_append] at hB ⊢
    simp only [mixB, Bool.and_eq_true, decide_eq_true_eq, Bool.not_eq_true'] at hB
    obtain ⟨⟨⟨⟨hi, _⟩, _⟩, _⟩, hB⟩ := hB
    have hi : i ∈ Region.ready .any l0.toArray l := by simpa using hi
    obtain ⟨hin, hfl⟩ := hUn i (List.mem_cons_self)
    obtain ⟨hun, o, ho, hall⟩ := mem_ready.1 hi
    have ho' : l0[i]? = some o := by simpa using ho
    obtain ⟨hfo, hann⟩ := hp.flo i o hin hfl ho
    have hclo := hp.closed hd i o ho hall
    have hot : (l0.take n)[i]? = some o := by rw [List.getElem?_take_of_lt hin]; simpa using ho
    have fa := hV.at _ _ _ i _ hot
    rw [Nat.zero_add, List.take_take, Nat.min_eq_left (Nat.le_of_lt hin)] at fa
    have hlook := hF.look hp hsz hin ho hall
    obtain ⟨s1, s2⟩ := same_at (ops := l0.toArray) (fun cs b => Region.noSelect_spec hp.nosel i _ cs b ho) hlook
    have s1 : execOp (frL V (l0.take i) 0 a0).eval o = execOp b.eval o := s1
    have s2 : Region.wanted o (yielded l0.toArray (frL V (l0.take i) 0 a0).tmps) = Region.wanted o (yielded l0.toArray b.tmps) := s2
    have ha : ann i = none := by
      have := han i
      rw [hann] at this
      cases h : ann i with
      | none => rfl
      | some A => rw [h] at this; cases this
    unfold FactAt at fa
    rw [ha] at fa
    simp only at fa
    have hnext := ih (l.setIfInBounds i true) (b.put o.dst (V i)) (hd.step hi) (fun j hj => hUn j (List.mem_cons_of_mem _ hj)) (fun j hj hl => by
      by_cases e : i = j
      · subst e
        exfalso
        have his : i < l.size := by rw [hd.size]; exact (Array.getElem?_eq_some_iff.1 ho).1
        simp [his] at hl
      · rw [getD_set_ne false e] at hl
        rcases List.mem_cons.1 (hU j hj hl) with h | h
        · exact absurd h.symm e
        · exact h) hB (hF.step hp hsz hin ho (fun _ _ _ => rfl))
    simp only [pickO, ho', wpMix]
    cases hw : Region.wanted o (yielded l0.toArray b.tmps) with
    | true =>
      rw [if_pos rfl]
      have hr := fa.1 (by rw [s2]; exact hw) W hW (fun j A hj hdj haj => hR j A (by omega) haj)
      rw [s1] at hr
      exact ⟨V i, fun W' _ => float_run hfo hr W', hnext⟩
    | false =>
      rw [if_neg (by simp)]
      have hv := fa.2 (by rw [s2]; exact hw)
      rw [← hv]
      exact hnext
theorem par_fin {sz : Nat} {an : Nat → Bool} {tail : List (Nat × Nat)} {l0 : List Oper} (hp : ParS l0.toArray n sz dp an tail fl snk) (han : ∀ i, (ann i).isSome = an i)
    (hQ : ∀ c a d v w, Q (.panic c) (Act.put a d v) w → Q (.panic c) a w) {a0 : Act} (hsz : a0.tmps.size = sz) {f : Nat} {l : Array Bool} {b : Act} {W : World} {X : Nat → α} {V : Nat → Value} (hd : Deps .any l0.toArray l) (hout : ∀ j, n ≤ j → l.getD j false = false) (hW : Ext w0 W)
    (hR : ∀ j A, j < n → l.getD j false = true → ann j = some A → A.R (X j) W)
    (hV : Good P l0.toArray (fun a W => wpMix P l0.toArray Q (fun _ => True) (pickO l0 tail) a W) w0 dp ann X V (l0.take n) 0 a0)
    (hF : FrS l0.toArray n a0 l V b) (hall : ∀ j, j < n → fl.contains j = false → l.getD j false = true) (hf : remN n l + tail.length ≤ f) : wpAny P .any l0.toArray Q f l b W := by
  have hUf : ∀ j ∈ ((List.range n).filter fun j => !l.getD j false), j < n ∧ fl.contains j = true := fun j hj => by
    obtain ⟨h1, h2⟩ := List.mem_filter.1 hj
    have h1 := List.mem_range.1 h1
    refine ⟨h1, ?_⟩
    cases hc : fl.contains j with
    | true => rfl
    | false => have := hall j h1 hc; rw [this] at h2; cases h2
  have hUs : ((List.range n).filter fun j => !l.getD j false) ∈ subs ((List.range n).filter fun j => fl.contains j) := by
    have := filter_subs (fun j => !l.getD j false) ((List.range n).filter fun j => fl.contains j)
    rw [List.filter_filter] at this
    have e : ((List.range n).filter fun j => !l.getD j false) = ((List.range n).filter fun j => (!l.getD j false) && fl.contains j) := by
      apply List.filter_congr
      intro j hj
      cases hl : l.getD j false with
      | true => rfl
      | false =>
        have := hUf j (List.mem_filter.2 ⟨hj, by rw [hl]; rfl⟩)
        rw [this.2]; rfl
    rw [e]; exact this
  have hm := hp.mix _ hUs
  have hl : l = Array.ofFn (n := l0.toArray.size) fun j => decide (j.val < n) && !((List.range n).filter fun j => !l.getD j false).contains j.val := by
    apply Array.ext
    · simp [hd.size]
    · intro j h1 h2
      rw [Array.getElem_ofFn]
      have hg : l.getD j false = l[j] := by rw [Array.getD_eq_getD_getElem?, Array.getElem?_eq_getElem h1]; rfl
      by_cases hj : j < n
      · simp only [hj, decide_true, Bool.true_and]
        rw [← hg]
        cases h : l.getD j false with
        | true => simp [h, -Array.getD_eq_getD_getElem?]
        | false => simp [h, hj, -Array.getD_eq_getD_getElem?]
      · have := hout j (by omega)
        rw [← hg, this]
        simp [hj]
  rw [← hl] at hm
  have hlen : (((List.range n).filter fun j => !l.getD j false).map (fun k => (k, 0)) ++ tail).length ≤ f := by
    rw [List.length_append, List.length_map]
    exact hf
  have hR2 : ∀ j A, j < n → ann j = some A → A.R (X j) W := fun j A hj ha => by
    refine hR j A hj ?_ ha
    refine hall j hj ?_
    cases hc : fl.contains j with
    | false => rfl
    | true =>
      have hjs : j < l0.toArray.size := Nat.lt_of_lt_of_le hj hp.le
      have := (hp.flo j _ hj hc (Array.getElem?_eq_getElem hjs)).2
      rw [← han, ha] at this; cases this
  have h2 := mix_floats (Q := Q) hp han hsz hW hV hR2 _ l b hd hUf (fun j hj h => List.mem_filter.2 ⟨List.mem_range.2 hj, by rw [h]; rfl⟩) hm hF
  have h3 := wpTill_of_mix (P := P) (S := fun _ => True) (n := snk) hp.nosel hp.sink hQ _ l b W hd (.inl trivial) hm h2
  exact wpAny_le hlen (wpAny_of_till _ _ _ _ h3)
theorem par_sound {sz : Nat} {an : Nat → Bool} {tail : List (Nat × Nat)} {l0 : List Oper} [Inhabited α] (hp : ParS l0.toArray n sz dp an tail fl snk) (han : ∀ i, (ann i).isSome = an i)
    (hQ : ∀ c a d v w, Q (.panic c) (Act.put a d v) w → Q (.panic c) a w) {a0 : Act} (hsz : a0.tmps.size = sz)
    (hC : Can P l0.toArray (fun a W => wpMix P l0.toArray Q (fun _ => True) (pickO l0 tail) a W) w0 dp ann (l0.take n) 0 [] a0) :
    ∀ (f : Nat) (l : Array Bool) (b : Act) (W : World) (X : Nat → α) (V : Nat → Value), Deps .any l0.toArray l → (∀ j, n ≤ j → l.getD j false = false) → Ext w0 W →
      (∀ j A, j < n → l.getD j false = true → ann j = some A → A.R (X j) W) →
      Good P l0.toArray (fun a W => wpMix P l0.toArray Q (fun _ => True) (pickO l0 tail) a W) w0 dp ann X V (l0.take n) 0 a0 →
      FrS l0.toArray n a0 l V b → remN n l + tail.length ≤ f → wpAny P .any l0.toArray Q f l b W := by
  intro f
  induction f with
  | zero =>
    intro l b W X V hd hout hW hR hV hF hf
    have hr0 : remN n l = 0 := by omega
    have hall := remN_zero hr0
    exact par_fin hp han hQ hsz hd hout hW hR hV hF (fun j hj _ => hall j hj) hf
  | succ f ih =>
    intro l b W X V hd hout hW hR hV hF hf
    by_cases hr0 : ∀ j, j < n → fl.contains j = false → l.getD j false = true
    · exact par_fin hp han hQ hsz hd hout hW hR hV hF hr0 hf
    · have hund : ∃ j, j < n ∧ fl.contains j = false ∧ l.getD j false = false := by
        by_cases h : ∃ j, j < n ∧ fl.contains j = false ∧ l.getD j false = false
        · exact h
        · exfalso
          apply hr0
          intro j hj hfl
          cases hl : l.getD j false with
          | true => rfl
          | false => exact absurd ⟨j, hj, hfl, hl⟩ h
      refine ⟨fun hr => ?_, fun i hi => ?_⟩
      · exfalso
        obtain ⟨j0, hj0, _, hl0⟩ := hund
        have hmin : ∀ k, ∀ j, j ≤ k → j < n → l.getD j false = false → False := by
          intro k
          induction k using Nat.strongRecOn with
          | _ k ihk =>
            intro j hjk hj hl
            have hjs : j < l0.toArray.size := Nat.lt_of_lt_of_le hj hp.le
            have ho : l0.toArray[j]? = some l0.toArray[j] := Array.getElem?_eq_getElem hjs
            have hready : j ∈ Region.ready .any l0.toArray l := by
              rw [mem_ready]
              refine ⟨getD_tf (by rw [hd.size]; exact hjs) hl, _, ho, fun e he hb => ?_⟩
              have hlt := hp.lt j _ hj ho e he hb
              cases h : l.getD e.on false with
              | true => rfl
              | false => exact (ihk e.on (by omega) e.on (Nat.le_refl _) (by omega) h).elim
            rw [hr] at hready
            cases hready
        exact hmin j0 j0 (Nat.le_refl _) hj0 hl0
      · obtain ⟨hun, o, ho, hall⟩ := mem_ready.1 hi
        have his : i < l0.toArray.size := (Array.getElem?_eq_some_iff.1 ho).1
        have hclo := hp.closed hd i o ho hall
        have hin : i < n := by
          rcases Nat.lt_or_ge i n with h | h
          · exact h
          · exfalso
            obtain ⟨j, hj, hfl, hl⟩ := hund
            have := hclo j (hp.rest i j h his hj hfl)
            rw [hl] at this; cases this
        have hot : (l0.take n)[i]? = some o := by rw [List.getElem?_take_of_lt hin]; simpa using ho
        have fa := hV.at _ _ _ i _ hot
        rw [Nat.zero_add, List.take_take, Nat.min_eq_left (Nat.le_of_lt hin)] at fa
        have hlook := hF.look hp hsz hin ho hall
        obtain ⟨s1, s2⟩ := same_at (ops := l0.toArray) (fun cs b => Region.noSelect_spec hp.nosel i _ cs b ho) hlook
        have s1 : execOp (frL V (l0.take i) 0 a0).eval o = execOp b.eval o := s1
        have s2 : Region.wanted o (yielded l0.toArray (frL V (l0.take i) 0 a0).tmps) = Region.wanted o (yielded l0.toArray b.tmps) := s2
        have hout' : ∀ j, n ≤ j → (l.setIfInBounds i true).getD j false = false := fun j hj => by rw [getD_set_ne false (by omega)]; exact hout j hj
        have hrem := remN_step hin hun
        unfold wpOp
        rw [ho]
        simp only
        unfold FactAt at fa
        cases ha : ann i with
        | none =>
          rw [ha] at fa
          simp only at fa
          have hR' : ∀ W', Ext W W' → ∀ j A, j < n → (l.setIfInBounds i true).getD j false = true → ann j = some A → A.R (X j) W' := fun W' hW' j A hj hl haj => by
            by_cases e : j = i
            · subst e; rw [ha] at haj; cases haj
            · rw [getD_set_ne false (Ne.symm e)] at hl
              exact A.st _ _ _ (hR j A hj hl haj) hW'
          cases hw : Region.wanted o (yielded l0.toArray b.tmps) with
          | true =>
            rw [if_pos rfl]
            refine .inl ?_
            have hr := fa.1 (by rw [s2]; exact hw) W hW (fun j A hj hdj haj => hR j A (by omega) (hclo j hdj) haj)
            rw [s1] at hr
            unfold Oper.wp
            rw [hr]
            exact ih _ _ _ X V (hd.step hi) hout' hW (hR' W (Upd.refl _ _)) hV (hF.step hp hsz hin ho (fun _ _ _ => rfl)) (by omega)
          | false =>
            rw [if_neg (by simp)]
            have hv := fa.2 (by rw [s2]; exact hw)
            rw [← hv]
            exact ih _ _ _ X V (hd.step hi) hout' hW (hR' W (Upd.refl _ _)) hV (hF.step hp hsz hin ho (fun _ _ _ => rfl)) (by omega)
        | some A =>
          rw [ha] at fa
          simp only at fa
          obtain ⟨hw, hVi, hm⟩ := fa
          rw [s2] at hw
          rw [if_pos hw]
          refine .inl ?_
          obtain ⟨d, hdd⟩ := hp.some_ i o hin ho (by rw [← han, ha]; rfl)
          have hds := hp.dst i o d hin ho hdd
          have hfs := frL_size V (l0.take i) 0 a0
          refine wp_transfer (K := fun a' W' => a'.defers = (frL V (l0.take i) 0 a0).defers ∧ ∃ x, a'.tmps[d]? = some (A.val x) ∧ Ext W W' ∧ A.R x W') s1 (fun v W' hK => ?_) (fun _ _ h => h.1) (hm W hW (fun j B hj hdj haj => hR j B (by omega) (hclo j hdj) haj) _ (fun x W' hE hRx => ⟨put_defers' _ _ _, x, by rw [hdd]; exact put_eq _ _ _ (by rw [hfs.1, hsz]; exact hds), hE, hRx⟩))
          obtain ⟨_, x, hx, hE, hRx⟩ := hK
          rw [hdd, put_eq _ _ _ (by rw [hfs.1, hsz]; exact hds)] at hx
          have hvx : v = A.val x := Option.some.inj hx
          obtain ⟨V', hV'⟩ := good_of_can (fun j => if j = i then x else X j) _ _ _ _ hC (fun g hg => by cases hg)
          have hRW : ∀ j B, j < n → l.getD j false = true → ann j = some B → B.R (X j) W' := fun j B hj hl haj => B.st _ _ _ (hR j B hj hl haj) hE
          have hne : ∀ j, l.getD j false = true → j ≠ i := fun j hl e => by subst e; rw [getD_ff hun] at hl; cases hl
          have hsame := Good.same hp hd hsz hV hV' (fun j hj hl => if_neg (hne j hl)) (hW.ext hE) hRW
          have fa' := hV'.at _ _ _ i _ hot
          rw [Nat.zero_add] at fa'
          unfold FactAt at fa'
          rw [ha] at fa'
          simp only [if_true] at fa'
          rw [hvx, ← fa'.2.1]
          refine ih _ _ _ (fun j => if j = i then x else X j) V' (hd.step hi) hout' (hW.ext hE) (fun j B hj hl haj => ?_) hV' (hF.step hp hsz hin ho hsame) (by omega)
          by_cases e : j = i
          · subst e
            rw [ha] at haj
            obtain rfl := Option.some.inj haj
            simp only [if_true]
            exact hRx
          · rw [getD_set_ne false (Ne.symm e)] at hl
            simp only [if_neg e]
            exact hRW j B hj hl haj
/-- ONE WALK SERVES EVERY ORDER: the first n operations in the order of the text, each memory maker said by what it leaves; then the rest -/
theorem wp_region_parF {id : Nat} {a : Act} {w : World} {l0 : List Oper} [Inhabited α] (n : Nat) (fl : List Nat) (snk : Nat) (tail : List (Nat × Nat)) (dpl : List (List Nat)) (anl : List (Option (Ann α))) (anb : List Bool) (hm : P.follows .mixedOrders = true)
    (hB : parFB l0.toArray n a.tmps.size (fun i => dpl.getD i []) (fun i => anb.getD i false) fl snk tail = true) (han : anl.map (·.isSome) = anb)
    (hQ : ∀ c a d v w, Q (.panic c) (Act.put a d v) w → Q (.panic c) a w)
    (h : Can P l0.toArray (fun a W => wpMix P l0.toArray Q (fun _ => True) (pickO l0 tail) a W) w (fun i => dpl.getD i []) (fun i => anl.getD i none) (l0.take n) 0 [] a) : (Code.region id l0.toArray true).wp P Q a w := by
  have hp := parS_of hB
  refine wp_region_any hm ?_
  have hW : Ext w { w with drawn := w.drawn + 1 } := ⟨rfl, rfl, rfl, Nat.le_refl _, fun _ _ _ => rfl⟩
  obtain ⟨V, hV⟩ := good_of_can (fun _ => default) _ _ _ _ h (fun g hg => by cases hg)
  have hf : ∀ j, (Array.replicate l0.toArray.size false).getD j false = false := fun j => by
    rcases Nat.lt_or_ge j l0.length with h | h <;> simp [h]
  refine par_sound hp (fun i => ?_) hQ rfl h _ _ _ _ _ V Deps.start (fun j _ => hf j) hW (fun j A _ hl => by rw [hf] at hl; cases hl) hV FrS.start ?_
  · rw [← han]
    simp only [List.getD_eq_getElem?_getD, List.getElem?_map]
    cases anl[i]? <;> rfl
  · have h1 : remN n (Array.replicate l0.toArray.size false) ≤ n := by
      unfold remN
      exact Nat.le_trans (List.length_filter_le _ _) (by simp)
    have := hp.len
    omega
/-- the same, with nothing that floats -/
theorem wp_region_par {id : Nat} {a : Act} {w : World} {l0 : List Oper} [Inhabited α] (n : Nat) (tail : List (Nat × Nat)) (dpl : List (List Nat)) (anl : List (Option (Ann α))) (anb : List Bool) (hm : P.follows .mixedOrders = true)
    (hB : parB l0.toArray n a.tmps.size (fun i => dpl.getD i []) (fun i => anb.getD i false) tail = true) (han : anl.map (·.isSome) = anb)
    (hQ : ∀ c a d v w, Q (.panic c) (Act.put a d v) w → Q (.panic c) a w)
    (h : Can P l0.toArray (fun a W => wpMix P l0.toArray Q (fun _ => True) (pickO l0 tail) a W) w (fun i => dpl.getD i []) (fun i => anl.getD i none) (l0.take n) 0 [] a) : (Code.region id l0.toArray true).wp P Q a w := wp_region_parF n [] 0 tail dpl anl anb hm hB han hQ h
theorem can_pure {o : Oper} {r : List Oper} {i : Nat} {G : List (Nat × (World → Prop))} {a : Act} (ha : ann i = none)
    (h : ∀ K : Act → Prop, (∀ a, Can P ops Qt w0 dp ann r (i + 1) G a → K a) → if Region.wanted o (yielded ops a.tmps) then ∃ v, (∀ W, Ext w0 W → (∀ g ∈ G, g.1 ∈ dp i → g.2 W) → (execOp a.eval o).run P W = .ok (.value v) W) ∧ K (a.put o.dst v) else K (a.put o.dst undef)) :
    Can P ops Qt w0 dp ann (o :: r) i G a := by
  unfold Can
  rw [ha]
  exact h _ (fun _ h => h)
theorem can_mem {o : Oper} {r : List Oper} {i : Nat} {G : List (Nat × (World → Prop))} {a : Act} (A : Ann α) (ha : ann i = some A) (hw : Region.wanted o (yielded ops a.tmps) = true)
    (h1 : ∀ W, Ext w0 W → (∀ g ∈ G, g.1 ∈ dp i → g.2 W) → ∀ K : Act → World → Prop, (∀ x W', Ext W W' → A.R x W' → K (a.put o.dst (A.val x)) W') → o.wp P a W K (fun _ _ _ => False))
    (h2 : ∀ K : Act → Prop, ∀ x, (∀ a, Can P ops Qt w0 dp ann r (i + 1) (G ++ [(i, A.R x)]) a → K a) → K (a.put o.dst (A.val x))) :
    Can P ops Qt w0 dp ann (o :: r) i G a := by
  unfold Can
  rw [ha]
  exact ⟨hw, h1, fun x => h2 _ x (fun _ h => h)⟩
theorem can_end {i : Nat} {G : List (Nat × (World → Prop))} {a : Act} (h : ∀ W, Ext w0 W → (∀ g ∈ G, g.2 W) → Qt a W) : Can P ops Qt w0 dp ann [] i G a := h

/-- an operation that only computes, or reads what was there -/
theorem can_pure0 {o : Oper} {r : List Oper} {i : Nat} {G : List (Nat × (World → Prop))} {a : Act} (ha : ann i = none)
    (h : ∀ K : Act → Prop, (∀ a, Can P ops Qt w0 dp ann r (i + 1) G a → K a) → if Region.wanted o (yielded ops a.tmps) then ∃ v, (∀ x : XW w0, (execOp a.eval o).run P x.val = .ok (.value v) x.val) ∧ K (a.put o.dst v) else K (a.put o.dst undef)) :
    Can P ops Qt w0 dp ann (o :: r) i G a := by
  refine can_pure ha fun K hK => ?_
  have h2 := h K hK
  by_cases hw : Region.wanted o (yielded ops a.tmps) = true
  · rw [if_pos hw] at h2 ⊢
    obtain ⟨v, hv, h3⟩ := h2
    exact ⟨v, fun W hW _ => hv ⟨W, hW⟩, h3⟩
  · rw [if_neg hw] at h2 ⊢; exact h2
/-- a call that leaves a block of its own -/
def annBlk (val : α → Value) (f : α → Nat) (B : Nat) (o : Obj) : Ann α :=
  ⟨val, fun x W => B ≤ f x ∧ W.heap[f x]? = some o, fun x W W' h hE => ⟨h.1, hE.heap h.2 (fun h => h)⟩⟩
/-- a call that hands back one value -/
def annVal (v : Value) : Ann α := ⟨fun _ => v, fun _ _ => True, fun _ _ _ h _ => h⟩
end
end Go.Hw

/- An append to a slice without room, of length zero: no old block changes. -/
namespace Go.Hw
open Go.RowKit
set_option linter.unusedVariables false
set_option linter.unusedSimpArgs false
section
variable {P : Program} (w : World)
theorem step_append_new {o : Oper} {a : Act} {K : Act → World → Prop} {Q : Exit → Act → World → Prop} (s x : Operand) (t : TypeId)
    (ho : o.op = .call { callee := .builtin .append, args := #[s, x], argTypes := #[t, t] })
    (base : Nat) (e : TypeId) (i : TypeInfo) (z : Value) (size bytes : Nat) (ht : P.underlying t = some (.slice e)) (hi : P.info? e = some i) (hz : i.zero = some z)
    (hsize : i.size = size) (hby : i.bytes = bytes) (hzs : z.cells.size = size) (hsz : 0 < size)
    (q : Option Addr) (hs : a.eval s = .slice q 0 0) (hown : w.ownsRow base e size (.slice q 0 0) 0 [])
    (S : Nat → Prop) (sv : Value) (m : Nat) (news : List Value) (hx : a.eval x = sv) (hsl : SlR S w size sv m news) (h1 : ∀ u ∈ news, u.oneCell' = true)
    (h63 : m ≤ maxLen) (hbytes : m * bytes ≤ 140737488355328) (hbase : base ≤ w.heap.size)
    (h : ∀ v' w', Ext w w' → w'.ownsRow base e size v' m news → K (a.put o.dst v') w') : o.wp P a w K Q := by
  have hem : ∀ v' w', (Builtin.append_ #[t, t] o.type #[.slice q 0 0, sv]).run P w = .ok v' w' → w.grownBy w' (Value.ownBlock (.slice q 0 0)) → Ext w w' := by
    intro v' w' hr hgr
    refine ⟨hgr.os, hgr.tape, hgr.output, hgr.size, fun k hk _ => ?_⟩
    rcases hown.2 with ⟨hq, _⟩ | ⟨g, cap, cur, hq, hbg, hg, hnc, hcm, hcs, htake⟩
    · injection hq with hq
      subst hq
      exact hgr.block k hk (by simp [Value.ownBlock])
    · injection hq with hq h2 h3
      subst hq; subst h3
      by_cases hkg : k = g
      · subst hkg
        rcases hsl.2 with ⟨hv, hm⟩ | ⟨ad, c, hv, hc, hgg, hj⟩
        · have hr2 := run_append_owned_none (P := P) w base t o.type e i size ht hi _ 0 [] hown
          rw [hv, hr2] at hr
          injection hr with _ hr
          rw [hr]
        · have hnews : ∀ j u, news[j]? = some u → w.cell? (ad.add j) = some u := by
            intro j u hu
            have hlt : j < m * size := by rw [← hsl.1]; exact (List.getElem?_eq_some_iff.1 hu).1
            rw [← hu, ← hj j hlt]
            obtain ⟨g, off, spot⟩ := ad
            have hsp := (hgg (pos_of_lt hlt)).1
            simp only at hsp
            subst hsp
            congr 1
            unfold Addr.add
            split
            · rename_i h0; simp [h0]
            · rfl
          subst hsize
          by_cases hm : m = 0
          · subst hm
            have hn : news = [] := List.eq_nil_of_length_eq_zero (by rw [hsl.1]; simp)
            subst hn
            rw [hv, run_append_room (P := P) w t o.type e i ht hi k 0 0 cur hg ad 0 c [] (by simp) hnews h1 (Nat.le_refl _) (by simp)] at hr
            injection hr with _ hr
            rw [← hr, setRow_heap w k cur _ e _ hg, hg]
            simp
          · rw [hv, run_append_grow (P := P) w t o.type e i z ht hi hz ⟨k, 0, none⟩ 0 0 [] (by simp) (fun j v h => by simp at h) ad m c news hsl.1 hnews (by omega) (by simp only [maxLen] at h63; omega) (growslice_fits (by omega) (by subst hby; simpa using hbytes))] at hr
            injection hr with _ hr
            rw [← hr]
            exact Go.heap_alloc_old w.drew _ (by simpa using hk)
      · exact hgr.block k hk (by simp [Value.ownBlock]; exact hkg)
  rcases hsl.2 with ⟨hv, hm⟩ | ⟨ad, c, hv, hc, hgg, hj⟩
  · have hr := run_append_owned_none (P := P) w base t o.type e i size ht hi _ 0 [] hown
    have hn : news = [] := List.eq_nil_of_length_eq_zero (by rw [hsl.1, hm]; simp)
    subst hn; subst hm
    unfold Oper.wp execOp
    simp only [ho, resolve, invoke, builtin, Sem.run_bind, Sem.run_pure, Result.andThen_ok, List.map_toArray, List.map_cons, List.map_nil, hs, hx, hv, hr]
    exact h _ w (Upd.refl _ w) hown
  · have hnews : ∀ j u, news[j]? = some u → w.cell? (ad.add j) = some u := by
      intro j u hu
      have hlt : j < m * size := by rw [← hsl.1]; exact (List.getElem?_eq_some_iff.1 hu).1
      rw [← hu, ← hj j hlt]
      obtain ⟨g, off, spot⟩ := ad
      have hsp := (hgg (pos_of_lt hlt)).1
      simp only at hsp
      subst hsp
      congr 1
      unfold Addr.add
      split
      · rename_i h0; simp [h0]
      · rfl
    obtain ⟨v', w', hr, h2, h3, h4⟩ := run_append_own (P := P) w base t o.type e i z size bytes ht hi hz hsize hby hzs hsz _ 0 [] hown ad m c news hsl.1 hnews h1 (by omega) (by simpa using hbytes) hbase
    have hE := hem v' w' (by rw [hv]; exact hr) h3
    unfold Oper.wp execOp
    simp only [ho, resolve, invoke, builtin, Sem.run_bind, Sem.run_pure, Result.andThen_ok, List.map_toArray, List.map_cons, List.map_nil, hs, hx, hv, hr]
    exact h v' w' hE (by simpa using h2)
end
end Go.Hw

/- add of the reference. -/
namespace Go.Proofs.YtiimccogojkldaaGreatDoor
open Go.RowKit Go.Hw Go
set_option linter.unusedVariables false
set_option linter.unusedSimpArgs false

open Tm
theorem infoF : (Tryz.prog.info? 131).map (fun i => (i.zero, i.size, i.bytes)) = some (some (.agg #[.string ⟨#[]⟩, .string ⟨#[]⟩]), 2, 32) := by kernel_rfl
theorem ins_fir {S : Nat → Prop} {base e : Nat} {W : World} {v : Value} {l : List Vd} {f : Vd} {k : Nat} (hk : k ≤ l.length) (h : W.ownsRow base e 2 v (k + 1 + (l.length - k)) (fCells (l.take k) ++ (fCells [f] ++ fCells (l.drop k)))) :
    FiR (fun j => S j ∨ base ≤ j) W v (l.take k ++ f :: l.drop k) := by
  have h1 : (l.take k ++ f :: l.drop k).length = k + 1 + (l.length - k) := by simp only [List.length_append, List.length_take, List.length_cons, List.length_drop]; omega
  have h2 : fCells (l.take k ++ f :: l.drop k) = fCells (l.take k) ++ (fCells [f] ++ fCells (l.drop k)) := by
    rw [fCells_append, show f :: l.drop k = [f] ++ l.drop k from rfl, fCells_append]
  unfold FiR
  rw [h1, h2]
  exact SlR.weaken (SlR.of_own h) (fun j hj => .inr (h.lt j hj).1)
set_option maxRecDepth 100000 in
set_option maxHeartbeats 2000000 in
theorem add_x (l : List Vd) (f : Vd) (v : Value) (S : Nat → Prop) (w : World) (hR : FiR S w v l) (hl : l.length ≤ 100000) :
    Calls Tryz.prog 88 #[v, .agg #[.string f.1, .string f.2]] w fun e w' => ∃ r, e = .returned (.tuple #[r, .bool (vadd l f).2]) ∧ FiR (fun k => S k ∨ w.heap.size ≤ k) w' r (vadd l f).1 ∧ Ext w w' := by
  have HR := Lib.hid hR
  obtain ⟨a, cap, rfl⟩ := hR.shape
  have HZ := Lib.hid ((Upd.refl (fun _ => False) w).alloc (.cells #[.string f.1, .string f.2] 131))
  have HB := Lib.hid (alloc0 w (.cells #[.string f.1, .string f.2] 131))
  have HVA := Lib.hid (vadd_ix f l)
  clear hR
  go_enter Tryz.func88, Tryz.ntmps88
  go_wp2_with fail
  go_loopg [6] l.length (fun gk iv wr => ∃ k : Nat, iv = .int .i64 (k : Int) ∧ gk = l.length - k ∧ k ≤ l.length ∧ Hid (∀ j, j < k → blt (vg l j).1 f.1 = true) ∧ Hid (Ext w wr) ∧ Hid (wr.heap[w.heap.size]? = some (.cells #[.string f.1, .string f.2] 131 (0, 0))))
  case atStart => exact ⟨0, rfl, rfl, Nat.zero_le _, Lib.hid (fun j h => absurd h (Nat.not_lt_zero _)), HZ, HB⟩
  case round =>
    obtain ⟨k, rfl, rfl, hk, HC, HE, HBr⟩ := hrel
    have f0 := cellRow HBr.out 0 (.string f.1) rfl
    have f1 := cellRow HBr.out 1 (.string f.2) rfl
    by_cases hlt : k < l.length
    · obtain ⟨g, off, rfl, hat⟩ := (HR.out.ext HE.out).at_ (by omega)
      obtain ⟨q0, q1⟩ := hat k hlt
      have hcap : k ≤ cap := Nat.le_trans hk (SlR.le_cap HR.out rfl)
      have z0 : (0 : Int) ≤ (k : Int) := by omega
      have z1 : (k : Int) < (l.length : Int) := by omega
      have z2 : decide ((k : Int) < (l.length : Int)) = true := decide_eq_true z1
      have z2' : decide (k < l.length) = true := decide_eq_true hlt
      have t1 := bless (vg l k).1 f.1
      have hix := vix_uniq l f k hk HC.out
      have hnx : blt (vg l k).1 f.1 = true → ∀ j, j < k + 1 → blt (vg l j).1 f.1 = true := fun h j hj => by
        rcases Nat.lt_succ_iff_lt_or_eq.1 hj with h5 | h5
        · exact HC.out j h5
        · rw [h5]; exact h
      have HIX := Lib.hid hix
      have HNX := Lib.hid hnx
      clear hix hnx hat
      obtain ⟨x, hx⟩ : ∃ x, vg l k = x := ⟨_, rfl⟩
      have HXX := Lib.hid hx
      rw [hx] at q0 q1 t1 HIX HNX
      clear hx
      cases hb : blt x.1 f.1
      · rw [hb] at t1
        have HVX : Hid (vix l f = k) := Lib.hid (HIX.out (fun _ => hb))
        clear hb
        have HEQ := Lib.hid HVA.out
        rw [HVX.out] at HEQ
        go_wp2_with fail
        go_quiet (fail)
        generalize hwq : wr.drewN nq = wq at *
        have HEq : Hid (Ext w wq) := Lib.hid (by rw [← hwq]; exact HE.out.drewN' nq)
        have HBq : Hid (wq.heap[w.heap.size]? = some (.cells #[.string f.1, .string f.2] 131 (0, 0))) := Lib.hid (by rw [← hwq]; exact HBr.out)
        have q0' : wq.cell? ⟨g, off + k * 2, none⟩ = some (.string x.1) := by rw [← hwq]; exact q0
        have q1' : wq.cell? ⟨g, off + k * 2 + 1, none⟩ = some (.string x.2) := by rw [← hwq]; exact q1
        clear hwq HE HBr q0 q1 f0 f1
        have f0 := cellRow HBq.out 0 (.string f.1) rfl
        have f1 := cellRow HBq.out 1 (.string f.2) rfl
        by_cases he : x.1 = f.1
        · have t3 : (x.1.toList == f.1.toList) = true := by rw [he]; simp
          have HV2 : Hid (vadd l f = (l, decide (x.2 = f.2))) := Lib.hid (by rw [HEQ.out, if_pos ⟨hlt, by rw [HXX.out]; exact he⟩, HXX.out])
          clear he
          have t4 : (x.2.toList == f.2.toList) = decide (x.2 = f.2) := by
            rw [Bool.eq_iff_iff, beq_iff_eq, decide_eq_true_eq]
            exact ⟨fun e => ba_list (by rw [Lib.toList_data, Lib.toList_data] at e; exact e), fun e => by rw [e]⟩
          obtain ⟨BB, hBB⟩ : ∃ b, decide (x.2 = f.2) = b := ⟨_, rfl⟩
          rw [hBB] at t4 HV2
          clear hBB
          go_wp2_with fail
          go_quiet (fail)
          go_wp2_with fail
          go_quiet (fail)
          go_wp2_with fail
          go_ret2
          rw [HV2.out]
          exact ⟨_, rfl, SlR.weaken (SlR.drewN (SlR.drewN (FiR.ext HR.out HEq.out) _) _) (fun k h => .inl h), (HEq.out.drewN' _).drewN' _⟩
        · have t3 : (x.1.toList == f.1.toList) = false := by
            rw [beq_eq_false_iff_ne]
            intro e
            exact he (ba_list (by rw [Lib.toList_data, Lib.toList_data] at e; exact e))
          have HV2 : Hid (vadd l f = (l.take k ++ f :: l.drop k, true)) := Lib.hid (by rw [HEQ.out, if_neg (fun h => he (by rw [← HXX.out]; exact h.2))])
          clear he
          go_wp2_with fail
          go_quiet (fail)
          generalize hwq : wq.drewN nq = wz at *
          have HEz : Hid (Ext w wz) := Lib.hid (by rw [← hwq]; exact HEq.out.drewN' nq)
          have HBz : Hid (wz.heap[w.heap.size]? = some (.cells #[.string f.1, .string f.2] 131 (0, 0))) := Lib.hid (by rw [← hwq]; exact HBq.out)
          clear hwq HEq HBq q0' q1' f0 f1 t1 t3
          have f0 := cellRow HBz.out 0 (.string f.1) rfl
          have f1 := cellRow HBz.out 1 (.string f.2) rfl
          have xf0 := fun x : XW wz => x.ext.cell f0 (fun h => h)
          have xf1 := fun x : XW wz => x.ext.cell f1 (fun h => h)
          clear f0 f1
          go_wp2_with fail
          refine wp_region_parF (α := Option Addr × Nat) 7 [] 7 [(7, 2), (8, 2)] [[], [], [], [1, 2], [0, 1, 2, 3], [], [5], [0, 1, 2, 3, 4, 5, 6], [0, 1, 2, 3, 4, 5, 6, 7]]
            [some ⟨fun x => .slice x.1 0 0, fun x W => W.ownsRow w.heap.size 131 2 (.slice x.1 0 0) 0 [], fun x W W' h hE => own_kept h hE (fun _ _ h => h)⟩, none, none, none, some ⟨fun x => .slice x.1 k x.2, fun x W => W.ownsRow w.heap.size 131 2 (.slice x.1 k x.2) k (fCells (l.take k)), fun x W W' h hE => own_kept h hE (fun _ _ h => h)⟩, none, some ⟨fun x => .slice x.1 1 x.2, fun x W => FiR (fun j => w.heap.size ≤ j) W (.slice x.1 1 x.2) [f], fun x W W' h hE => FiR.ext h hE⟩]
            [true, false, false, false, true, false, true] (by kernel_rfl) (by kernel_rfl) rfl (fun _ _ d _ _ h => by cases d <;> exact h) ?_
          simp only [List.take_succ_cons, List.take_zero, pickO, List.getElem?_cons_zero, List.getElem?_cons_succ]
          refine can_mem _ rfl (by go_simp) (fun W hW hG K hK => ?_) (fun K zz0 hK => ?_)
          · go_simp
            exact hK (some ⟨W.heap.size, 0, none⟩, 0) _ ((Upd.refl (fun _ => False) W).alloc _) (World.ownsRow_lit (base := w.heap.size) (e := 131) (size := 2) W #[] 0 (Nat.le_trans HEz.out.size hW.size) (by unfold maxLen; omega) (by simp))
          refine hK _ ?_; clear hK K
          dsimp only
          iterate 3 (refine can_pure0 rfl (fun K hK => ?_); go_simp; refine hK _ ?_; clear hK K)
          obtain ⟨iS, hi, hz0, hz1, hz2⟩ := info_parts infoF
          refine can_mem _ rfl (by go_simp) (fun W hW hG K hK => ?_) (fun K zz4 hK => ?_)
          · have g0 := hG _ (List.mem_singleton.2 rfl) (by show (0 : Nat) ∈ _; decide)
            have hsl : SlR S W 2 (.slice (some ⟨g, off, none⟩) k cap) k (fCells (l.take k)) := by
              have h := (HR.out.ext HEz.out).ext hW |>.to rfl k hk
              rw [fCells_take] at h
              exact h
            refine step_append_new _ (.tmp 47) (.tmp 50) 66 rfl w.heap.size 131 iS (.agg #[.string ⟨#[]⟩, .string ⟨#[]⟩]) 2 32 Tryz.underlying66 hi hz0 hz1 hz2 rfl (by decide) _ rfl g0 S _ k _ rfl hsl (fCells_one _) (by unfold maxLen; omega) (by omega) (Nat.le_trans HEz.out.size hW.size) ?_
            intro v' w' hE4 hO4
            obtain ⟨p4, c4, rfl⟩ := own_shape hO4
            exact hK (p4, c4) _ hE4 hO4
          refine hK _ ?_; clear hK K
          dsimp only
          refine can_pure0 rfl (fun K hK => ?_); go_simp; refine hK _ ?_; clear hK K
          refine can_mem _ rfl (by go_simp) (fun W hW hG K hK => ?_) (fun K zz6 hK => ?_)
          · go_simp
            exact hK (some ⟨W.heap.size, 0, none⟩, 1) _ ((Upd.refl (fun _ => False) W).alloc _) (SlR.weaken (SlR.of_own (World.ownsRow_lit (base := w.heap.size) (e := 131) (size := 2) W #[.string f.1, .string f.2] 1 (Nat.le_trans HEz.out.size hW.size) (by unfold maxLen; omega) (by simp))) (fun k hk => by injection hk with hk; rw [← hk]; exact Nat.le_trans HEz.out.size hW.size))
          refine hK _ ?_; clear hK K
          dsimp only
          refine can_end (fun w8 hW hG => ?_)
          have g4 := hG _ (List.mem_append_left _ (List.mem_append_right _ (List.mem_singleton.2 rfl)))
          have g6 := hG _ (List.mem_append_right _ (List.mem_singleton.2 rfl))
          dsimp only at g4 g6
          have hW8 : Hid (Ext w w8) := Lib.hid (HEz.out.trans hW)
          clear hG hW
          refine mix_two (fun K hK => ?_)
          rw [if_pos (by go_simp)]
          refine step_append_sl _ (.tmp 51) (.tmp 53) 66 rfl w.heap.size 131 iS (.agg #[.string ⟨#[]⟩, .string ⟨#[]⟩]) 2 32 Tryz.underlying66 hi hz0 hz1 hz2 rfl (by decide) (.slice zz4.1 k zz4.2) k _ rfl g4 (fun j => w.heap.size ≤ j) (.slice zz6.1 1 zz6.2) 1 _ rfl g6 (fCells_one _) (by unfold maxLen; omega) (by omega) hW8.out.size ?_
          intro v7 w9 hG7
          refine hK _ _ ?_; clear hK K
          refine mix_two (fun K hK => ?_); go_simp; refine hK _ _ ?_; clear hK K
          simp only [wpMix]
          have hW9 : Hid (Ext w w9) := Lib.hid (hW8.out.trans' hG7.upd (fun j hj h => absurd (g4.lt j h).1 (by omega)))
          have g9 := Lib.hid hG7.own
          clear hG7 g4 g6 hW8
          obtain ⟨p7, c7, rfl⟩ := own_shape g9.out
          have hR9 : SlR S w9 2 (.slice (some ⟨g, off, none⟩) l.length cap) l.length (fCells l) := HR.out.ext hW9.out
          have hs9 := hW9.out.size
          go_wp2_with (with_reducible (refine stop_at (o := ⟨some 58, _, _, _, _, _⟩) ?_))
          refine Stop.go ?_
          refine wpList_slice_from _ rfl 66 _ _ rfl 2 (by kernel_rfl) (fun _ => by kernel_rfl) _ _ _ _ rfl hR9 k .i64 (k : Int) rfl rfl hk (fun sv hsv => ?_)
          rw [fCells_drop] at hsv
          obtain ⟨ps, cs, rfl⟩ := hsv.shape
          go_wp2_with (at_builtin; refine wpList_append_sl _ rfl (.tmp 55) (.tmp 58) 66 rfl w.heap.size 131 iS (.agg #[.string ⟨#[]⟩, .string ⟨#[]⟩]) 2 32 Tryz.underlying66 hi hz0 hz1 hz2 rfl (by decide) (.slice p7 (k + 1) c7) (k + 1) _ rfl g9.out S (.slice ps (l.length - k) cs) (l.length - k) (fCells (l.drop k)) rfl hsv (fCells_one _) ?c3 ?c4 hs9 ?_)
          case c3 => unfold maxLen; omega
          case c4 => omega
          intro v10 w10 hG
          have HON := Lib.hid hG.own
          have HEN : Hid (Ext w w10) := Lib.hid (hW9.out.trans' hG.upd (fun i hi e => by have := (g9.out.lt i e).1; omega))
          clear hG hR9 hs9 hsv
          go_wp2_with fail
          go_ret2
          rw [HV2.out]
          exact ⟨v10, rfl, ins_fir hk HON.out, HEN.out⟩
      · rw [hb] at t1
        have HN := Lib.hid (HNX.out hb)
        clear hb
        go_wp2_with fail
        go_quiet (fail)
        go_wp2_with fail
        go_roundg (l.length - (k + 1))
        case measure => omega
        case rel => exact ⟨k + 1, by go_num, rfl, by omega, HN, Lib.hid (HE.out.drewN' nq), Lib.hid HBr.out⟩
    · have hkl : k = l.length := by omega
      have HVX : Hid (vix l f = k) := Lib.hid (vix_uniq l f k hk HC.out (fun h => absurd h hlt))
      have HV2 : Hid (vadd l f = (l.take k ++ f :: l.drop k, true)) := Lib.hid (by rw [HVA.out, HVX.out, if_neg (fun h => absurd h.1 hlt)])
      have z0 : (0 : Int) ≤ (k : Int) := by omega
      have z2 : decide ((k : Int) < (l.length : Int)) = false := decide_eq_false (by omega)
      have z2' : decide (k < l.length) = false := decide_eq_false hlt
      have hcap : k ≤ cap := Nat.le_trans hk (SlR.le_cap HR.out rfl)
      clear hkl
      go_wp2_with fail
      go_quiet (fail)
      generalize hwq : wr.drewN nq = wq at *
      have HEq : Hid (Ext w wq) := Lib.hid (by rw [← hwq]; exact HE.out.drewN' nq)
      have HBq : Hid (wq.heap[w.heap.size]? = some (.cells #[.string f.1, .string f.2] 131 (0, 0))) := Lib.hid (by rw [← hwq]; exact HBr.out)
      clear hwq HE HBr f0 f1
      go_wp2_with fail
      go_quiet (fail)
      generalize hwq : wq.drewN nq = wz at *
      have HEz : Hid (Ext w wz) := Lib.hid (by rw [← hwq]; exact HEq.out.drewN' nq)
      have HBz : Hid (wz.heap[w.heap.size]? = some (.cells #[.string f.1, .string f.2] 131 (0, 0))) := Lib.hid (by rw [← hwq]; exact HBq.out)
      clear hwq HEq HBq
      have f0 := cellRow HBz.out 0 (.string f.1) rfl
      have f1 := cellRow HBz.out 1 (.string f.2) rfl
      have xf0 := fun x : XW wz => x.ext.cell f0 (fun h => h)
      have xf1 := fun x : XW wz => x.ext.cell f1 (fun h => h)
      clear f0 f1
      go_wp2_with fail
      refine wp_region_parF (α := Option Addr × Nat) 7 [] 7 [(7, 2), (8, 2)] [[], [], [], [1, 2], [0, 1, 2, 3], [], [5], [0, 1, 2, 3, 4, 5, 6], [0, 1, 2, 3, 4, 5, 6, 7]]
        [some ⟨fun x => .slice x.1 0 0, fun x W => W.ownsRow w.heap.size 131 2 (.slice x.1 0 0) 0 [], fun x W W' h hE => own_kept h hE (fun _ _ h => h)⟩, none, none, none, some ⟨fun x => .slice x.1 k x.2, fun x W => W.ownsRow w.heap.size 131 2 (.slice x.1 k x.2) k (fCells (l.take k)), fun x W W' h hE => own_kept h hE (fun _ _ h => h)⟩, none, some ⟨fun x => .slice x.1 1 x.2, fun x W => FiR (fun j => w.heap.size ≤ j) W (.slice x.1 1 x.2) [f], fun x W W' h hE => FiR.ext h hE⟩]
        [true, false, false, false, true, false, true] (by kernel_rfl) (by kernel_rfl) rfl (fun _ _ d _ _ h => by cases d <;> exact h) ?_
      simp only [List.take_succ_cons, List.take_zero, pickO, List.getElem?_cons_zero, List.getElem?_cons_succ]
      refine can_mem _ rfl (by go_simp) (fun W hW hG K hK => ?_) (fun K zz0 hK => ?_)
      · go_simp
        exact hK (some ⟨W.heap.size, 0, none⟩, 0) _ ((Upd.refl (fun _ => False) W).alloc _) (World.ownsRow_lit (base := w.heap.size) (e := 131) (size := 2) W #[] 0 (Nat.le_trans HEz.out.size hW.size) (by unfold maxLen; omega) (by simp))
      refine hK _ ?_; clear hK K
      dsimp only
      iterate 3 (refine can_pure0 rfl (fun K hK => ?_); go_simp; refine hK _ ?_; clear hK K)
      obtain ⟨iS, hi, hz0, hz1, hz2⟩ := info_parts infoF
      refine can_mem _ rfl (by go_simp) (fun W hW hG K hK => ?_) (fun K zz4 hK => ?_)
      · have g0 := hG _ (List.mem_singleton.2 rfl) (by show (0 : Nat) ∈ _; decide)
        have hsl : SlR S W 2 (.slice a k cap) k (fCells (l.take k)) := by
          have h := (HR.out.ext HEz.out).ext hW |>.to rfl k hk
          rw [fCells_take] at h
          exact h
        refine step_append_new _ (.tmp 47) (.tmp 50) 66 rfl w.heap.size 131 iS (.agg #[.string ⟨#[]⟩, .string ⟨#[]⟩]) 2 32 Tryz.underlying66 hi hz0 hz1 hz2 rfl (by decide) _ rfl g0 S _ k _ rfl hsl (fCells_one _) (by unfold maxLen; omega) (by omega) (Nat.le_trans HEz.out.size hW.size) ?_
        intro v' w' hE4 hO4
        obtain ⟨p4, c4, rfl⟩ := own_shape hO4
        exact hK (p4, c4) _ hE4 hO4
      refine hK _ ?_; clear hK K
      dsimp only
      refine can_pure0 rfl (fun K hK => ?_); go_simp; refine hK _ ?_; clear hK K
      refine can_mem _ rfl (by go_simp) (fun W hW hG K hK => ?_) (fun K zz6 hK => ?_)
      · go_simp
        exact hK (some ⟨W.heap.size, 0, none⟩, 1) _ ((Upd.refl (fun _ => False) W).alloc _) (SlR.weaken (SlR.of_own (World.ownsRow_lit (base := w.heap.size) (e := 131) (size := 2) W #[.string f.1, .string f.2] 1 (Nat.le_trans HEz.out.size hW.size) (by unfold maxLen; omega) (by simp))) (fun k hk => by injection hk with hk; rw [← hk]; exact Nat.le_trans HEz.out.size hW.size))
      refine hK _ ?_; clear hK K
      dsimp only
      refine can_end (fun w8 hW hG => ?_)
      have g4 := hG _ (List.mem_append_left _ (List.mem_append_right _ (List.mem_singleton.2 rfl)))
      have g6 := hG _ (List.mem_append_right _ (List.mem_singleton.2 rfl))
      dsimp only at g4 g6
      have hW8 : Hid (Ext w w8) := Lib.hid (HEz.out.trans hW)
      clear hG hW
      refine mix_two (fun K hK => ?_)
      rw [if_pos (by go_simp)]
      refine step_append_sl _ (.tmp 51) (.tmp 53) 66 rfl w.heap.size 131 iS (.agg #[.string ⟨#[]⟩, .string ⟨#[]⟩]) 2 32 Tryz.underlying66 hi hz0 hz1 hz2 rfl (by decide) (.slice zz4.1 k zz4.2) k _ rfl g4 (fun j => w.heap.size ≤ j) (.slice zz6.1 1 zz6.2) 1 _ rfl g6 (fCells_one _) (by unfold maxLen; omega) (by omega) hW8.out.size ?_
      intro v7 w9 hG7
      refine hK _ _ ?_; clear hK K
      refine mix_two (fun K hK => ?_); go_simp; refine hK _ _ ?_; clear hK K
      simp only [wpMix]
      have hW9 : Hid (Ext w w9) := Lib.hid (hW8.out.trans' hG7.upd (fun j hj h => absurd (g4.lt j h).1 (by omega)))
      have g9 := Lib.hid hG7.own
      clear hG7 g4 g6 hW8
      obtain ⟨p7, c7, rfl⟩ := own_shape g9.out
      have hR9 : SlR S w9 2 (.slice a l.length cap) l.length (fCells l) := HR.out.ext hW9.out
      have hs9 := hW9.out.size
      go_wp2_with (with_reducible (refine stop_at (o := ⟨some 58, _, _, _, _, _⟩) ?_))
      refine Stop.go ?_
      refine wpList_slice_from _ rfl 66 _ _ rfl 2 (by kernel_rfl) (fun _ => by kernel_rfl) _ _ _ _ rfl hR9 k .i64 (k : Int) rfl rfl hk (fun sv hsv => ?_)
      rw [fCells_drop] at hsv
      obtain ⟨ps, cs, rfl⟩ := hsv.shape
      go_wp2_with (at_builtin; refine wpList_append_sl _ rfl (.tmp 55) (.tmp 58) 66 rfl w.heap.size 131 iS (.agg #[.string ⟨#[]⟩, .string ⟨#[]⟩]) 2 32 Tryz.underlying66 hi hz0 hz1 hz2 rfl (by decide) (.slice p7 (k + 1) c7) (k + 1) _ rfl g9.out S (.slice ps (l.length - k) cs) (l.length - k) (fCells (l.drop k)) rfl hsv (fCells_one _) ?c3 ?c4 hs9 ?_)
      case c3 => unfold maxLen; omega
      case c4 => omega
      intro v10 w10 hG
      have HON := Lib.hid hG.own
      have HEN : Hid (Ext w w10) := Lib.hid (hW9.out.trans' hG.upd (fun i hi e => by have := (g9.out.lt i e).1; omega))
      clear hG hR9 hs9 hsv
      go_wp2_with fail
      go_ret2
      rw [HV2.out]
      exact ⟨v10, rfl, ins_fir hk HON.out, HEN.out⟩

end Go.Proofs.YtiimccogojkldaaGreatDoor

/- vars of the reference. -/
namespace Go.Proofs.YtiimccogojkldaaGreatDoor
open Go.RowKit Go.Hw Go
set_option linter.unusedVariables false
set_option linter.unusedSimpArgs false

open Tm
theorem vadd_len (f : Vd) : ∀ l : List Vd, (vadd l f).1.length ≤ l.length + 1
  | [] => by simp [vadd]
  | g :: l => by
    simp only [vadd]
    split
    · simp only [List.length_cons]; have := vadd_len f l; omega
    · split <;> simp
theorem vFold_len : ∀ (fs l : List Vd), (vFold l fs).1.length ≤ l.length + fs.length
  | [], l => by simp [vFold]
  | f :: fs, l => by
    simp only [vFold]
    split
    · have h1 := vFold_len fs (vadd l f).1
      have h2 := vadd_len f l
      simp only [List.length_cons]; omega
    · simp
theorem vFold_app : ∀ (fs gs l : List Vd), vFold l (fs ++ gs) = if (vFold l fs).2 = true then vFold (vFold l fs).1 gs else vFold l fs
  | [], gs, l => by simp [vFold]
  | f :: fs, gs, l => by
    by_cases h : (vadd l f).2 = true
    · have e1 : ∀ x, vFold l (f :: x) = vFold (vadd l f).1 x := fun x => by rw [vFold, if_pos h]
      rw [List.cons_append, e1, e1]; exact vFold_app fs gs _
    · have e1 : ∀ x, vFold l (f :: x) = (l, false) := fun x => by rw [vFold, if_neg h]
      rw [List.cons_append, e1, e1]; rfl
/-- variables have no parts -/
def VL (t : Tm) : Prop := ∀ x ∈ sbts t, x.sort ≠ nul → x.kids = []
theorem VL.kid {t x : Tm} (h : VL t) (hx : x ∈ t.kids) : VL x := fun y hy => h y (mem_sbts_kid hx hy)
theorem vl_node (n : By) (L : List Tm) : vl (sbts (.mk n nul L)) = L.flatMap (fun x => vl (sbts x)) := by
  rw [sbts_eq]
  have h1 : ∀ M : List Tm, vl (M.flatMap sbts) = M.flatMap (fun x => vl (sbts x)) := by
    intro M
    induction M with
    | nil => rfl
    | cons x M ih => rw [List.flatMap_cons, vl_append, ih, List.flatMap_cons]
  have h2 : vl [Tm.mk n nul L] = [] := rfl
  rw [← List.singleton_append, vl_append, h2, h1]; rfl
theorem vl_leaf (n s : By) (h : s ≠ nul) : vl (sbts (.mk n s [])) = [(n, s)] := by
  rw [sbts_eq]
  simp [vl, Tm.sort, Tm.name, Tm.kids, h]
theorem vl_len (t : Tm) : (vl (sbts t)).length ≤ t.size := by
  have h1 : (vl (sbts t)).length ≤ (sbts t).length := List.length_filterMap_le _ _
  have h2 : (sbts t).length = t.size := by rw [sbts, List.length_map, nodesD_len]
  omega
abbrev vls (L : List Tm) : List Vd := L.flatMap fun x => vl (sbts x)
theorem vls_len : ∀ L : List Tm, (vls L).length ≤ sizes L
  | [] => by simp [sizes]
  | x :: L => by
    have h1 := vl_len x
    have h2 := vls_len L
    simp only [vls, List.flatMap_cons, List.length_append, sizes] at h2 ⊢
    omega
theorem tk_snoc (L : List Tm) (k : Nat) (h : k < L.length) : L.take (k + 1) = L.take k ++ [tg L k] := by
  rw [List.take_add_one]
  have : L[k]?.toList = [tg L k] := by unfold tg; rw [List.getD_eq_getElem?_getD, List.getElem?_eq_getElem h]; rfl
  rw [this]
theorem tg_mem (L : List Tm) (k : Nat) (h : k < L.length) : tg L k ∈ L := by
  unfold tg; rw [List.getD_eq_getElem?_getD, List.getElem?_eq_getElem h]; exact List.getElem_mem h
theorem vls_snoc (L : List Tm) (k : Nat) (h : k < L.length) : vls (L.take (k + 1)) = vls (L.take k) ++ vl (sbts (tg L k)) := by
  rw [tk_snoc L k h]
  unfold vls
  rw [List.flatMap_append, List.flatMap_cons, List.flatMap_nil, List.append_nil]
theorem kid_room (L : List Tm) (k : Nat) (h : k < L.length) : (vls (L.take k)).length + (tg L k).size ≤ sizes L := by
  have h1 := vls_len (L.take k)
  have h2 : sizes L = sizes (L.take (k + 1)) + sizes (L.drop (k + 1)) := by rw [← sizes_append, List.take_append_drop]
  rw [tk_snoc L k h, sizes_append] at h2
  have h3 : sizes [tg L k] = (tg L k).size := by simp [sizes]
  omega
theorem vls_fold (L : List Tm) (l cur : List Vd) (k : Nat) (h : k < L.length) (hc : vFold l (vls (L.take k)) = (cur, true)) :
    (∀ m, vFold cur (vl (sbts (tg L k))) = (m, true) → vFold l (vls (L.take (k + 1))) = (m, true)) ∧
    ((vFold cur (vl (sbts (tg L k)))).2 = false → (vFold l (vls L)).2 = false) := by
  have h1 : vFold l (vls (L.take (k + 1))) = vFold cur (vl (sbts (tg L k))) := by
    rw [vls_snoc L k h, vFold_app, hc, if_pos rfl]
  refine ⟨fun m hm => by rw [h1, hm], fun hf => ?_⟩
  have h2 : vls L = vls (L.take (k + 1)) ++ vls (L.drop (k + 1)) := by
    unfold vls
    rw [← List.flatMap_append, List.take_append_drop]
  rw [h2, vFold_app, h1, if_neg (by rw [hf]; simp)]
  exact hf
set_option maxRecDepth 100000 in
set_option maxHeartbeats 2000000 in
theorem vars_x : ∀ (t : Tm) (l : List Vd) (v v' : Value) (S T : Nat → Prop) (w : World), TmR T w t v' → FiR S w v l → VL t → l.length + t.size ≤ 100000 →
    Calls Tryz.prog 58 #[v, v'] w fun e w' => ∃ r, e = .returned (.tuple #[r, .bool (vFold l (vl (sbts t))).2]) ∧ ((vFold l (vl (sbts t))).2 = true → FiR (fun k => S k ∨ w.heap.size ≤ k) w' r (vFold l (vl (sbts t))).1) ∧ Ext w w' := by
  refine Tm.ind (fun nm so L ih => ?_)
  intro l v v' S T w hT hF hV hsz
  obtain ⟨a, cap, rfl, hT⟩ := hT
  dsimp only [tV, Tm.name, Tm.sort, Tm.kids] at hT ⊢
  have HTL := Lib.hid hT
  have HIH := Lib.hid ih
  have HF := Lib.hid hF
  have HVL := Lib.hid hV
  obtain ⟨fa, fc, rfl⟩ := hF.shape
  clear ih hT hF hV
  have HZ := Lib.hid ((Upd.refl (fun _ => False) w).alloc (.cells #[.string nm, .string so, .slice a L.length cap] 25))
  have HB := Lib.hid (alloc0 w (.cells #[.string nm, .string so, .slice a L.length cap] 25))
  by_cases hs0 : so.size = 0
  · have hse := empty_is _ hs0
    subst hse
    rw [show vl (sbts (.mk nm ⟨#[]⟩ L)) = vls L from vl_node nm L]
    have hroom : l.length + sizes L + 1 ≤ 100000 := by rw [size_eq] at hsz; exact hsz
    have HR0 := Lib.hid hroom
    have hlL : L.length ≤ 100000 := by have h1 := length_le_sizes L; omega
    clear hsz hroom
    have c0 := cellRow HB.out 0 (.string nm) rfl
    have c1 := cellRow HB.out 1 (.string ⟨#[]⟩) rfl
    have c2 := cellRow HB.out 2 (.slice a L.length cap) rfl
    have hVK : ∀ x ∈ L, VL x := fun x hx => VL.kid (t := .mk nm ⟨#[]⟩ L) HVL.out hx
    have HVK := Lib.hid hVK
    clear hVK HVL
    go_enter Tryz.func58, Tryz.ntmps58
    go_wp2_with fail
    clear c0 c1 c2
    go_loopg [0, 6] L.length (fun gk lv iv wr => ∃ (k : Nat) (cur : List Vd), iv = .int .i64 (k : Int) ∧ gk = L.length - k ∧ k ≤ L.length ∧ Hid (vFold l (vls (L.take k)) = (cur, true)) ∧ Hid (FiR (fun j => S j ∨ w.heap.size ≤ j) wr lv cur) ∧ Hid (Ext w wr) ∧ Hid (wr.heap[w.heap.size]? = some (.cells #[.string nm, .string ⟨#[]⟩, .slice a L.length cap] 25 (0, 0))))
    case atStart => exact ⟨0, l, rfl, rfl, Nat.zero_le _, Lib.hid rfl, Lib.hid (SlR.weaken (FiR.ext HF.out HZ.out) (fun j h => .inl h)), HZ, HB⟩
    case round =>
      obtain ⟨k, cur, rfl, rfl, hk, HC, HFk, HE, HBr⟩ := hrel
      have c2 := cellRow HBr.out 2 (.slice a L.length cap) rfl
      by_cases hlt : k < L.length
      · obtain ⟨g, off, rfl, _, hat⟩ := (HTL.out.ext HE.out).at_ (by omega)
        obtain ⟨ka, kc, q0, q1, q2, hkid⟩ := hat k hlt
        have z0 : (0 : Int) ≤ (k : Int) := by omega
        have z1 : (k : Int) < (L.length : Int) := by omega
        have z2 : decide ((k : Int) < (L.length : Int)) = true := decide_eq_true z1
        have z2' : decide (k < L.length) = true := decide_eq_true hlt
        have hmem := tg_mem L k hlt
        have hrm := kid_room L k hlt
        have hln : cur.length ≤ l.length + (vls (L.take k)).length := by have := vFold_len (vls (L.take k)) l; rw [HC.out] at this; exact this
        obtain ⟨hv1, hv2⟩ := vls_fold L l cur k hlt HC.out
        have HIX := Lib.hid (HIH.out (tg L k) hmem cur _ _ _ T wr ⟨ka, kc, rfl, hkid⟩ HFk.out (HVK.out _ hmem) (by have := HR0.out; omega))
        dsimp only [tV] at HIX
        generalize vl (sbts (tg L k)) = ff at hv1 hv2 HIX
        obtain ⟨⟨m, b⟩, hm⟩ : ∃ p, vFold cur ff = p := ⟨_, rfl⟩
        rw [hm] at hv1 hv2 HIX
        have HV1 := Lib.hid hv1
        have HV2 := Lib.hid hv2
        obtain ⟨x, hx⟩ : ∃ x, tg L k = x := ⟨_, rfl⟩
        rw [hx] at q0 q1 q2 HIX
        rw [← Nat.add_assoc] at q1 q2
        clear hmem hrm hln hv1 hv2 hm hx hat hkid
        go_wp2_with fail
        refine HIX.out.mono ?_
        rintro e w8 ⟨r, rfl, hr, hw8⟩
        have HE8 := Lib.hid (HE.out.ext hw8)
        have HB8 := Lib.hid (hw8.heap HBr.out (fun h => h))
        have HFr : Hid (b = true → FiR (fun j => S j ∨ w.heap.size ≤ j) w8 r m) := Lib.hid (fun hb => SlR.weaken (hr hb) (fun j h => by
          rcases h with h | h
          · exact h
          · exact .inr (Nat.le_trans HE.out.size h)))
        clear hr hw8 c2 q0 q1 q2 HIX
        cases b
        · have HVF := Lib.hid (HV2.out rfl)
          go_wp2_with fail
          go_ret2
          rw [HVF.out]
          exact ⟨_, rfl, fun h => (by cases h), HE8.out⟩
        · have HN := Lib.hid (HV1.out m rfl)
          go_wp2_with fail
          go_roundg (L.length - (k + 1))
          case measure => omega
          case rel => exact ⟨k + 1, m, by go_num, rfl, by omega, HN, Lib.hid (HFr.out trivial), HE8, HB8⟩
      · obtain rfl : k = L.length := by omega
        have HV : Hid (vFold l (vls L) = (cur, true)) := Lib.hid (by rw [← HC.out, List.take_length])
        have z2 : decide ((L.length : Int) < (L.length : Int)) = false := decide_eq_false (by omega)
        go_wp2_with fail
        go_ret2
        rw [HV.out]
        exact ⟨_, rfl, fun _ => HFk.out, HE.out⟩
  · have hLn : L = [] := HVL.out _ (mem_sbts_self _) (fun e => hs0 (by show so.size = 0; rw [show so = nul from e]; rfl))
    subst hLn
    obtain ⟨e1, e2, e3, e4⟩ := nonempty_t so (Nat.pos_of_ne_zero hs0)
    rw [vl_leaf nm so (fun e => hs0 (by rw [e]; rfl))]
    have hadd : vFold l [(nm, so)] = if (vadd l (nm, so)).2 = true then ((vadd l (nm, so)).1, true) else (l, false) := by rw [vFold]; rfl
    have HADD := Lib.hid (fun W hW => add_x l (nm, so) _ S W (HF.out.ext hW) (by omega))
    have c0 := cellRow HB.out 0 (.string nm) rfl
    have c1 := cellRow HB.out 1 (.string so) rfl
    have c2 := cellRow HB.out 2 (.slice a ([] : List Tm).length cap) rfl
    dsimp only at HADD
    obtain ⟨⟨m, b⟩, hm⟩ : ∃ p, vadd l (nm, so) = p := ⟨_, rfl⟩
    rw [hm] at HADD hadd
    dsimp only at HADD hadd
    have HAD := Lib.hid hadd
    clear hadd hm
    go_enter Tryz.func58, Tryz.ntmps58
    go_wp2_with fail
    refine (HADD.out _ HZ.out).mono ?_
    rintro e w4 ⟨r, rfl, hr, hw4⟩
    have HRR := Lib.hid (SlR.weaken hr (fun j h => by
      rcases h with h | h
      · exact Or.inl h
      · exact Or.inr (Nat.le_trans HZ.out.size h)) : FiR (fun j => S j ∨ w.heap.size ≤ j) w4 r m)
    have H4 := Lib.hid (HZ.out.ext hw4)
    clear hr hw4 c0 c1 c2
    go_wp2_with fail
    go_ret2
    rw [HAD.out]
    cases b
    · exact ⟨r, rfl, fun h => by simp at h, H4.out⟩
    · exact ⟨r, rfl, fun _ => HRR.out, H4.out⟩

end Go.Proofs.YtiimccogojkldaaGreatDoor

/- Names of the reference of the path order. -/
namespace Go.Proofs.YtiimccogojkldaaGreatDoor
open Go.RowKit Go.Hw Go
set_option linter.unusedVariables false
set_option linter.unusedSimpArgs false

open Tm
/-- a list of strings that is read -/
abbrev StR (S : Nat → Prop) (w : World) (v : Value) (l : List By) : Prop := SlR S w 1 v l.length (l.map Value.string)
abbrev bg (l : List By) (i : Nat) : By := l.getD i nul
theorem bg_at (l : List By) (i : Nat) (h : i < l.length) : bg l i = l[i] := by unfold bg; rw [List.getD_eq_getElem?_getD, List.getElem?_eq_getElem h]; rfl
theorem StR.ext {S : Nat → Prop} {w w' : World} {v : Value} {l : List By} (h : StR S w v l) (hu : Ext w w') : StR S w' v l := SlR.kept h hu (fun _ _ h => h)
theorem StR.at_ {S : Nat → Prop} {w : World} {a : Option Addr} {n cap : Nat} {l : List By} (h : StR S w (.slice a n cap) l) (hl : 0 < l.length) :
    ∃ g off, a = some ⟨g, off, none⟩ ∧ S g ∧ ∀ i, i < l.length → w.cell? ⟨g, off + i, none⟩ = some (.string (bg l i)) := by
  obtain ⟨g, off, c, e, _, hS, hj⟩ := SlR.pos h hl
  injection e with e1 e2 e3
  refine ⟨g, off, e1, hS, fun i hi => ?_⟩
  rw [hj i (by omega), bg_at l i hi, List.getElem?_map, List.getElem?_eq_getElem hi]
  rfl
theorem StR.to {S : Nat → Prop} {w : World} {a : Option Addr} {n cap : Nat} {l : List By} (h : StR S w (.slice a n cap) l) {k : Nat} (hk : k ≤ l.length) : StR S w (.slice a k cap) (l.take k) := by
  have h1 := SlR.to h rfl k hk
  unfold StR
  rw [Nat.mul_one, ← List.map_take] at h1
  rw [List.length_take, Nat.min_eq_left hk]
  exact h1
theorem str_ne {a b : By} (h : a ≠ b) : (a.toList == b.toList) = false := beq_eq_false_iff_ne.2 (fun e => h (ba_list (by rw [Lib.toList_data, Lib.toList_data] at e; exact e)))
theorem str_dec (a b : By) : (a.toList == b.toList) = decide (a = b) := by
  by_cases h : a = b
  · rw [decide_eq_true h, h]; simp
  · rw [decide_eq_false h, str_ne h]
def ixI (l : List By) (s : By) : Int := if s ∈ l then (ixF l s : Int) else -1
set_option maxRecDepth 100000 in
set_option maxHeartbeats 2000000 in
theorem index_x (l : List By) (s : By) (v : Value) (S : Nat → Prop) (w : World) (hR : StR S w v l) (hlc : l.length ≤ 1000000) : Calls Tryz.prog 56 #[v, .string s] w fun e w' => e = .returned (.int .i64 (ixI l s)) ∧ w' = w := by
  have HR := Lib.hid hR
  obtain ⟨a, cap, rfl⟩ := SlR.shape hR
  clear hR
  go_enter Tryz.func56, Tryz.ntmps56
  go_wp2_with fail
  go_loopg [5] l.length (fun gk iv wr => ∃ k : Nat, iv = .int .i64 (k : Int) ∧ gk = l.length - k ∧ k ≤ l.length ∧ Hid (∀ j, j < k → bg l j ≠ s) ∧ wr = w)
  case atStart => exact ⟨0, rfl, rfl, Nat.zero_le _, Lib.hid (fun j h => absurd h (Nat.not_lt_zero _)), rfl⟩
  case round =>
    obtain ⟨k, rfl, rfl, hk, HC, rfl⟩ := hrel
    by_cases hlt : k < l.length
    · obtain ⟨g, off, rfl, _, hat⟩ := StR.at_ HR.out (by omega)
      have q0 := hat k hlt
      have z0 : (0 : Int) ≤ (k : Int) := by omega
      have z1 : (k : Int) < (l.length : Int) := by omega
      have z2 : decide ((k : Int) < (l.length : Int)) = true := decide_eq_true z1
      have z2' : decide (k < l.length) = true := decide_eq_true hlt
      clear hat
      obtain ⟨x, hx⟩ : ∃ x, bg l k = x := ⟨_, rfl⟩
      have HX := Lib.hid hx
      rw [hx] at q0
      clear hx
      by_cases he : x = s
      · subst he
        have HV : Hid (ixI l x = (k : Int)) := Lib.hid (by
          have h1 := ixF_of hlt (fun j hj => HC.out j hj) HX.out
          unfold ixI
          rw [if_pos (mem_ix.2 (by rw [h1]; exact hlt)), h1])
        go_wp2_with fail
        go_ret
        rw [HV.out]
        exact ⟨rfl, rfl⟩
      · have t1 := str_ne he
        have HN : Hid (∀ j, j < k + 1 → bg l j ≠ s) := Lib.hid (fun j hj => by
          rcases Nat.lt_succ_iff_lt_or_eq.1 hj with h5 | h5
          · exact HC.out j h5
          · rw [h5, HX.out]; exact he)
        clear he
        go_wp2_with fail
        go_roundg (l.length - (k + 1))
        case measure => omega
        case rel => exact ⟨k + 1, by go_num, rfl, by omega, HN, rfl⟩
    · obtain rfl : k = l.length := by omega
      have HV : Hid (ixI l s = -1) := Lib.hid (by
        unfold ixI
        rw [if_neg (fun h => by
          have h1 := ixF_lt h
          rw [ixF_none (fun j hj => HC.out j hj)] at h1
          exact Nat.lt_irrefl _ h1)])
      have z2 : decide ((l.length : Int) < (l.length : Int)) = false := decide_eq_false (by omega)
      go_wp2_with fail
      go_ret
      rw [HV.out]
      exact ⟨rfl, rfl⟩
theorem index_e (l : List By) (s : By) (v : Value) (S : Nat → Prop) (w : World) (hR : StR S w v l) (hlc : l.length ≤ 1000000) : Calls Tryz.prog 56 #[v, .string s] w fun e w' => e = .returned (.int .i64 (ixI l s)) ∧ Ext w w' := (index_x l s v S w hR hlc).mono fun e w' h => ⟨h.1, h.2 ▸ Upd.refl _ _⟩
theorem ixI_nn (l : List By) (s : By) : (decide ((0 : Int) ≤ ixI l s)) = decide (s ∈ l) := by
  unfold ixI
  by_cases h : s ∈ l
  · rw [if_pos h, decide_eq_true h, decide_eq_true (by omega)]
  · rw [if_neg h, decide_eq_false h]; rfl
theorem ixI_neg (l : List By) (s : By) : (decide (ixI l s < (0 : Int))) = !decide (s ∈ l) := by
  unfold ixI
  by_cases h : s ∈ l
  · rw [if_pos h, decide_eq_true h, decide_eq_false (by omega)]; rfl
  · rw [if_neg h, decide_eq_false h]; rfl
set_option maxRecDepth 100000 in
set_option maxHeartbeats 2000000 in
theorem rprec_x (l : List By) (v : Value) (S : Nat → Prop) (w : World) (hR : StR S w v l) : Calls Tryz.prog 25 #[v] w fun e w' => e = .returned (.bool (precP nmB l)) ∧ Ext w w' := by
  have HR := Lib.hid hR
  obtain ⟨a, cap, rfl⟩ := SlR.shape hR
  clear hR
  by_cases hlen : 100 < l.length
  · have HV : Hid (precP nmB l = false) := Lib.hid (by unfold precP; rw [decide_eq_false (by omega)]; rfl)
    have z1 : (100 : Int) < (l.length : Int) := by omega
    go_enter Tryz.func25, Tryz.ntmps25
    go_wp2_with fail
    go_ret
    rw [HV.out]
    exact ⟨rfl, Upd.refl _ _⟩
  · have z1 : ¬ (100 : Int) < (l.length : Int) := by omega
    go_enter Tryz.func25, Tryz.ntmps25
    go_wp2_with fail
    clear z1
    go_loopg [3] l.length (fun gk iv wr => ∃ k : Nat, iv = .int .i64 (k : Int) ∧ gk = l.length - k ∧ k ≤ l.length ∧ Hid (∀ j, j < k → nmB (bg l j) = true ∧ bg l j ∉ l.take j) ∧ Hid (Ext w wr))
    case atStart => exact ⟨0, rfl, rfl, Nat.zero_le _, Lib.hid (fun j h => absurd h (Nat.not_lt_zero _)), Lib.hid (Upd.refl _ _)⟩
    case round =>
      obtain ⟨k, rfl, rfl, hk, HC, HE⟩ := hrel
      by_cases hlt : k < l.length
      · have HRk := Lib.hid ((StR.ext HR.out HE.out).to (k := k) (by omega))
        have hcap : k ≤ cap := Nat.le_trans hk (SlR.le_cap HR.out rfl)
        obtain ⟨g, off, rfl, _, hat⟩ := StR.at_ (StR.ext HR.out HE.out) (by omega)
        have q0 := hat k hlt
        have z0 : (0 : Int) ≤ (k : Int) := by omega
        have z1 : (k : Int) < (l.length : Int) := by omega
        have z2 : decide ((k : Int) < (l.length : Int)) = true := decide_eq_true z1
        have z2' : decide (k < l.length) = true := decide_eq_true hlt
        have z3 : (k : Int) ≤ (l.length : Int) := by omega
        clear hat
        obtain ⟨x, hx⟩ : ∃ x, bg l k = x := ⟨_, rfl⟩
        have HX := Lib.hid hx
        rw [hx] at q0
        clear hx
        have hl100 : l.length ≤ 100 := by omega
        have HIN := Lib.hid (fun W (hW : Ext wr W) => rIsName_x x W)
        have HIXx := Lib.hid (fun W (hW : Ext wr W) => index_e (l.take k) x _ S W (StR.ext HRk.out hW) (by rw [List.length_take]; omega))
        have HNN := Lib.hid (ixI_nn (l.take k) x)
        have q0' := fun X : XW wr => X.ext.cell q0 (fun h => h)
        have hrfs := Upd.refl (fun _ => False) wr
        clear q0
        have HST : Hid (nmB x = false ∨ x ∈ l.take k → precP nmB l = false) := Lib.hid (fun h => precP_stop hlt (by rw [show l.getD k nul = x from HX.out]; exact h))
        have HON : Hid (nmB x = true → x ∉ l.take k → ∀ j, j < k + 1 → nmB (bg l j) = true ∧ bg l j ∉ l.take j) := Lib.hid (fun h1 h2 j hj => by
          rcases Nat.lt_succ_iff_lt_or_eq.1 hj with h5 | h5
          · exact HC.out j h5
          · rw [h5, HX.out]; exact ⟨h1, h2⟩)
        obtain ⟨b1, hb1⟩ : ∃ b, nmB x = b := ⟨_, rfl⟩
        rw [hb1] at HIN HST HON
        obtain ⟨b2, hb2⟩ : ∃ b, decide (x ∈ l.take k) = b := ⟨_, rfl⟩
        rw [hb2] at HNN
        have HB2 := Lib.hid hb2
        clear hb1 hb2 hl100
        cases b1
        · go_wp2_with fail
          refine wp_region_ext wr (by assumption) (by kernel_rfl) (by kernel_rfl) ?_
          repeat (first | go_big_quiet_skip | (go_big_quiet_want; go_big_quiet_op; first | go_big_quiet_on | (apply Exists.intro; refine ⟨fun x => ?_, ?_⟩; (first | (go_at_call 55; exact XW.call (HIN.out x.val x.ext)) | (go_at_call 56; exact XW.call (HIXx.out x.val x.ext))); go_big_quiet_on)))
          refine wpQuiet_nil ?_
          rintro w8 ⟨⟨_, hyw8⟩, rfl⟩
          try dsimp only
          have HV := Lib.hid (HST.out (.inl (by simp)))
          have HE8 := Lib.hid (HE.out.trans hyw8)
          go_wp2_with fail
          go_ret
          rw [HV.out]
          exact ⟨rfl, HE8.out⟩
        · cases b2
          · go_wp2_with fail
            refine wp_region_ext wr (by assumption) (by kernel_rfl) (by kernel_rfl) ?_
            repeat (first | go_big_quiet_skip | (go_big_quiet_want; go_big_quiet_op; first | go_big_quiet_on | (apply Exists.intro; refine ⟨fun x => ?_, ?_⟩; (first | (go_at_call 55; exact XW.call (HIN.out x.val x.ext)) | (go_at_call 56; exact XW.call (HIXx.out x.val x.ext))); go_big_quiet_on)))
            refine wpQuiet_nil ?_
            rintro w8 ⟨⟨_, hyw8⟩, rfl⟩
            try dsimp only
            have HN := Lib.hid (HON.out (by simp) (of_decide_eq_false HB2.out))
            have HE8 := Lib.hid (HE.out.trans hyw8)
            have h9 := of_decide_eq_false HNN.out
            have h9' := HNN.out
            go_wp2_with fail
            go_roundg (l.length - (k + 1))
            case measure => omega
            case rel => exact ⟨k + 1, by go_num, rfl, by omega, HN, HE8⟩
          · go_wp2_with fail
            refine wp_region_ext wr (by assumption) (by kernel_rfl) (by kernel_rfl) ?_
            repeat (first | go_big_quiet_skip | (go_big_quiet_want; go_big_quiet_op; first | go_big_quiet_on | (apply Exists.intro; refine ⟨fun x => ?_, ?_⟩; (first | (go_at_call 55; exact XW.call (HIN.out x.val x.ext)) | (go_at_call 56; exact XW.call (HIXx.out x.val x.ext))); go_big_quiet_on)))
            refine wpQuiet_nil ?_
            rintro w8 ⟨⟨_, hyw8⟩, rfl⟩
            try dsimp only
            have HV := Lib.hid (HST.out (.inr (of_decide_eq_true HB2.out)))
            have HE8 := Lib.hid (HE.out.trans hyw8)
            have h9 := of_decide_eq_true HNN.out
            have h9' := HNN.out
            go_wp2_with fail
            go_ret
            rw [HV.out]
            exact ⟨rfl, HE8.out⟩
      · obtain rfl : k = l.length := by omega
        have z2 : decide ((l.length : Int) < (l.length : Int)) = false := decide_eq_false (by omega)
        have HV : Hid (precP nmB l = true) := Lib.hid (by
          unfold precP
          rw [decide_eq_true (by omega), Bool.true_and, List.all_eq_true]
          intro i hi
          have h1 := HC.out i (List.mem_range.1 hi)
          rw [show l.getD i nul = bg l i from rfl, h1.1, decide_eq_false h1.2]
          rfl)
        go_wp2_with fail
        go_ret
        rw [HV.out]
        exact ⟨rfl, HE.out⟩

end Go.Proofs.YtiimccogojkldaaGreatDoor
