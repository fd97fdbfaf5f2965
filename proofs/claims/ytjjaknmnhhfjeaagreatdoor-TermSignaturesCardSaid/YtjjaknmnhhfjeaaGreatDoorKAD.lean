/- The texts L4 TA, one behind the other. -/
import Derived.Test.YtjjaknmnhhfjeaaGreatDoorKAC
import Derived.Test.YtjjaknmnhhfjeaaGreatDoorKAB
/- A drawn region walked once, in the order of the text: calls and allocations among its operations are said by what they leave, in whatever later world. -/
namespace Go.Hw
open Go.RowKit
set_option linter.unusedVariables false
set_option linter.unusedSimpArgs false

section
variable {P : Program} {ops : Array Oper} {Q : Exit → Act → World → Prop} {α : Type} {w0 : World} {Qt : Act → World → Prop} {dp : Nat → List Nat} {n : Nat} {md : Region.Mode} {fl : List Nat} {snk : Nat}

structure Ann (α : Type) where
  val : α → Value
  R : α → World → Prop
  st : ∀ x W W', R x W → Ext W W' → R x W'

variable {ann : Nat → Option (Ann α)}
def Can (P : Program) (ops : Array Oper) (Qt : Act → World → Prop) (w0 : World) (dp : Nat → List Nat) (ann : Nat → Option (Ann α)) : List Oper → Nat → List (Nat × (World → Prop)) → Act → Prop
  | [], _, G, a => ∀ W, Ext w0 W → (∀ g ∈ G, g.2 W) → Qt a W
  | o :: r, i, G, a => match ann i with
    | none => if Region.wanted o (yielded ops a.tmps) then ∃ v, (∀ W, Ext w0 W → (∀ g ∈ G, g.1 ∈ dp i → g.2 W) → (execOp a.eval o).run P W = .ok (.value v) W) ∧ Can P ops Qt w0 dp ann r (i + 1) G (a.put o.dst v)
        else Can P ops Qt w0 dp ann r (i + 1) G (a.put o.dst undef)
    | some A => Region.wanted o (yielded ops a.tmps) = true ∧
        (∀ W, Ext w0 W → (∀ g ∈ G, g.1 ∈ dp i → g.2 W) → ∀ K : Act → World → Prop, (∀ x W', Ext W W' → A.R x W' → K (a.put o.dst (A.val x)) W') → o.wp P a W K (fun _ _ _ => False)) ∧
        ∀ x, Can P ops Qt w0 dp ann r (i + 1) (G ++ [(i, A.R x)]) (a.put o.dst (A.val x))

def FactAt (P : Program) (ops : Array Oper) (w0 : World) (dp : Nat → List Nat) (ann : Nat → Option (Ann α)) (X : Nat → α) (V : Nat → Value) (i : Nat) (o : Oper) (a : Act) : Prop :=
  match ann i with
  | none => (Region.wanted o (yielded ops a.tmps) = true → ∀ W, Ext w0 W → (∀ j A, j < i → j ∈ dp i → ann j = some A → A.R (X j) W) → (execOp a.eval o).run P W = .ok (.value (V i)) W) ∧
      (Region.wanted o (yielded ops a.tmps) = false → V i = undef)
  | some A => Region.wanted o (yielded ops a.tmps) = true ∧ V i = A.val (X i) ∧
      ∀ W, Ext w0 W → (∀ j A, j < i → j ∈ dp i → ann j = some A → A.R (X j) W) → ∀ K : Act → World → Prop, (∀ x W', Ext W W' → A.R x W' → K (a.put o.dst (A.val x)) W') → o.wp P a W K (fun _ _ _ => False)

def Good (P : Program) (ops : Array Oper) (Qt : Act → World → Prop) (w0 : World) (dp : Nat → List Nat) (ann : Nat → Option (Ann α)) (X : Nat → α) (V : Nat → Value) : List Oper → Nat → Act → Prop
  | [], k, a => ∀ W, Ext w0 W → (∀ j A, j < k → ann j = some A → A.R (X j) W) → Qt a W
  | o :: r, k, a => FactAt P ops w0 dp ann X V k o a ∧ Good P ops Qt w0 dp ann X V r (k + 1) (a.put o.dst (V k))

theorem FactAt.congr {X : Nat → α} {V V' : Nat → Value} {i : Nat} {o : Oper} {a : Act} (h : V i = V' i) (hf : FactAt P ops w0 dp ann X V i o a) : FactAt P ops w0 dp ann X V' i o a := by
  unfold FactAt at *
  rw [← h]; exact hf
theorem Good.congr {X : Nat → α} {V V' : Nat → Value} : ∀ (r : List Oper) (k : Nat) (a : Act), (∀ j, k ≤ j → V j = V' j) → Good P ops Qt w0 dp ann X V r k a → Good P ops Qt w0 dp ann X V' r k a
  | [], _, _, _, h => h
  | o :: r, k, a, he, h => ⟨h.1.congr (he k (Nat.le_refl _)), by rw [← he k (Nat.le_refl _)]; exact Good.congr r (k + 1) _ (fun j hj => he j (by omega)) h.2⟩

theorem good_of_can (X : Nat → α) : ∀ (r : List Oper) (k : Nat) (G : List (Nat × (World → Prop))) (a : Act), Can P ops Qt w0 dp ann r k G a →
    (∀ g ∈ G, ∃ A, ann g.1 = some A ∧ g.1 < k ∧ g.2 = A.R (X g.1)) → ∃ V, Good P ops Qt w0 dp ann X V r k a
  | [], k, G, a, h, hG => ⟨fun _ => undef, fun W hW hR => h W hW fun g hg => by obtain ⟨A, h1, h2, h3⟩ := hG g hg; rw [h3]; exact hR _ _ h2 h1⟩
  | o :: r, k, G, a, h, hG => by
    have hH : ∀ W, (∀ j A, j < k → j ∈ dp k → ann j = some A → A.R (X j) W) → ∀ g ∈ G, g.1 ∈ dp k → g.2 W := fun W hR g hg hd => by
      obtain ⟨A, h1, h2, h3⟩ := hG g hg
      rw [h3]; exact hR _ _ h2 hd h1
    unfold Can at h
    have hG' : ∀ g ∈ G, ∃ A, ann g.1 = some A ∧ g.1 < k + 1 ∧ g.2 = A.R (X g.1) := fun g hg => by
      obtain ⟨A, h1, h2, h3⟩ := hG g hg
      exact ⟨A, h1, by omega, h3⟩
    cases ha : ann k with
    | none =>
      rw [ha] at h
      simp only at h
      by_cases hw : Region.wanted o (yielded ops a.tmps) = true
      · rw [if_pos hw] at h
        obtain ⟨v, hv, h⟩ := h
        obtain ⟨V, hV⟩ := good_of_can X r (k + 1) G _ h hG'
        refine ⟨fun j => if j = k then v else V j, ?_, ?_⟩
        · unfold FactAt
          rw [ha]
          simp only [if_true]
          exact ⟨fun _ W hW hR => hv W hW (hH W hR), fun h => by rw [hw] at h; cases h⟩
        · rw [show (fun j => if j = k then v else V j) k = v from if_pos rfl]
          exact hV.congr _ _ _ (fun j hj => by rw [if_neg (by omega)])
      · rw [if_neg hw] at h
        obtain ⟨V, hV⟩ := good_of_can X r (k + 1) G _ h hG'
        refine ⟨fun j => if j = k then undef else V j, ?_, ?_⟩
        · unfold FactAt
          rw [ha]
          simp only [if_true]
          exact ⟨fun h => absurd h hw, fun _ => trivial⟩
        · rw [show (fun j => if j = k then undef else V j) k = undef from if_pos rfl]
          exact hV.congr _ _ _ (fun j hj => by rw [if_neg (by omega)])
    | some A =>
      rw [ha] at h
      simp only at h
      obtain ⟨hw, hm, h⟩ := h
      obtain ⟨V, hV⟩ := good_of_can X r (k + 1) _ _ (h (X k)) (fun g hg => by
        rcases List.mem_append.1 hg with h1 | h1
        · exact hG' g h1
        · simp only [List.mem_singleton] at h1
          subst h1
          exact ⟨A, ha, Nat.lt_succ_self _, rfl⟩)
      refine ⟨fun j => if j = k then A.val (X k) else V j, ?_, ?_⟩
      · unfold FactAt
        rw [ha]
        simp only [if_true]
        exact ⟨hw, trivial, fun W hW hR K hK => hm W hW (hH W hR) K hK⟩
      · rw [show (fun j => if j = k then A.val (X k) else V j) k = A.val (X k) from if_pos rfl]
        exact hV.congr _ _ _ (fun j hj => by rw [if_neg (by omega)])

def frL (V : Nat → Value) : List Oper → Nat → Act → Act
  | [], _, a => a
  | o :: r, k, a => frL V r (k + 1) (a.put o.dst (V k))
theorem Good.at {X : Nat → α} {V : Nat → Value} : ∀ (r : List Oper) (k : Nat) (a : Act), Good P ops Qt w0 dp ann X V r k a → ∀ i o, r[i]? = some o → FactAt P ops w0 dp ann X V (k + i) o (frL V (r.take i) k a)
  | [], _, _, _, i, o, h => by simp at h
  | p :: r, k, a, h, 0, o, ho => by simp at ho; subst ho; exact h.1
  | p :: r, k, a, h, i + 1, o, ho => by
    rw [List.getElem?_cons_succ] at ho
    have := Good.at r (k + 1) _ h.2 i o ho
    rw [show k + (i + 1) = k + 1 + i by omega]
    exact this
theorem Good.fin {X : Nat → α} {V : Nat → Value} : ∀ (r : List Oper) (k : Nat) (a : Act), Good P ops Qt w0 dp ann X V r k a → ∀ W, Ext w0 W → (∀ j A, j < k + r.length → ann j = some A → A.R (X j) W) → Qt (frL V r k a) W
  | [], _, _, h, W, hW, hR => h W hW hR
  | p :: r, k, a, h, W, hW, hR => Good.fin r (k + 1) _ h.2 W hW (fun j A hj => hR j A (by simp only [List.length_cons]; omega))
theorem put_size (a : Act) (d : Option Tmp) (v : Value) : (a.put d v).tmps.size = a.tmps.size := by cases d <;> simp [Act.put]
theorem put_defers' (a : Act) (d : Option Tmp) (v : Value) : (a.put d v).defers = a.defers := by cases d <;> rfl
theorem put_ne (a : Act) (d : Option Tmp) (v : Value) (t : Nat) (h : d ≠ some t) : (a.put d v).tmps[t]? = a.tmps[t]? := by
  cases d with
  | none => rfl
  | some d => exact Array.getElem?_setIfInBounds_ne (fun e => h (by rw [e]))
theorem put_eq (a : Act) (v : Value) (t : Nat) (h : t < a.tmps.size) : (a.put (some t) v).tmps[t]? = some v := by
  simp [Act.put, h]
theorem frL_size (V : Nat → Value) : ∀ (r : List Oper) (k : Nat) (a : Act), (frL V r k a).tmps.size = a.tmps.size ∧ (frL V r k a).defers = a.defers
  | [], _, _ => ⟨rfl, rfl⟩
  | o :: r, k, a => by have := frL_size V r (k + 1) (a.put o.dst (V k)); exact ⟨this.1.trans (put_size _ _ _), this.2.trans (put_defers' _ _ _)⟩
theorem frL_out (V : Nat → Value) (t : Nat) : ∀ (r : List Oper) (k : Nat) (a : Act), (∀ (j : Nat) o, r[j]? = some o → o.dst ≠ some t) → (frL V r k a).tmps[t]? = a.tmps[t]?
  | [], _, _, _ => rfl
  | o :: r, k, a, h => by
    have h1 := frL_out V t r (k + 1) (a.put o.dst (V k)) (fun j p hp => h (j + 1) p (by simpa using hp))
    have h2 := h 0 o (by simp)
    exact h1.trans (put_ne _ _ _ _ h2)
theorem frL_in (V : Nat → Value) (t : Nat) : ∀ (r : List Oper) (k : Nat) (a : Act) (j : Nat) (o : Oper), r[j]? = some o → o.dst = some t → t < a.tmps.size →
    (∀ (i : Nat) p, r[i]? = some p → p.dst = some t → i = j) → (frL V r k a).tmps[t]? = some (V (k + j))
  | [], _, _, j, o, h, _, _, _ => by simp at h
  | p :: r, k, a, 0, o, h, hd, ht, hu => by
    simp at h
    subst h
    have h1 := frL_out V t r (k + 1) (a.put p.dst (V k)) (fun i q hq he => by have := hu (i + 1) q (by simpa using hq) he; omega)
    refine h1.trans ?_
    rw [hd]; exact put_eq _ _ _ ht
  | p :: r, k, a, j + 1, o, h, hd, ht, hu => by
    rw [List.getElem?_cons_succ] at h
    have h1 := frL_in V t r (k + 1) (a.put p.dst (V k)) j o h hd (by rw [put_size]; exact ht) (fun i q hq he => by have := hu (i + 1) q (by simpa using hq) he; omega)
    rw [show k + (j + 1) = k + 1 + j by omega]
    exact h1
theorem same_at {o : Oper} (hs : ∀ cs b, o.op ≠ .select cs b) {a b : Act} (h : ∀ t ∈ o.looksAt ops, a.tmps[t]? = b.tmps[t]?) :
    execOp a.eval o = execOp b.eval o ∧ Region.wanted o (yielded ops a.tmps) = Region.wanted o (yielded ops b.tmps) := by
  constructor
  · refine execOp_congr o hs fun x hx => ?_
    cases x with
    | tmp t =>
      have := h t (List.mem_append_left _ (List.mem_filterMap.2 ⟨.tmp t, by simpa using hx, rfl⟩))
      simp only [Act.eval, Array.getD_eq_getD_getElem?, this]
    | _ => rfl
  · unfold Region.wanted
    cases hg : o.guard with
    | none => rfl
    | some gw =>
      obtain ⟨g, want⟩ := gw
      simp only
      have : yielded ops a.tmps g = yielded ops b.tmps g := by
        unfold yielded
        cases ht : (ops[g]?).bind (·.dst) with
        | none => rfl
        | some t =>
          have := h t (List.mem_append_right _ (by simp [hg, ht]))
          simp [this]
      rw [this]

def floatB : Op → Bool
  | .extract _ _ => true
  | .move _ => true
  | .assign _ => true
  | _ => false
theorem float_run {o : Oper} (h : floatB o.op = true) {ρ : Operand → Value} {v : Value} {W : World} (hr : (execOp ρ o).run P W = .ok (.value v) W) : ∀ W', (execOp ρ o).run P W' = .ok (.value v) W' := by
  intro W'
  unfold execOp at *
  cases ho : o.op <;> rw [ho] at h <;> simp only [floatB, Bool.false_eq_true] at h
  case extract x ix =>
    rw [ho] at hr
    simp only at hr ⊢
    unfold Instr.extract at *
    cases hx : ρ x <;> rw [hx] at hr
    case tuple vs =>
      simp only [Sem.run_bind] at hr ⊢
      cases hv : vs[ix]? with
      | none => rw [hv] at hr; exact nomatch hr
      | some u =>
        rw [hv] at hr
        simp only [Sem.run_pure, Result.andThen_ok] at hr ⊢
        injection hr with h1 h2
        rw [h1]
    all_goals exact nomatch hr
  case move x =>
    rw [ho] at hr
    simp only [Sem.run_pure] at hr ⊢
    injection hr with h1 h2
    rw [h1]
  case assign x =>
    rw [ho] at hr
    simp only [Sem.run_pure] at hr ⊢
    injection hr with h1 h2
    rw [h1]
def subs : List Nat → List (List Nat)
  | [] => [[]]
  | x :: r => subs r ++ (subs r).map (x :: ·)
theorem filter_subs (p : Nat → Bool) : ∀ l : List Nat, l.filter p ∈ subs l
  | [] => by simp [subs]
  | x :: r => by
    have := filter_subs p r
    unfold subs
    rw [List.filter_cons]
    split
    · exact List.mem_append_right _ (List.mem_map.2 ⟨_, this, rfl⟩)
    · exact List.mem_append_left _ this

def parFB (ops : Array Oper) (n sz : Nat) (dp : Nat → List Nat) (ann : Nat → Bool) (fl : List Nat) (snk : Nat) (tail : List (Nat × Nat)) : Bool :=
  Region.noSelect ops && decide (n ≤ ops.size) &&
  (List.range n).all (fun i => match ops[i]? with
    | none => false
    | some o =>
      (match o.dst with
       | none => !ann i
       | some d => decide (d < sz) && (List.range n).all fun j => j == i || ((ops[j]?).bind (·.dst)) != some d) &&
      (o.looksAt ops).all (fun t => (List.range n).all fun j => ((ops[j]?).bind (·.dst)) != some t || o.after.any fun e => Region.binds .any e && e.on == j) &&
      o.after.all (fun e => !Region.binds .any e || decide (e.on < i))) &&
  (List.range ops.size).all (fun i => match ops[i]? with
    | none => false
    | some o => (dp i).all (fun j => o.after.any fun e => Region.binds .any e && (e.on == j || (decide (e.on < i) && (dp e.on).contains j)))) &&
  (List.range ops.size).all (fun m => decide (m < n) || (List.range n).all fun j => fl.contains j || (dp m).contains j) &&
  decide (tail.length + n = ops.size) && (subs ((List.range n).filter fun j => fl.contains j)).all (fun U => mixB .any ops snk (U.map (fun k => (k, 0)) ++ tail) (Array.ofFn (n := ops.size) fun j => decide (j.val < n) && !U.contains j.val)) && decide (0 < n) &&
  Region.sinkB .any ops snk && (List.range n).all (fun j => !fl.contains j || (!ann j && match ops[j]? with | some o => floatB o.op | none => false))
def parB (ops : Array Oper) (n sz : Nat) (dp : Nat → List Nat) (ann : Nat → Bool) (tail : List (Nat × Nat)) : Bool := parFB ops n sz dp ann [] 0 tail

structure ParS (ops : Array Oper) (n sz : Nat) (dp : Nat → List Nat) (ann : Nat → Bool) (tail : List (Nat × Nat)) (fl : List Nat) (snk : Nat) : Prop where
  nosel : Region.noSelect ops = true
  le : n ≤ ops.size
  pos : 0 < n
  dst : ∀ i o d, i < n → ops[i]? = some o → o.dst = some d → d < sz
  some_ : ∀ i o, i < n → ops[i]? = some o → ann i = true → ∃ d, o.dst = some d
  uniq : ∀ i j o p d, i < n → j < n → ops[i]? = some o → ops[j]? = some p → o.dst = some d → p.dst = some d → j = i
  reads : ∀ i j o p t, i < n → j < n → ops[i]? = some o → ops[j]? = some p → t ∈ o.looksAt ops → p.dst = some t → ∃ e ∈ o.after, Region.binds .any e = true ∧ e.on = j
  lt : ∀ i o, i < n → ops[i]? = some o → ∀ e ∈ o.after, Region.binds .any e = true → e.on < i
  dpx : ∀ i o j, ops[i]? = some o → j ∈ dp i → ∃ e ∈ o.after, Region.binds .any e = true ∧ (e.on = j ∨ (e.on < i ∧ j ∈ dp e.on))
  rest : ∀ m j, n ≤ m → m < ops.size → j < n → fl.contains j = false → j ∈ dp m
  len : tail.length + n = ops.size
  mix : ∀ U ∈ subs ((List.range n).filter fun j => fl.contains j), mixB .any ops snk (U.map (fun k => (k, 0)) ++ tail) (Array.ofFn (n := ops.size) fun j => decide (j.val < n) && !U.contains j.val) = true
  sink : Region.sinkB .any ops snk = true
  flo : ∀ j o, j < n → fl.contains j = true → ops[j]? = some o → floatB o.op = true ∧ ann j = false
theorem parS_of {sz : Nat} {an : Nat → Bool} {tail : List (Nat × Nat)} (h : parFB ops n sz dp an fl snk tail = true) : ParS ops n sz dp an tail fl snk := by
  unfold parFB at h
  simp only [Bool.and_eq_true, decide_eq_true_eq, List.all_eq_true, List.mem_range] at h
  obtain ⟨⟨⟨⟨⟨⟨⟨⟨⟨h1, h2⟩, h3⟩, h4⟩, h5⟩, h6⟩, h7⟩, h8⟩, h9⟩, h10⟩ := h
  refine ⟨h1, h2, h8, ?_, ?_, ?_, ?_, ?_, ?_, ?_, h6, h7, h9, ?_⟩
  · intro i o d hi ho hd
    have := h3 i hi
    rw [ho] at this
    simp only [hd, Bool.and_eq_true, decide_eq_true_eq] at this
    exact this.1.1.1
  · intro i o hi ho ha
    have := h3 i hi
    rw [ho] at this
    simp only at this
    cases hd : o.dst with
    | none => rw [hd] at this; simp [ha] at this
    | some d => exact ⟨d, rfl⟩
  · intro i j o p d hi hj ho hp hd hpd
    have := h3 i hi
    rw [ho] at this
    simp only [hd, Bool.and_eq_true, decide_eq_true_eq, List.all_eq_true, List.mem_range] at this
    have := this.1.1.2 j hj
    simp only [hp, Option.bind_some, hpd, Bool.or_eq_true, beq_iff_eq, bne_self_eq_false, Bool.false_eq_true, or_false] at this
    exact this
  · intro i j o p t hi hj ho hp ht hpd
    have := h3 i hi
    rw [ho] at this
    simp only [Bool.and_eq_true, List.all_eq_true, List.mem_range] at this
    have := this.1.2 t ht j hj
    simp only [hp, Option.bind_some, hpd, bne_self_eq_false, Bool.false_or, Array.any_eq_true', Bool.and_eq_true, beq_iff_eq] at this
    obtain ⟨e, he, hb, hj⟩ := this
    exact ⟨e, he, hb, hj⟩
  · intro i o hi ho e he hb
    have := h3 i hi
    rw [ho] at this
    simp only [Bool.and_eq_true] at this
    have := (Array.all_eq_true_iff_forall_mem.1 this.2) e he
    simpa [hb] using this
  · intro i o j ho hj
    have hi : i < ops.size := (Array.getElem?_eq_some_iff.1 ho).1
    have := h4 i hi
    rw [ho] at this
    simp only [List.all_eq_true] at this
    have := this j hj
    simp only [Array.any_eq_true', Bool.and_eq_true, Bool.or_eq_true, beq_iff_eq, decide_eq_true_eq, List.contains_iff_mem] at this
    obtain ⟨e, he, hb, hx⟩ := this
    exact ⟨e, he, hb, hx⟩
  · intro m j hm hm2 hj hfl
    have := h5 m hm2
    simp only [Bool.or_eq_true, decide_eq_true_eq, List.all_eq_true, List.mem_range] at this
    rcases this with h | h
    · omega
    · have := h j hj
      rw [hfl] at this
      simpa using this
  · intro j o hj hfl ho
    have := h10 j hj
    rw [hfl, ho] at this
    simp only [Bool.not_true, Bool.false_or, Bool.and_eq_true, Bool.not_eq_true'] at this
    exact ⟨this.2, this.1⟩
theorem ParS.closed {sz : Nat} {an : Nat → Bool} {tail : List (Nat × Nat)} (h : ParS ops n sz dp an tail fl snk) {l : Array Bool} (hd : Deps .any ops l) :
    ∀ (i : Nat) o, ops[i]? = some o → (∀ e ∈ o.after, Region.binds .any e = true → l.getD e.on false = true) → ∀ j ∈ dp i, l.getD j false = true := by
  intro i
  induction i using Nat.strongRecOn with
  | _ i ih =>
    intro o ho hall j hj
    obtain ⟨e, he, hb, hx⟩ := h.dpx i o j ho hj
    rcases hx with hx | ⟨hlt, hx⟩
    · rw [← hx]; exact hall e he hb
    · have hl := hall e he hb
      have hlt2 : e.on < ops.size := by
        rcases Nat.lt_or_ge e.on ops.size with h' | h'
        · exact h'
        · simp [Array.getElem?_eq_none (show l.size ≤ e.on by rw [hd.size]; exact h')] at hl
      exact ih e.on hlt ops[e.on] (Array.getElem?_eq_getElem hlt2) (fun e' he' hb' => hd.back e.on _ (Array.getElem?_eq_getElem hlt2) hl e' he' hb') j hx

structure FrS (ops : Array Oper) (n : Nat) (a0 : Act) (l : Array Bool) (V : Nat → Value) (b : Act) : Prop where
  size : b.tmps.size = a0.tmps.size
  defers : b.defers = a0.defers
  out : ∀ t, (∀ (j : Nat) o, j < n → ops[j]? = some o → o.dst ≠ some t) → b.tmps[t]? = a0.tmps[t]?
  in_ : ∀ (j : Nat) o t, j < n → ops[j]? = some o → o.dst = some t → l.getD j false = true → b.tmps[t]? = some (V j)

theorem FrS.start {a0 : Act} {V : Nat → Value} : FrS ops n a0 (Array.replicate ops.size false) V a0 :=
  ⟨rfl, rfl, fun _ _ => rfl, fun j o t hj ho hd hl => by
    rcases Nat.lt_or_ge j ops.size with h | h
    · simp [h] at hl
    · simp [h] at hl⟩
theorem FrS.step {sz : Nat} {an : Nat → Bool} {tail : List (Nat × Nat)} (hp : ParS ops n sz dp an tail fl snk) {a0 b : Act} {l : Array Bool} {V V' : Nat → Value} (h : FrS ops n a0 l V b) (hsz : a0.tmps.size = sz) {i : Nat} {o : Oper} (hi : i < n) (ho : ops[i]? = some o)
    (hV : ∀ j, j < n → l.getD j false = true → V' j = V j) : FrS ops n a0 (l.setIfInBounds i true) V' (b.put o.dst (V' i)) := by
  refine ⟨(put_size _ _ _).trans h.size, (put_defers' _ _ _).trans h.defers, fun t ht => ?_, fun j p t hj hpj hd hl => ?_⟩
  · rw [put_ne _ _ _ _ (ht i o hi ho)]; exact h.out t ht
  · by_cases e : j = i
    · subst e
      obtain rfl : o = p := Option.some.inj (ho.symm.trans hpj)
      rw [hd]
      exact put_eq _ _ _ (by rw [h.size, hsz]; exact hp.dst _ _ _ hi ho hd)
    · rw [getD_set_ne false (Ne.symm e)] at hl
      rw [put_ne _ _ _ _ (fun hd2 => e (hp.uniq i j o p t hi hj ho hpj hd2 hd)), hV j hj hl]
      exact h.in_ j p t hj hpj hd hl
theorem FrS.look {sz : Nat} {an : Nat → Bool} {tail : List (Nat × Nat)} (hp : ParS ops n sz dp an tail fl snk) {a0 b : Act} {l : Array Bool} {V : Nat → Value} (h : FrS ops n a0 l V b) (hsz : a0.tmps.size = sz) {i : Nat} {o : Oper} (hi : i < n) (ho : ops[i]? = some o)
    (hall : ∀ e ∈ o.after, Region.binds .any e = true → l.getD e.on false = true) : ∀ t ∈ o.looksAt ops, (frL V (ops.toList.take i) 0 a0).tmps[t]? = b.tmps[t]? := by
  intro t ht
  have hle : i ≤ ops.toList.length := by have := hp.le; simp; omega
  by_cases hx : ∃ j p, j < n ∧ ops[j]? = some p ∧ p.dst = some t
  · obtain ⟨j, p, hj, hpj, hd⟩ := hx
    obtain ⟨e, he, hb, hon⟩ := hp.reads i j o p t hi hj ho hpj ht hd
    have hlt := hp.lt i o hi ho e he hb
    rw [hon] at hlt
    have hl := hall e he hb
    rw [hon] at hl
    rw [h.in_ j p t hj hpj hd hl]
    have := frL_in V t (ops.toList.take i) 0 a0 j p (by rw [List.getElem?_take_of_lt hlt]; simpa using hpj) hd (by rw [hsz]; exact hp.dst _ _ _ hj hpj hd) (fun k q hq hqd => by
      have hk : k < i := by
        have := (List.getElem?_eq_some_iff.1 hq).1
        rw [List.length_take] at this; omega
      rw [List.getElem?_take_of_lt hk] at hq
      exact hp.uniq j k p q t hj (by omega) hpj (by simpa using hq) hd hqd)
    rw [Nat.zero_add] at this
    exact this
  · have hno : ∀ (j : Nat) p, j < n → ops[j]? = some p → p.dst ≠ some t := fun j p hj hpj hd => hx ⟨j, p, hj, hpj, hd⟩
    rw [h.out t hno]
    refine frL_out V t _ 0 a0 fun j p hpj => ?_
    have hk : j < i := by
      have := (List.getElem?_eq_some_iff.1 hpj).1
      rw [List.length_take] at this; omega
    rw [List.getElem?_take_of_lt hk] at hpj
    exact hno j p (by omega) (by simpa using hpj)
theorem FrS.all {sz : Nat} {an : Nat → Bool} {tail : List (Nat × Nat)} (hp : ParS ops n sz dp an tail fl snk) {a0 b : Act} {l : Array Bool} {V : Nat → Value} (h : FrS ops n a0 l V b) (hsz : a0.tmps.size = sz)
    (hall : ∀ j, j < n → l.getD j false = true) : b = frL V (ops.toList.take n) 0 a0 := by
  have hs := frL_size V (ops.toList.take n) 0 a0
  have ht : b.tmps = (frL V (ops.toList.take n) 0 a0).tmps := by
    apply Array.ext_getElem?
    intro t
    by_cases hx : ∃ j p, j < n ∧ ops[j]? = some p ∧ p.dst = some t
    · obtain ⟨j, p, hj, hpj, hd⟩ := hx
      rw [h.in_ j p t hj hpj hd (hall j hj)]
      have := frL_in V t (ops.toList.take n) 0 a0 j p (by rw [List.getElem?_take_of_lt hj]; simpa using hpj) hd (by rw [hsz]; exact hp.dst _ _ _ hj hpj hd) (fun k q hq hqd => by
        have hk : k < n := by
          have := (List.getElem?_eq_some_iff.1 hq).1
          rw [List.length_take] at this; omega
        rw [List.getElem?_take_of_lt hk] at hq
        exact hp.uniq j k p q t hj hk hpj (by simpa using hq) hd hqd)
      rw [Nat.zero_add] at this
      exact this.symm
    · have hno : ∀ (j : Nat) p, j < n → ops[j]? = some p → p.dst ≠ some t := fun j p hj hpj hd => hx ⟨j, p, hj, hpj, hd⟩
      rw [h.out t hno]
      refine (frL_out V t _ 0 a0 fun j p hpj => ?_).symm
      have hk : j < n := by
        have := (List.getElem?_eq_some_iff.1 hpj).1
        rw [List.length_take] at this; omega
      rw [List.getElem?_take_of_lt hk] at hpj
      exact hno j p hk (by simpa using hpj)
  have hd : b.defers = (frL V (ops.toList.take n) 0 a0).defers := h.defers.trans hs.2.symm
  cases b; cases hb : frL V (ops.toList.take n) 0 a0
  rw [hb] at ht hd
  simp only at ht hd
  rw [ht, hd]
theorem Good.same {sz : Nat} {an : Nat → Bool} {tail : List (Nat × Nat)} (hp : ParS ops n sz dp an tail fl snk) {a0 : Act} {l : Array Bool} (hd : Deps .any ops l) (hsz : a0.tmps.size = sz) {X X' : Nat → α} {V V' : Nat → Value}
    (hV : Good P ops Qt w0 dp ann X V (ops.toList.take n) 0 a0) (hV' : Good P ops Qt w0 dp ann X' V' (ops.toList.take n) 0 a0) (hX : ∀ j, j < n → l.getD j false = true → X' j = X j)
    {W : World} (hW : Ext w0 W) (hR : ∀ j A, j < n → l.getD j false = true → ann j = some A → A.R (X j) W) : ∀ j, j < n → l.getD j false = true → V' j = V j := by
  intro j
  induction j using Nat.strongRecOn with
  | _ j ih =>
    intro hj hl
    have hjs : j < ops.size := Nat.lt_of_lt_of_le hj hp.le
    have ho : ops[j]? = some ops[j] := Array.getElem?_eq_getElem hjs
    have hot : (ops.toList.take n)[j]? = some ops[j] := by rw [List.getElem?_take_of_lt hj]; simp
    have hall : ∀ e ∈ ops[j].after, Region.binds .any e = true → l.getD e.on false = true := fun e he hb => hd.back j _ ho hl e he hb
    have f1 := hV.at _ _ _ j _ hot
    have f2 := hV'.at _ _ _ j _ hot
    rw [Nat.zero_add] at f1 f2
    rw [List.take_take, Nat.min_eq_left (Nat.le_of_lt hj)] at f1 f2
    have hclo := hp.closed hd j _ ho hall
    have hsame : ∀ t ∈ ops[j].looksAt ops, (frL V (ops.toList.take j) 0 a0).tmps[t]? = (frL V' (ops.toList.take j) 0 a0).tmps[t]? := by
      intro t ht
      by_cases hx : ∃ k p, k < j ∧ ops[k]? = some p ∧ p.dst = some t
      · obtain ⟨k, p, hk, hpk, hdk⟩ := hx
        have hkn : k < n := by omega
        have hkl : l.getD k false = true := by
          obtain ⟨e, he, hb, hon⟩ := hp.reads j k _ p t hj hkn ho hpk ht hdk
          have := hall e he hb
          rw [hon] at this; exact this
        have hu : ∀ (i : Nat) q, (ops.toList.take j)[i]? = some q → q.dst = some t → i = k := fun i q hq hqd => by
          have hi : i < j := by
            have := (List.getElem?_eq_some_iff.1 hq).1
            rw [List.length_take] at this; omega
          rw [List.getElem?_take_of_lt hi] at hq
          exact hp.uniq k i p q t hkn (by omega) hpk (by simpa using hq) hdk hqd
        have hk2 : (ops.toList.take j)[k]? = some p := by rw [List.getElem?_take_of_lt hk]; simpa using hpk
        rw [frL_in V t _ 0 a0 k p hk2 hdk (by rw [hsz]; exact hp.dst _ _ _ hkn hpk hdk) hu, frL_in V' t _ 0 a0 k p hk2 hdk (by rw [hsz]; exact hp.dst _ _ _ hkn hpk hdk) hu, Nat.zero_add, ih k hk hkn hkl]
      · have hno : ∀ (k : Nat) p, (ops.toList.take j)[k]? = some p → p.dst ≠ some t := fun k p hpk hdk => by
          have hk : k < j := by
            have := (List.getElem?_eq_some_iff.1 hpk).1
            rw [List.length_take] at this; omega
          rw [List.getElem?_take_of_lt hk] at hpk
          exact hx ⟨k, p, hk, by simpa using hpk, hdk⟩
        rw [frL_out V t _ 0 a0 hno, frL_out V' t _ 0 a0 hno]
    obtain ⟨s1, s2⟩ := same_at (ops := ops) (fun cs b => Region.noSelect_spec hp.nosel j _ cs b ho) hsame
    unfold FactAt at f1 f2
    cases ha : ann j with
    | none =>
      rw [ha] at f1 f2
      simp only at f1 f2
      cases hw : Region.wanted ops[j] (yielded ops (frL V (ops.toList.take j) 0 a0).tmps) with
      | true =>
        have r1 := f1.1 hw W hW (fun k A hk hdk hak => hR k A (by omega) (hclo k hdk) hak)
        have r2 := f2.1 (by rw [← s2]; exact hw) W hW (fun k A hk hdk hak => by rw [hX k (by omega) (hclo k hdk)]; exact hR k A (by omega) (hclo k hdk) hak)
        rw [← s1, r1] at r2
        injection r2 with r2
        injection r2 with r2
        exact r2.symm
      | false => rw [f1.2 hw, f2.2 (by rw [← s2]; exact hw)]
    | some A =>
      rw [ha] at f1 f2
      simp only at f1 f2
      rw [f1.2.1, f2.2.1, hX j hj hl]
theorem wp_transfer {o : Oper} {a b : Act} {w : World} (he : execOp a.eval o = execOp b.eval o) {K K' : Act → World → Prop} (hK : ∀ v W, K (a.put o.dst v) W → K' (b.put o.dst v) W)
    (hdf : ∀ c W, K c W → c.defers = a.defers) (h : o.wp P a w K (fun _ _ _ => False)) : o.wp P b w K' Q := by
  unfold Oper.wp at *
  rw [he] at h
  generalize (execOp b.eval o).run P w = r at *
  cases r with
  | ok x w' =>
    cases x <;> simp only [Oper.upon] at h ⊢
    case value u => exact hK _ _ h
    case skip => exact hK _ _ h
    case defer d =>
      have := hdf _ _ h
      rw [put_defers'] at this
      have := congrArg List.length this
      simp at this
    case enter f args =>
      refine Calls.mono h fun e w'' he => ?_
      cases e with
      | returned u => exact hK _ _ he
      | panicked c => exact he.elim
      | outgrown => obtain ⟨_, _, hf⟩ := he; exact hf.elim
    case row row args => exact Rows.mono h fun u w'' he => hK _ _ he
  | halt x w' => cases x <;> simp only [Oper.upon] at h ⊢ <;> exact h.elim
theorem wpAny_more {md : Region.Mode} : ∀ (f : Nat) (l : Array Bool) (a : Act) (w : World), wpAny P md ops Q f l a w → wpAny P md ops Q (f + 1) l a w
  | 0, l, a, w, h => ⟨fun _ => h.2, fun i hi => by rw [h.1] at hi; cases hi⟩
  | f + 1, l, a, w, h => ⟨h.1, fun i hi => wpOp_mono (fun a' w' h' => wpAny_more f _ a' w' h') (h.2 i hi)⟩
theorem wpAny_le {md : Region.Mode} {f g : Nat} (hfg : f ≤ g) {l : Array Bool} {a : Act} {w : World} (h : wpAny P md ops Q f l a w) : wpAny P md ops Q g l a w := by
  induction g with
  | zero => obtain rfl : f = 0 := by omega
            exact h
  | succ g ih =>
    by_cases e : f = g + 1
    · subst e; exact h
    · exact wpAny_more g _ _ _ (ih (by omega))
def remN (n : Nat) (l : Array Bool) : Nat := ((List.range n).filter fun j => !l.getD j false).length
theorem filter_less (p q : Nat → Bool) (i : Nat) (h : ∀ j, q j = true → p j = true) (hi : p i = true) (hq : q i = false) : ∀ (L : List Nat), i ∈ L → (L.filter q).length + 1 ≤ (L.filter p).length
  | [], h => by cases h
  | x :: L, hm => by
    have hle : ∀ (L : List Nat), (L.filter q).length ≤ (L.filter p).length := by
      intro L; induction L with
      | nil => simp
      | cons y L ih =>
        rw [List.filter_cons, List.filter_cons]
        cases hy : q y with
        | true => rw [if_pos rfl, if_pos (h y hy)]; simp; exact ih
        | false =>
          rw [if_neg (by simp)]
          split
          · simp; omega
          · exact ih
    rw [List.filter_cons, List.filter_cons]
    rcases List.mem_cons.1 hm with e | hm
    · subst e
      rw [hq, hi, if_neg (by simp), if_pos rfl]
      have := hle L
      simp; omega
    · have ih := filter_less p q i h hi hq L hm
      cases hx : q x with
      | true => rw [if_pos rfl, if_pos (h x hx)]; simp; exact ih
      | false =>
        rw [if_neg (by simp)]
        split
        · simp; omega
        · exact ih

theorem remN_zero {l : Array Bool} (h : remN n l = 0) (j : Nat) (hj : j < n) : l.getD j false = true := by
  have := List.eq_nil_of_length_eq_zero h
  have h2 := List.filter_eq_nil_iff.1 this j (List.mem_range.2 hj)
  simpa using h2
theorem remN_step {l : Array Bool} {i : Nat} (hi : i < n) (hl : l.getD i true = false) : remN n (l.setIfInBounds i true) + 1 ≤ remN n l := by
  have hs : i < l.size := by
    rcases Nat.lt_or_ge i l.size with h | h
    · exact h
    · simp [Array.getElem?_eq_none h] at hl
  refine filter_less _ _ i (fun j hj => ?_) ?_ ?_ _ (List.mem_range.2 hi)
  · cases h : l.getD j false with
    | false => rfl
    | true => rw [getD_set_true h] at hj; cases hj
  · rw [getD_ff hl]; rfl
  · simp [hs]
theorem mix_floats {sz : Nat} {an : Nat → Bool} {tail : List (Nat × Nat)} {l0 : List Oper} (hp : ParS l0.toArray n sz dp an tail fl snk) (han : ∀ i, (ann i).isSome = an i) {a0 : Act} (hsz : a0.tmps.size = sz) {W : World} (hW : Ext w0 W) {X : Nat → α} {V : Nat → Value}
    (hV : Good P l0.toArray (fun a W => wpMix P l0.toArray Q (fun _ => True) (pickO l0 tail) a W) w0 dp ann X V (l0.take n) 0 a0) (hR : ∀ j A, j < n → ann j = some A → A.R (X j) W) :
    ∀ (U : List Nat) (l : Array Bool) (b : Act), Deps .any l0.toArray l → (∀ j ∈ U, j < n ∧ fl.contains j = true) → (∀ j, j < n → l.getD j false = false → j ∈ U) →
      mixB .any l0.toArray snk (U.map (fun k => (k, 0)) ++ tail) l = true → FrS l0.toArray n a0 l V b → wpMix P l0.toArray Q (fun _ => True) (pickO l0 (U.map (fun k => (k, 0)) ++ tail)) b W := by
  intro U
  induction U with
  | nil =>
    intro l b hd _ hU _ hF
    have hall : ∀ j, j < n → l.getD j false = true := fun j hj => by
      cases h : l.getD j false with
      | true => rfl
      | false => cases hU j hj h
    have hb := hF.all hp hsz hall
    have hfin := hV.fin _ _ _ W hW (fun j A hj ha => hR j A (by simp at hj; omega) ha)
    rw [hb]
    exact hfin
  | cons i U ih =>
    intro l b hd hUn hU hB hF
    simp only [List.map_cons, List.cons_append] at hB ⊢
    simp only [mixB, Bool.and_eq_true, decide_eq_true_eq, Bool.not_eq_true'] at hB
    obtain ⟨⟨⟨⟨hi, _⟩, _⟩, _⟩, hB⟩ := hB
    have hi : i ∈ Region.ready .any l0.toArray l := by simpa using hi
    obtain ⟨hin, hfl⟩ := hUn i (List.mem_cons_self)
    obtain ⟨hun, o, ho, hall⟩ := mem_ready.1 hi
    have ho' : l0[i]? = some o := by simpa using ho
    obtain ⟨hfo, hann⟩ := hp.flo i o hin hfl ho
    have hclo := hp.closed hd i o ho hall
    have hot : (l0.take n)[i]? = some o := by rw [List.getElem?_take_of_lt hin]; simpa using ho
    have fa := hV.at _ _ _ i _ hot
    rw [Nat.zero_add, List.take_take, Nat.min_eq_left (Nat.le_of_lt hin)] at fa
    have hlook := hF.look hp hsz hin ho hall
    obtain ⟨s1, s2⟩ := same_at (ops := l0.toArray) (fun cs b => Region.noSelect_spec hp.nosel i _ cs b ho) hlook
    have s1 : execOp (frL V (l0.take i) 0 a0).eval o = execOp b.eval o := s1
    have s2 : Region.wanted o (yielded l0.toArray (frL V (l0.take i) 0 a0).tmps) = Region.wanted o (yielded l0.toArray b.tmps) := s2
    have ha : ann i = none := by
      have := han i
      rw [hann] at this
      cases h : ann i with
      | none => rfl
      | some A => rw [h] at this; cases this
    unfold FactAt at fa
    rw [ha] at fa
    simp only at fa
    have hnext := ih (l.setIfInBounds i true) (b.put o.dst (V i)) (hd.step hi) (fun j hj => hUn j (List.mem_cons_of_mem _ hj)) (fun j hj hl => by
      by_cases e : i = j
      · subst e
        exfalso
        have his : i < l.size := by rw [hd.size]; exact (Array.getElem?_eq_some_iff.1 ho).1
        simp [his] at hl
      · rw [getD_set_ne false e] at hl
        rcases List.mem_cons.1 (hU j hj hl) with h | h
        · exact absurd h.symm e
        · exact h) hB (hF.step hp hsz hin ho (fun _ _ _ => rfl))
    simp only [pickO, ho', wpMix]
    cases hw : Region.wanted o (yielded l0.toArray b.tmps) with
    | true =>
      rw [if_pos rfl]
      have hr := fa.1 (by rw [s2]; exact hw) W hW (fun j A hj hdj haj => hR j A (by omega) haj)
      rw [s1] at hr
      exact ⟨V i, fun W' _ => float_run hfo hr W', hnext⟩
    | false =>
      rw [if_neg (by simp)]
      have hv := fa.2 (by rw [s2]; exact hw)
      rw [← hv]
      exact hnext
theorem par_fin {sz : Nat} {an : Nat → Bool} {tail : List (Nat × Nat)} {l0 : List Oper} (hp : ParS l0.toArray n sz dp an tail fl snk) (han : ∀ i, (ann i).isSome = an i)
    (hQ : ∀ c a d v w, Q (.panic c) (Act.put a d v) w → Q (.panic c) a w) {a0 : Act} (hsz : a0.tmps.size = sz) {f : Nat} {l : Array Bool} {b : Act} {W : World} {X : Nat → α} {V : Nat → Value} (hd : Deps .any l0.toArray l) (hout : ∀ j, n ≤ j → l.getD j false = false) (hW : Ext w0 W)
    (hR : ∀ j A, j < n → l.getD j false = true → ann j = some A → A.R (X j) W)
    (hV : Good P l0.toArray (fun a W => wpMix P l0.toArray Q (fun _ => True) (pickO l0 tail) a W) w0 dp ann X V (l0.take n) 0 a0)
    (hF : FrS l0.toArray n a0 l V b) (hall : ∀ j, j < n → fl.contains j = false → l.getD j false = true) (hf : remN n l + tail.length ≤ f) : wpAny P .any l0.toArray Q f l b W := by
  have hUf : ∀ j ∈ ((List.range n).filter fun j => !l.getD j false), j < n ∧ fl.contains j = true := fun j hj => by
    obtain ⟨h1, h2⟩ := List.mem_filter.1 hj
    have h1 := List.mem_range.1 h1
    refine ⟨h1, ?_⟩
    cases hc : fl.contains j with
    | true => rfl
    | false => have := hall j h1 hc; rw [this] at h2; cases h2
  have hUs : ((List.range n).filter fun j => !l.getD j false) ∈ subs ((List.range n).filter fun j => fl.contains j) := by
    have := filter_subs (fun j => !l.getD j false) ((List.range n).filter fun j => fl.contains j)
    rw [List.filter_filter] at this
    have e : ((List.range n).filter fun j => !l.getD j false) = ((List.range n).filter fun j => (!l.getD j false) && fl.contains j) := by
      apply List.filter_congr
      intro j hj
      cases hl : l.getD j false with
      | true => rfl
      | false =>
        have := hUf j (List.mem_filter.2 ⟨hj, by rw [hl]; rfl⟩)
        rw [this.2]; rfl
    rw [e]; exact this
  have hm := hp.mix _ hUs
  have hl : l = Array.ofFn (n := l0.toArray.size) fun j => decide (j.val < n) && !((List.range n).filter fun j => !l.getD j false).contains j.val := by
    apply Array.ext
    · simp [hd.size]
    · intro j h1 h2
      rw [Array.getElem_ofFn]
      have hg : l.getD j false = l[j] := by rw [Array.getD_eq_getD_getElem?, Array.getElem?_eq_getElem h1]; rfl
      by_cases hj : j < n
      · simp only [hj, decide_true, Bool.true_and]
        rw [← hg]
        cases h : l.getD j false with
        | true => simp [h, -Array.getD_eq_getD_getElem?]
        | false => simp [h, hj, -Array.getD_eq_getD_getElem?]
      · have := hout j (by omega)
        rw [← hg, this]
        simp [hj]
  rw [← hl] at hm
  have hlen : (((List.range n).filter fun j => !l.getD j false).map (fun k => (k, 0)) ++ tail).length ≤ f := by
    rw [List.length_append, List.length_map]
    exact hf
  have hR2 : ∀ j A, j < n → ann j = some A → A.R (X j) W := fun j A hj ha => by
    refine hR j A hj ?_ ha
    refine hall j hj ?_
    cases hc : fl.contains j with
    | false => rfl
    | true =>
      have hjs : j < l0.toArray.size := Nat.lt_of_lt_of_le hj hp.le
      have := (hp.flo j _ hj hc (Array.getElem?_eq_getElem hjs)).2
      rw [← han, ha] at this; cases this
  have h2 := mix_floats (Q := Q) hp han hsz hW hV hR2 _ l b hd hUf (fun j hj h => List.mem_filter.2 ⟨List.mem_range.2 hj, by rw [h]; rfl⟩) hm hF
  have h3 := wpTill_of_mix (P := P) (S := fun _ => True) (n := snk) hp.nosel hp.sink hQ _ l b W hd (.inl trivial) hm h2
  exact wpAny_le hlen (wpAny_of_till _ _ _ _ h3)
theorem par_sound {sz : Nat} {an : Nat → Bool} {tail : List (Nat × Nat)} {l0 : List Oper} [Inhabited α] (hp : ParS l0.toArray n sz dp an tail fl snk) (han : ∀ i, (ann i).isSome = an i)
    (hQ : ∀ c a d v w, Q (.panic c) (Act.put a d v) w → Q (.panic c) a w) {a0 : Act} (hsz : a0.tmps.size = sz)
    (hC : Can P l0.toArray (fun a W => wpMix P l0.toArray Q (fun _ => True) (pickO l0 tail) a W) w0 dp ann (l0.take n) 0 [] a0) :
    ∀ (f : Nat) (l : Array Bool) (b : Act) (W : World) (X : Nat → α) (V : Nat → Value), Deps .any l0.toArray l → (∀ j, n ≤ j → l.getD j false = false) → Ext w0 W →
      (∀ j A, j < n → l.getD j false = true → ann j = some A → A.R (X j) W) →
      Good P l0.toArray (fun a W => wpMix P l0.toArray Q (fun _ => True) (pickO l0 tail) a W) w0 dp ann X V (l0.take n) 0 a0 →
      FrS l0.toArray n a0 l V b → remN n l + tail.length ≤ f → wpAny P .any l0.toArray Q f l b W := by
  intro f
  induction f with
  | zero =>
    intro l b W X V hd hout hW hR hV hF hf
    have hr0 : remN n l = 0 := by omega
    have hall := remN_zero hr0
    exact par_fin hp han hQ hsz hd hout hW hR hV hF (fun j hj _ => hall j hj) hf
  | succ f ih =>
    intro l b W X V hd hout hW hR hV hF hf
    by_cases hr0 : ∀ j, j < n → fl.contains j = false → l.getD j false = true
    · exact par_fin hp han hQ hsz hd hout hW hR hV hF hr0 hf
    · have hund : ∃ j, j < n ∧ fl.contains j = false ∧ l.getD j false = false := by
        by_cases h : ∃ j, j < n ∧ fl.contains j = false ∧ l.getD j false = false
        · exact h
        · exfalso
          apply hr0
          intro j hj hfl
          cases hl : l.getD j false with
          | true => rfl
          | false => exact absurd ⟨j, hj, hfl, hl⟩ h
      refine ⟨fun hr => ?_, fun i hi => ?_⟩
      · exfalso
        obtain ⟨j0, hj0, _, hl0⟩ := hund
        have hmin : ∀ k, ∀ j, j ≤ k → j < n → l.getD j false = false → False := by
          intro k
          induction k using Nat.strongRecOn with
          | _ k ihk =>
            intro j hjk hj hl
            have hjs : j < l0.toArray.size := Nat.lt_of_lt_of_le hj hp.le
            have ho : l0.toArray[j]? = some l0.toArray[j] := Array.getElem?_eq_getElem hjs
            have hready : j ∈ Region.ready .any l0.toArray l := by
              rw [mem_ready]
              refine ⟨getD_tf (by rw [hd.size]; exact hjs) hl, _, ho, fun e he hb => ?_⟩
              have hlt := hp.lt j _ hj ho e he hb
              cases h : l.getD e.on false with
              | true => rfl
              | false => exact (ihk e.on (by omega) e.on (Nat.le_refl _) (by omega) h).elim
            rw [hr] at hready
            cases hready
        exact hmin j0 j0 (Nat.le_refl _) hj0 hl0
      · obtain ⟨hun, o, ho, hall⟩ := mem_ready.1 hi
        have his : i < l0.toArray.size := (Array.getElem?_eq_some_iff.1 ho).1
        have hclo := hp.closed hd i o ho hall
        have hin : i < n := by
          rcases Nat.lt_or_ge i n with h | h
          · exact h
          · exfalso
            obtain ⟨j, hj, hfl, hl⟩ := hund
            have := hclo j (hp.rest i j h his hj hfl)
            rw [hl] at this; cases this
        have hot : (l0.take n)[i]? = some o := by rw [List.getElem?_take_of_lt hin]; simpa using ho
        have fa := hV.at _ _ _ i _ hot
        rw [Nat.zero_add, List.take_take, Nat.min_eq_left (Nat.le_of_lt hin)] at fa
        have hlook := hF.look hp hsz hin ho hall
        obtain ⟨s1, s2⟩ := same_at (ops := l0.toArray) (fun cs b => Region.noSelect_spec hp.nosel i _ cs b ho) hlook
        have s1 : execOp (frL V (l0.take i) 0 a0).eval o = execOp b.eval o := s1
        have s2 : Region.wanted o (yielded l0.toArray (frL V (l0.take i) 0 a0).tmps) = Region.wanted o (yielded l0.toArray b.tmps) := s2
        have hout' : ∀ j, n ≤ j → (l.setIfInBounds i true).getD j false = false := fun j hj => by rw [getD_set_ne false (by omega)]; exact hout j hj
        have hrem := remN_step hin hun
        unfold wpOp
        rw [ho]
        simp only
        unfold FactAt at fa
        cases ha : ann i with
        | none =>
          rw [ha] at fa
          simp only at fa
          have hR' : ∀ W', Ext W W' → ∀ j A, j < n → (l.setIfInBounds i true).getD j false = true → ann j = some A → A.R (X j) W' := fun W' hW' j A hj hl haj => by
            by_cases e : j = i
            · subst e; rw [ha] at haj; cases haj
            · rw [getD_set_ne false (Ne.symm e)] at hl
              exact A.st _ _ _ (hR j A hj hl haj) hW'
          cases hw : Region.wanted o (yielded l0.toArray b.tmps) with
          | true =>
            rw [if_pos rfl]
            refine .inl ?_
            have hr := fa.1 (by rw [s2]; exact hw) W hW (fun j A hj hdj haj => hR j A (by omega) (hclo j hdj) haj)
            rw [s1] at hr
            unfold Oper.wp
            rw [hr]
            exact ih _ _ _ X V (hd.step hi) hout' hW (hR' W (Upd.refl _ _)) hV (hF.step hp hsz hin ho (fun _ _ _ => rfl)) (by omega)
          | false =>
            rw [if_neg (by simp)]
            have hv := fa.2 (by rw [s2]; exact hw)
            rw [← hv]
            exact ih _ _ _ X V (hd.step hi) hout' hW (hR' W (Upd.refl _ _)) hV (hF.step hp hsz hin ho (fun _ _ _ => rfl)) (by omega)
        | some A =>
          rw [ha] at fa
          simp only at fa
          obtain ⟨hw, hVi, hm⟩ := fa
          rw [s2] at hw
          rw [if_pos hw]
          refine .inl ?_
          obtain ⟨d, hdd⟩ := hp.some_ i o hin ho (by rw [← han, ha]; rfl)
          have hds := hp.dst i o d hin ho hdd
          have hfs := frL_size V (l0.take i) 0 a0
          refine wp_transfer (K := fun a' W' => a'.defers = (frL V (l0.take i) 0 a0).defers ∧ ∃ x, a'.tmps[d]? = some (A.val x) ∧ Ext W W' ∧ A.R x W') s1 (fun v W' hK => ?_) (fun _ _ h => h.1) (hm W hW (fun j B hj hdj haj => hR j B (by omega) (hclo j hdj) haj) _ (fun x W' hE hRx => ⟨put_defers' _ _ _, x, by rw [hdd]; exact put_eq _ _ _ (by rw [hfs.1, hsz]; exact hds), hE, hRx⟩))
          obtain ⟨_, x, hx, hE, hRx⟩ := hK
          rw [hdd, put_eq _ _ _ (by rw [hfs.1, hsz]; exact hds)] at hx
          have hvx : v = A.val x := Option.some.inj hx
          obtain ⟨V', hV'⟩ := good_of_can (fun j => if j = i then x else X j) _ _ _ _ hC (fun g hg => by cases hg)
          have hRW : ∀ j B, j < n → l.getD j false = true → ann j = some B → B.R (X j) W' := fun j B hj hl haj => B.st _ _ _ (hR j B hj hl haj) hE
          have hne : ∀ j, l.getD j false = true → j ≠ i := fun j hl e => by subst e; rw [getD_ff hun] at hl; cases hl
          have hsame := Good.same hp hd hsz hV hV' (fun j hj hl => if_neg (hne j hl)) (hW.ext hE) hRW
          have fa' := hV'.at _ _ _ i _ hot
          rw [Nat.zero_add] at fa'
          unfold FactAt at fa'
          rw [ha] at fa'
          simp only [if_true] at fa'
          rw [hvx, ← fa'.2.1]
          refine ih _ _ _ (fun j => if j = i then x else X j) V' (hd.step hi) hout' (hW.ext hE) (fun j B hj hl haj => ?_) hV' (hF.step hp hsz hin ho hsame) (by omega)
          by_cases e : j = i
          · subst e
            rw [ha] at haj
            obtain rfl := Option.some.inj haj
            simp only [if_true]
            exact hRx
          · rw [getD_set_ne false (Ne.symm e)] at hl
            simp only [if_neg e]
            exact hRW j B hj hl haj
theorem wp_region_parF {id : Nat} {a : Act} {w : World} {l0 : List Oper} [Inhabited α] (n : Nat) (fl : List Nat) (snk : Nat) (tail : List (Nat × Nat)) (dpl : List (List Nat)) (anl : List (Option (Ann α))) (anb : List Bool) (hm : P.follows .mixedOrders = true)
    (hB : parFB l0.toArray n a.tmps.size (fun i => dpl.getD i []) (fun i => anb.getD i false) fl snk tail = true) (han : anl.map (·.isSome) = anb)
    (hQ : ∀ c a d v w, Q (.panic c) (Act.put a d v) w → Q (.panic c) a w)
    (h : Can P l0.toArray (fun a W => wpMix P l0.toArray Q (fun _ => True) (pickO l0 tail) a W) w (fun i => dpl.getD i []) (fun i => anl.getD i none) (l0.take n) 0 [] a) : (Code.region id l0.toArray true).wp P Q a w := by
  have hp := parS_of hB
  refine wp_region_any hm ?_
  have hW : Ext w { w with drawn := w.drawn + 1 } := ⟨rfl, rfl, rfl, Nat.le_refl _, fun _ _ _ => rfl⟩
  obtain ⟨V, hV⟩ := good_of_can (fun _ => default) _ _ _ _ h (fun g hg => by cases hg)
  have hf : ∀ j, (Array.replicate l0.toArray.size false).getD j false = false := fun j => by
    rcases Nat.lt_or_ge j l0.length with h | h <;> simp [h]
  refine par_sound hp (fun i => ?_) hQ rfl h _ _ _ _ _ V Deps.start (fun j _ => hf j) hW (fun j A _ hl => by rw [hf] at hl; cases hl) hV FrS.start ?_
  · rw [← han]
    simp only [List.getD_eq_getElem?_getD, List.getElem?_map]
    cases anl[i]? <;> rfl
  · have h1 : remN n (Array.replicate l0.toArray.size false) ≤ n := by
      unfold remN
      exact Nat.le_trans (List.length_filter_le _ _) (by simp)
    have := hp.len
    omega
theorem wp_region_par {id : Nat} {a : Act} {w : World} {l0 : List Oper} [Inhabited α] (n : Nat) (tail : List (Nat × Nat)) (dpl : List (List Nat)) (anl : List (Option (Ann α))) (anb : List Bool) (hm : P.follows .mixedOrders = true)
    (hB : parB l0.toArray n a.tmps.size (fun i => dpl.getD i []) (fun i => anb.getD i false) tail = true) (han : anl.map (·.isSome) = anb)
    (hQ : ∀ c a d v w, Q (.panic c) (Act.put a d v) w → Q (.panic c) a w)
    (h : Can P l0.toArray (fun a W => wpMix P l0.toArray Q (fun _ => True) (pickO l0 tail) a W) w (fun i => dpl.getD i []) (fun i => anl.getD i none) (l0.take n) 0 [] a) : (Code.region id l0.toArray true).wp P Q a w := wp_region_parF n [] 0 tail dpl anl anb hm hB han hQ h
theorem can_pure {o : Oper} {r : List Oper} {i : Nat} {G : List (Nat × (World → Prop))} {a : Act} (ha : ann i = none)
    (h : ∀ K : Act → Prop, (∀ a, Can P ops Qt w0 dp ann r (i + 1) G a → K a) → if Region.wanted o (yielded ops a.tmps) then ∃ v, (∀ W, Ext w0 W → (∀ g ∈ G, g.1 ∈ dp i → g.2 W) → (execOp a.eval o).run P W = .ok (.value v) W) ∧ K (a.put o.dst v) else K (a.put o.dst undef)) :
    Can P ops Qt w0 dp ann (o :: r) i G a := by
  unfold Can
  rw [ha]
  exact h _ (fun _ h => h)
theorem can_mem {o : Oper} {r : List Oper} {i : Nat} {G : List (Nat × (World → Prop))} {a : Act} (A : Ann α) (ha : ann i = some A) (hw : Region.wanted o (yielded ops a.tmps) = true)
    (h1 : ∀ W, Ext w0 W → (∀ g ∈ G, g.1 ∈ dp i → g.2 W) → ∀ K : Act → World → Prop, (∀ x W', Ext W W' → A.R x W' → K (a.put o.dst (A.val x)) W') → o.wp P a W K (fun _ _ _ => False))
    (h2 : ∀ K : Act → Prop, ∀ x, (∀ a, Can P ops Qt w0 dp ann r (i + 1) (G ++ [(i, A.R x)]) a → K a) → K (a.put o.dst (A.val x))) :
    Can P ops Qt w0 dp ann (o :: r) i G a := by
  unfold Can
  rw [ha]
  exact ⟨hw, h1, fun x => h2 _ x (fun _ h => h)⟩
theorem can_end {i : Nat} {G : List (Nat × (World → Prop))} {a : Act} (h : ∀ W, Ext w0 W → (∀ g ∈ G, g.2 W) → Qt a W) : Can P ops Qt w0 dp ann [] i G a := h

theorem can_pure0 {o : Oper} {r : List Oper} {i : Nat} {G : List (Nat × (World → Prop))} {a : Act} (ha : ann i = none)
    (h : ∀ K : Act → Prop, (∀ a, Can P ops Qt w0 dp ann r (i + 1) G a → K a) → if Region.wanted o (yielded ops a.tmps) then ∃ v, (∀ x : XW w0, (execOp a.eval o).run P x.val = .ok (.value v) x.val) ∧ K (a.put o.dst v) else K (a.put o.dst undef)) :
    Can P ops Qt w0 dp ann (o :: r) i G a := by
  refine can_pure ha fun K hK => ?_
  have h2 := h K hK
  by_cases hw : Region.wanted o (yielded ops a.tmps) = true
  · rw [if_pos hw] at h2 ⊢
    obtain ⟨v, hv, h3⟩ := h2
    exact ⟨v, fun W hW _ => hv ⟨W, hW⟩, h3⟩
  · rw [if_neg hw] at h2 ⊢; exact h2
def annVal (v : Value) : Ann α := ⟨fun _ => v, fun _ _ => True, fun _ _ _ h _ => h⟩
end
end Go.Hw

/- An append to a slice without room, of length zero: no old block changes. -/
namespace Go.Hw
open Go.RowKit
set_option linter.unusedVariables false
set_option linter.unusedSimpArgs false
section
variable {P : Program} (w : World)
end
end Go.Hw
