/- The texts L7 I46 L8, one behind the other. -/
import Derived.Test.YtiimccogojkldaaGreatDoorYAF
import Derived.Test.YtiimccogojkldaaGreatDoorYAK
/- A drawn region walked once, as in L4: and the blocks that its operations make are told apart. -/
namespace Go.Hw.PF
open Go.RowKit Go.Hw
set_option linter.unusedVariables false
set_option linter.unusedSimpArgs false

section
variable {P : Program} {ops : Array Oper} {Q : Exit → Act → World → Prop} {α : Type} {w0 : World} {Qt : Act → World → Prop} {dp : Nat → List Nat} {n : Nat} {md : Region.Mode} {fl : List Nat} {snk : Nat}

/-- what is said of an operation that makes memory: its value, what is true of it from then on, the block that it made -/
structure Ann (α : Type) where
  val : α → Value
  R : α → World → Prop
  st : ∀ x W W', R x W → Ext W W' → R x W'
  f : α → Option Nat
  lt : ∀ x W k, R x W → f x = some k → k < W.heap.size

variable {ann : Nat → Option (Ann α)}
abbrev Fct := Nat × Option Nat × (World → Prop)
/-- no block is made twice -/
def Apt (G : List Fct) : Prop := G.Pairwise fun g h => ∀ k, g.2.1 = some k → h.2.1 ≠ some k
/-- the walk, in the order of the text -/
def Can (P : Program) (ops : Array Oper) (Qt : Act → World → Prop) (w0 : World) (dp : Nat → List Nat) (ann : Nat → Option (Ann α)) : List Oper → Nat → List Fct → Act → Prop
  | [], _, G, a => ∀ W, Ext w0 W → (∀ g ∈ G, g.2.2 W) → Apt G → Qt a W
  | o :: r, i, G, a => match ann i with
    | none => if Region.wanted o (yielded ops a.tmps) then ∃ v, (∀ W, Ext w0 W → (∀ g ∈ G, g.1 ∈ dp i → g.2.2 W) → (execOp a.eval o).run P W = .ok (.value v) W) ∧ Can P ops Qt w0 dp ann r (i + 1) G (a.put o.dst v)
        else Can P ops Qt w0 dp ann r (i + 1) G (a.put o.dst undef)
    | some A => Region.wanted o (yielded ops a.tmps) = true ∧
        (∀ W, Ext w0 W → (∀ g ∈ G, g.1 ∈ dp i → g.2.2 W) → ∀ K : Act → World → Prop, (∀ x W', Ext W W' → A.R x W' → (∀ k, A.f x = some k → W.heap.size ≤ k) → K (a.put o.dst (A.val x)) W') → o.wp P a W K (fun _ _ _ => False)) ∧
        ∀ x, Can P ops Qt w0 dp ann r (i + 1) (G ++ [(i, A.f x, A.R x)]) (a.put o.dst (A.val x))

def FactAt (P : Program) (ops : Array Oper) (w0 : World) (dp : Nat → List Nat) (ann : Nat → Option (Ann α)) (X : Nat → α) (V : Nat → Value) (i : Nat) (o : Oper) (a : Act) : Prop :=
  match ann i with
  | none => (Region.wanted o (yielded ops a.tmps) = true → ∀ W, Ext w0 W → (∀ j A, j < i → j ∈ dp i → ann j = some A → A.R (X j) W) → (execOp a.eval o).run P W = .ok (.value (V i)) W) ∧
      (Region.wanted o (yielded ops a.tmps) = false → V i = undef)
  | some A => Region.wanted o (yielded ops a.tmps) = true ∧ V i = A.val (X i) ∧
      ∀ W, Ext w0 W → (∀ j A, j < i → j ∈ dp i → ann j = some A → A.R (X j) W) → ∀ K : Act → World → Prop, (∀ x W', Ext W W' → A.R x W' → (∀ k, A.f x = some k → W.heap.size ≤ k) → K (a.put o.dst (A.val x)) W') → o.wp P a W K (fun _ _ _ => False)

def Good (P : Program) (ops : Array Oper) (Qt : Act → World → Prop) (w0 : World) (dp : Nat → List Nat) (ann : Nat → Option (Ann α)) (X : Nat → α) (V : Nat → Value) : List Oper → Nat → Act → Prop
  | [], k, a => ∀ W, Ext w0 W → (∀ j A, j < k → ann j = some A → A.R (X j) W) → (∀ i j A B, i < k → j < k → i ≠ j → ann i = some A → ann j = some B → ∀ b, A.f (X i) = some b → B.f (X j) ≠ some b) → Qt a W
  | o :: r, k, a => FactAt P ops w0 dp ann X V k o a ∧ Good P ops Qt w0 dp ann X V r (k + 1) (a.put o.dst (V k))

theorem FactAt.congr {X : Nat → α} {V V' : Nat → Value} {i : Nat} {o : Oper} {a : Act} (h : V i = V' i) (hf : FactAt P ops w0 dp ann X V i o a) : FactAt P ops w0 dp ann X V' i o a := by
  unfold FactAt at *
  rw [← h]; exact hf
theorem Good.congr {X : Nat → α} {V V' : Nat → Value} : ∀ (r : List Oper) (k : Nat) (a : Act), (∀ j, k ≤ j → V j = V' j) → Good P ops Qt w0 dp ann X V r k a → Good P ops Qt w0 dp ann X V' r k a
  | [], _, _, _, h => h
  | o :: r, k, a, he, h => ⟨h.1.congr (he k (Nat.le_refl _)), by rw [← he k (Nat.le_refl _)]; exact Good.congr r (k + 1) _ (fun j hj => he j (by omega)) h.2⟩

theorem good_of_can (X : Nat → α) : ∀ (r : List Oper) (k : Nat) (G : List Fct) (a : Act), Can P ops Qt w0 dp ann r k G a →
    (∀ g ∈ G, ∃ A, ann g.1 = some A ∧ g.1 < k ∧ g.2 = (A.f (X g.1), A.R (X g.1))) → G.Pairwise (fun g h => g.1 ≠ h.1) → ∃ V, Good P ops Qt w0 dp ann X V r k a
  | [], k, G, a, h, hG, hN => ⟨fun _ => undef, fun W hW hR hD => h W hW (fun g hg => by obtain ⟨A, h1, h2, h3⟩ := hG g hg; rw [h3]; exact hR _ _ h2 h1) (by
      unfold Apt
      refine List.Pairwise.imp_of_mem (fun {g g'} hg hg' hne b e1 e2 => ?_) hN
      obtain ⟨A, h1, h2, h3⟩ := hG g hg
      obtain ⟨A', h1', h2', h3'⟩ := hG g' hg'
      rw [h3] at e1
      rw [h3'] at e2
      exact hD _ _ A A' h2 h2' hne h1 h1' b e1 e2)⟩
  | o :: r, k, G, a, h, hG, hN => by
    have hH : ∀ W, (∀ j A, j < k → j ∈ dp k → ann j = some A → A.R (X j) W) → ∀ g ∈ G, g.1 ∈ dp k → g.2.2 W := fun W hR g hg hd => by
      obtain ⟨A, h1, h2, h3⟩ := hG g hg
      rw [h3]; exact hR _ _ h2 hd h1
    unfold Can at h
    have hG' : ∀ g ∈ G, ∃ A, ann g.1 = some A ∧ g.1 < k + 1 ∧ g.2 = (A.f (X g.1), A.R (X g.1)) := fun g hg => by
      obtain ⟨A, h1, h2, h3⟩ := hG g hg
      exact ⟨A, h1, by omega, h3⟩
    cases ha : ann k with
    | none =>
      rw [ha] at h
      simp only at h
      by_cases hw : Region.wanted o (yielded ops a.tmps) = true
      · rw [if_pos hw] at h
        obtain ⟨v, hv, h⟩ := h
        obtain ⟨V, hV⟩ := good_of_can X r (k + 1) G _ h hG' hN
        refine ⟨fun j => if j = k then v else V j, ?_, ?_⟩
        · unfold FactAt
          rw [ha]
          simp only [if_true]
          exact ⟨fun _ W hW hR => hv W hW (hH W hR), fun h => by rw [hw] at h; cases h⟩
        · rw [show (fun j => if j = k then v else V j) k = v from if_pos rfl]
          exact hV.congr _ _ _ (fun j hj => by rw [if_neg (by omega)])
      · rw [if_neg hw] at h
        obtain ⟨V, hV⟩ := good_of_can X r (k + 1) G _ h hG' hN
        refine ⟨fun j => if j = k then undef else V j, ?_, ?_⟩
        · unfold FactAt
          rw [ha]
          simp only [if_true]
          exact ⟨fun h => absurd h hw, fun _ => trivial⟩
        · rw [show (fun j => if j = k then undef else V j) k = undef from if_pos rfl]
          exact hV.congr _ _ _ (fun j hj => by rw [if_neg (by omega)])
    | some A =>
      rw [ha] at h
      simp only at h
      obtain ⟨hw, hm, h⟩ := h
      obtain ⟨V, hV⟩ := good_of_can X r (k + 1) _ _ (h (X k)) (fun g hg => by
        rcases List.mem_append.1 hg with h1 | h1
        · exact hG' g h1
        · simp only [List.mem_singleton] at h1
          subst h1
          exact ⟨A, ha, Nat.lt_succ_self _, rfl⟩) (List.pairwise_append.2 ⟨hN, List.pairwise_singleton _ _, fun g hg g' hg' e => by
        rw [List.mem_singleton] at hg'
        subst hg'
        obtain ⟨_, _, h2, _⟩ := hG g hg
        simp only at e
        omega⟩)
      refine ⟨fun j => if j = k then A.val (X k) else V j, ?_, ?_⟩
      · unfold FactAt
        rw [ha]
        simp only [if_true]
        exact ⟨hw, trivial, fun W hW hR K hK => hm W hW (hH W hR) K hK⟩
      · rw [show (fun j => if j = k then A.val (X k) else V j) k = A.val (X k) from if_pos rfl]
        exact hV.congr _ _ _ (fun j hj => by rw [if_neg (by omega)])

theorem Good.at {X : Nat → α} {V : Nat → Value} : ∀ (r : List Oper) (k : Nat) (a : Act), Good P ops Qt w0 dp ann X V r k a → ∀ i o, r[i]? = some o → FactAt P ops w0 dp ann X V (k + i) o (frL V (r.take i) k a)
  | [], _, _, _, i, o, h => by simp at h
  | p :: r, k, a, h, 0, o, ho => by simp at ho; subst ho; exact h.1
  | p :: r, k, a, h, i + 1, o, ho => by
    rw [List.getElem?_cons_succ] at ho
    have := Good.at r (k + 1) _ h.2 i o ho
    rw [show k + (i + 1) = k + 1 + i by omega]
    exact this
theorem Good.fin {X : Nat → α} {V : Nat → Value} : ∀ (r : List Oper) (k : Nat) (a : Act), Good P ops Qt w0 dp ann X V r k a → ∀ W, Ext w0 W → (∀ j A, j < k + r.length → ann j = some A → A.R (X j) W) → (∀ i j A B, i < k + r.length → j < k + r.length → i ≠ j → ann i = some A → ann j = some B → ∀ b, A.f (X i) = some b → B.f (X j) ≠ some b) → Qt (frL V r k a) W
  | [], _, _, h, W, hW, hR, hD => h W hW hR hD
  | p :: r, k, a, h, W, hW, hR, hD => Good.fin r (k + 1) _ h.2 W hW (fun j A hj => hR j A (by simp only [List.length_cons]; omega)) (fun i j A B hi hj => hD i j A B (by simp only [List.length_cons]; omega) (by simp only [List.length_cons]; omega))
theorem Good.same {sz : Nat} {an : Nat → Bool} {tail : List (Nat × Nat)} (hp : ParS ops n sz dp an tail fl snk) {a0 : Act} {l : Array Bool} (hd : Deps .any ops l) (hsz : a0.tmps.size = sz) {X X' : Nat → α} {V V' : Nat → Value}
    (hV : Good P ops Qt w0 dp ann X V (ops.toList.take n) 0 a0) (hV' : Good P ops Qt w0 dp ann X' V' (ops.toList.take n) 0 a0) (hX : ∀ j, j < n → l.getD j false = true → X' j = X j)
    {W : World} (hW : Ext w0 W) (hR : ∀ j A, j < n → l.getD j false = true → ann j = some A → A.R (X j) W) : ∀ j, j < n → l.getD j false = true → V' j = V j := by
  intro j
  induction j using Nat.strongRecOn with
  | _ j ih =>
    intro hj hl
    have hjs : j < ops.size := Nat.lt_of_lt_of_le hj hp.le
    have ho : ops[j]? = some ops[j] := Array.getElem?_eq_getElem hjs
    have hot : (ops.toList.take n)[j]? = some ops[j] := by rw [List.getElem?_take_of_lt hj]; simp
    have hall : ∀ e ∈ ops[j].after, Region.binds .any e = true → l.getD e.on false = true := fun e he hb => hd.back j _ ho hl e he hb
    have f1 := hV.at _ _ _ j _ hot
    have f2 := hV'.at _ _ _ j _ hot
    rw [Nat.zero_add] at f1 f2
    rw [List.take_take, Nat.min_eq_left (Nat.le_of_lt hj)] at f1 f2
    have hclo := hp.closed hd j _ ho hall
    have hsame : ∀ t ∈ ops[j].looksAt ops, (frL V (ops.toList.take j) 0 a0).tmps[t]? = (frL V' (ops.toList.take j) 0 a0).tmps[t]? := by
      intro t ht
      by_cases hx : ∃ k p, k < j ∧ ops[k]? = some p ∧ p.dst = some t
      · obtain ⟨k, p, hk, hpk, hdk⟩ := hx
        have hkn : k < n := by omega
        have hkl : l.getD k false = true := by
          obtain ⟨e, he, hb, hon⟩ := hp.reads j k _ p t hj hkn ho hpk ht hdk
          have := hall e he hb
          rw [hon] at this; exact this
        have hu : ∀ (i : Nat) q, (ops.toList.take j)[i]? = some q → q.dst = some t → i = k := fun i q hq hqd => by
          have hi : i < j := by
            have := (List.getElem?_eq_some_iff.1 hq).1
            rw [List.length_take] at this; omega
          rw [List.getElem?_take_of_lt hi] at hq
          exact hp.uniq k i p q t hkn (by omega) hpk (by simpa using hq) hdk hqd
        have hk2 : (ops.toList.take j)[k]? = some p := by rw [List.getElem?_take_of_lt hk]; simpa using hpk
        rw [frL_in V t _ 0 a0 k p hk2 hdk (by rw [hsz]; exact hp.dst _ _ _ hkn hpk hdk) hu, frL_in V' t _ 0 a0 k p hk2 hdk (by rw [hsz]; exact hp.dst _ _ _ hkn hpk hdk) hu, Nat.zero_add, ih k hk hkn hkl]
      · have hno : ∀ (k : Nat) p, (ops.toList.take j)[k]? = some p → p.dst ≠ some t := fun k p hpk hdk => by
          have hk : k < j := by
            have := (List.getElem?_eq_some_iff.1 hpk).1
            rw [List.length_take] at this; omega
          rw [List.getElem?_take_of_lt hk] at hpk
          exact hx ⟨k, p, hk, by simpa using hpk, hdk⟩
        rw [frL_out V t _ 0 a0 hno, frL_out V' t _ 0 a0 hno]
    obtain ⟨s1, s2⟩ := same_at (ops := ops) (fun cs b => Region.noSelect_spec hp.nosel j _ cs b ho) hsame
    unfold FactAt at f1 f2
    cases ha : ann j with
    | none =>
      rw [ha] at f1 f2
      simp only at f1 f2
      cases hw : Region.wanted ops[j] (yielded ops (frL V (ops.toList.take j) 0 a0).tmps) with
      | true =>
        have r1 := f1.1 hw W hW (fun k A hk hdk hak => hR k A (by omega) (hclo k hdk) hak)
        have r2 := f2.1 (by rw [← s2]; exact hw) W hW (fun k A hk hdk hak => by rw [hX k (by omega) (hclo k hdk)]; exact hR k A (by omega) (hclo k hdk) hak)
        rw [← s1, r1] at r2
        injection r2 with r2
        injection r2 with r2
        exact r2.symm
      | false => rw [f1.2 hw, f2.2 (by rw [← s2]; exact hw)]
    | some A =>
      rw [ha] at f1 f2
      simp only at f1 f2
      rw [f1.2.1, f2.2.1, hX j hj hl]
/-- a step that was walked in the order of the text is one of the state -/
theorem mix_floats {sz : Nat} {an : Nat → Bool} {tail : List (Nat × Nat)} {l0 : List Oper} (hp : ParS l0.toArray n sz dp an tail fl snk) (han : ∀ i, (ann i).isSome = an i) {a0 : Act} (hsz : a0.tmps.size = sz) {W : World} (hW : Ext w0 W) {X : Nat → α} {V : Nat → Value}
    (hV : Good P l0.toArray (fun a W => wpMix P l0.toArray Q (fun _ => True) (pickO l0 tail) a W) w0 dp ann X V (l0.take n) 0 a0) (hR : ∀ j A, j < n → ann j = some A → A.R (X j) W) (hD : ∀ i j A B, i < n → j < n → i ≠ j → ann i = some A → ann j = some B → ∀ b, A.f (X i) = some b → B.f (X j) ≠ some b) :
    ∀ (U : List Nat) (l : Array Bool) (b : Act), Deps .any l0.toArray l → (∀ j ∈ U, j < n ∧ fl.contains j = true) → (∀ j, j < n → l.getD j false = false → j ∈ U) →
      mixB .any l0.toArray snk (U.map (fun k => (k, 0)) ++ tail) l = true → FrS l0.toArray n a0 l V b → wpMix P l0.toArray Q (fun _ => True) (pickO l0 (U.map (fun k => (k, 0)) ++ tail)) b W := by
  intro U
  induction U with
  | nil =>
    intro l b hd _ hU _ hF
    have hall : ∀ j, j < n → l.getD j false = true := fun j hj => by
      cases h : l.getD j false with
      | true => rfl
      | false => cases hU j hj h
    have hb := hF.all hp hsz hall
    have hfin := hV.fin _ _ _ W hW (fun j A hj ha => hR j A (by simp at hj; omega) ha) (fun i j A B hi hj => hD i j A B (by simp at hi; omega) (by simp at hj; omega))
    rw [hb]
    exact hfin
  | cons i U ih =>
    intro l b hd hUn hU hB hF
    simp only [List.map_cons, List.cons_append] at hB ⊢
    simp only [mixB, Bool.and_eq_true, decide_eq_true_eq, Bool.not_eq_true'] at hB
    obtain ⟨⟨⟨⟨hi, _⟩, _⟩, _⟩, hB⟩ := hB
    have hi : i ∈ Region.ready .any l0.toArray l := by simpa using hi
    obtain ⟨hin, hfl⟩ := hUn i (List.mem_cons_self)
    obtain ⟨hun, o, ho, hall⟩ := mem_ready.1 hi
    have ho' : l0[i]? = some o := by simpa using ho
    obtain ⟨hfo, hann⟩ := hp.flo i o hin hfl ho
    have hclo := hp.closed hd i o ho hall
    have hot : (l0.take n)[i]? = some o := by rw [List.getElem?_take_of_lt hin]; simpa using ho
    have fa := hV.at _ _ _ i _ hot
    rw [Nat.zero_add, List.take_take, Nat.min_eq_left (Nat.le_of_lt hin)] at fa
    have hlook := hF.look hp hsz hin ho hall
    obtain ⟨s1, s2⟩ := same_at (ops := l0.toArray) (fun cs b => Region.noSelect_spec hp.nosel i _ cs b ho) hlook
    have s1 : execOp (frL V (l0.take i) 0 a0).eval o = execOp b.eval o := s1
    have s2 : Region.wanted o (yielded l0.toArray (frL V (l0.take i) 0 a0).tmps) = Region.wanted o (yielded l0.toArray b.tmps) := s2
    have ha : ann i = none := by
      have := han i
      rw [hann] at this
      cases h : ann i with
      | none => rfl
      | some A => rw [h] at this; cases this
    unfold FactAt at fa
    rw [ha] at fa
    simp only at fa
    have hnext := ih (l.setIfInBounds i true) (b.put o.dst (V i)) (hd.step hi) (fun j hj => hUn j (List.mem_cons_of_mem _ hj)) (fun j hj hl => by
      by_cases e : i = j
      · subst e
        exfalso
        have his : i < l.size := by rw [hd.size]; exact (Array.getElem?_eq_some_iff.1 ho).1
        simp [his] at hl
      · rw [getD_set_ne false e] at hl
        rcases List.mem_cons.1 (hU j hj hl) with h | h
        · exact absurd h.symm e
        · exact h) hB (hF.step hp hsz hin ho (fun _ _ _ => rfl))
    simp only [pickO, ho', wpMix]
    cases hw : Region.wanted o (yielded l0.toArray b.tmps) with
    | true =>
      rw [if_pos rfl]
      have hr := fa.1 (by rw [s2]; exact hw) W hW (fun j A hj hdj haj => hR j A (by omega) haj)
      rw [s1] at hr
      exact ⟨V i, fun W' _ => float_run hfo hr W', hnext⟩
    | false =>
      rw [if_neg (by simp)]
      have hv := fa.2 (by rw [s2]; exact hw)
      rw [← hv]
      exact hnext
theorem par_fin {sz : Nat} {an : Nat → Bool} {tail : List (Nat × Nat)} {l0 : List Oper} (hp : ParS l0.toArray n sz dp an tail fl snk) (han : ∀ i, (ann i).isSome = an i)
    (hQ : ∀ c a d v w, Q (.panic c) (Act.put a d v) w → Q (.panic c) a w) {a0 : Act} (hsz : a0.tmps.size = sz) {f : Nat} {l : Array Bool} {b : Act} {W : World} {X : Nat → α} {V : Nat → Value} (hd : Deps .any l0.toArray l) (hout : ∀ j, n ≤ j → l.getD j false = false) (hW : Ext w0 W)
    (hR : ∀ j A, j < n → l.getD j false = true → ann j = some A → A.R (X j) W) (hD : ∀ i j A B, i < n → j < n → l.getD i false = true → l.getD j false = true → i ≠ j → ann i = some A → ann j = some B → ∀ b, A.f (X i) = some b → B.f (X j) ≠ some b)
    (hV : Good P l0.toArray (fun a W => wpMix P l0.toArray Q (fun _ => True) (pickO l0 tail) a W) w0 dp ann X V (l0.take n) 0 a0)
    (hF : FrS l0.toArray n a0 l V b) (hall : ∀ j, j < n → fl.contains j = false → l.getD j false = true) (hf : remN n l + tail.length ≤ f) : wpAny P .any l0.toArray Q f l b W := by
  have hUf : ∀ j ∈ ((List.range n).filter fun j => !l.getD j false), j < n ∧ fl.contains j = true := fun j hj => by
    obtain ⟨h1, h2⟩ := List.mem_filter.1 hj
    have h1 := List.mem_range.1 h1
    refine ⟨h1, ?_⟩
    cases hc : fl.contains j with
    | true => rfl
    | false => have := hall j h1 hc; rw [this] at h2; cases h2
  have hUs : ((List.range n).filter fun j => !l.getD j false) ∈ subs ((List.range n).filter fun j => fl.contains j) := by
    have := filter_subs (fun j => !l.getD j false) ((List.range n).filter fun j => fl.contains j)
    rw [List.filter_filter] at this
    have e : ((List.range n).filter fun j => !l.getD j false) = ((List.range n).filter fun j => (!l.getD j false) && fl.contains j) := by
      apply List.filter_congr
      intro j hj
      cases hl : l.getD j false with
      | true => rfl
      | false =>
        have := hUf j (List.mem_filter.2 ⟨hj, by rw [hl]; rfl⟩)
        rw [this.2]; rfl
    rw [e]; exact this
  have hm := hp.mix _ hUs
  have hl : l = Array.ofFn (n := l0.toArray.size) fun j => decide (j.val < n) && !((List.range n).filter fun j => !l.getD j false).contains j.val := by
    apply Array.ext
    · simp [hd.size]
    · intro j h1 h2
      rw [Array.getElem_ofFn]
      have hg : l.getD j false = l[j] := by rw [Array.getD_eq_getD_getElem?, Array.getElem?_eq_getElem h1]; rfl
      by_cases hj : j < n
      · simp only [hj, decide_true, Bool.true_and]
        rw [← hg]
        cases h : l.getD j false with
        | true => simp [h, -Array.getD_eq_getD_getElem?]
        | false => simp [h, hj, -Array.getD_eq_getD_getElem?]
      · have := hout j (by omega)
        rw [← hg, this]
        simp [hj]
  rw [← hl] at hm
  have hlen : (((List.range n).filter fun j => !l.getD j false).map (fun k => (k, 0)) ++ tail).length ≤ f := by
    rw [List.length_append, List.length_map]
    exact hf
  have hAl : ∀ j A, j < n → ann j = some A → l.getD j false = true := fun j A hj ha => by
    refine hall j hj ?_
    cases hc : fl.contains j with
    | false => rfl
    | true =>
      have hjs : j < l0.toArray.size := Nat.lt_of_lt_of_le hj hp.le
      have := (hp.flo j _ hj hc (Array.getElem?_eq_getElem hjs)).2
      rw [← han, ha] at this; cases this
  have hR2 : ∀ j A, j < n → ann j = some A → A.R (X j) W := fun j A hj ha => hR j A hj (hAl j A hj ha) ha
  have hD2 : ∀ i j A B, i < n → j < n → i ≠ j → ann i = some A → ann j = some B → ∀ b, A.f (X i) = some b → B.f (X j) ≠ some b := fun i j A B hi hj hne ha hb => hD i j A B hi hj (hAl i A hi ha) (hAl j B hj hb) hne ha hb
  have h2 := mix_floats (Q := Q) hp han hsz hW hV hR2 hD2 _ l b hd hUf (fun j hj h => List.mem_filter.2 ⟨List.mem_range.2 hj, by rw [h]; rfl⟩) hm hF
  have h3 := wpTill_of_mix (P := P) (S := fun _ => True) (n := snk) hp.nosel hp.sink hQ _ l b W hd (.inl trivial) hm h2
  exact wpAny_le hlen (wpAny_of_till _ _ _ _ h3)
theorem par_sound {sz : Nat} {an : Nat → Bool} {tail : List (Nat × Nat)} {l0 : List Oper} [Inhabited α] (hp : ParS l0.toArray n sz dp an tail fl snk) (han : ∀ i, (ann i).isSome = an i)
    (hQ : ∀ c a d v w, Q (.panic c) (Act.put a d v) w → Q (.panic c) a w) {a0 : Act} (hsz : a0.tmps.size = sz)
    (hC : Can P l0.toArray (fun a W => wpMix P l0.toArray Q (fun _ => True) (pickO l0 tail) a W) w0 dp ann (l0.take n) 0 [] a0) :
    ∀ (f : Nat) (l : Array Bool) (b : Act) (W : World) (X : Nat → α) (V : Nat → Value), Deps .any l0.toArray l → (∀ j, n ≤ j → l.getD j false = false) → Ext w0 W →
      (∀ j A, j < n → l.getD j false = true → ann j = some A → A.R (X j) W) →
      (∀ i j A B, i < n → j < n → l.getD i false = true → l.getD j false = true → i ≠ j → ann i = some A → ann j = some B → ∀ b, A.f (X i) = some b → B.f (X j) ≠ some b) →
      Good P l0.toArray (fun a W => wpMix P l0.toArray Q (fun _ => True) (pickO l0 tail) a W) w0 dp ann X V (l0.take n) 0 a0 →
      FrS l0.toArray n a0 l V b → remN n l + tail.length ≤ f → wpAny P .any l0.toArray Q f l b W := by
  intro f
  induction f with
  | zero =>
    intro l b W X V hd hout hW hR hD hV hF hf
    have hr0 : remN n l = 0 := by omega
    have hall := remN_zero hr0
    exact par_fin hp han hQ hsz hd hout hW hR hD hV hF (fun j hj _ => hall j hj) hf
  | succ f ih =>
    intro l b W X V hd hout hW hR hD hV hF hf
    by_cases hr0 : ∀ j, j < n → fl.contains j = false → l.getD j false = true
    · exact par_fin hp han hQ hsz hd hout hW hR hD hV hF hr0 hf
    · have hund : ∃ j, j < n ∧ fl.contains j = false ∧ l.getD j false = false := by
        by_cases h : ∃ j, j < n ∧ fl.contains j = false ∧ l.getD j false = false
        · exact h
        · exfalso
          apply hr0
          intro j hj hfl
          cases hl : l.getD j false with
          | true => rfl
          | false => exact absurd ⟨j, hj, hfl, hl⟩ h
      refine ⟨fun hr => ?_, fun i hi => ?_⟩
      · exfalso
        obtain ⟨j0, hj0, _, hl0⟩ := hund
        have hmin : ∀ k, ∀ j, j ≤ k → j < n → l.getD j false = false → False := by
          intro k
          induction k using Nat.strongRecOn with
          | _ k ihk =>
            intro j hjk hj hl
            have hjs : j < l0.toArray.size := Nat.lt_of_lt_of_le hj hp.le
            have ho : l0.toArray[j]? = some l0.toArray[j] := Array.getElem?_eq_getElem hjs
            have hready : j ∈ Region.ready .any l0.toArray l := by
              rw [mem_ready]
              refine ⟨getD_tf (by rw [hd.size]; exact hjs) hl, _, ho, fun e he hb => ?_⟩
              have hlt := hp.lt j _ hj ho e he hb
              cases h : l.getD e.on false with
              | true => rfl
              | false => exact (ihk e.on (by omega) e.on (Nat.le_refl _) (by omega) h).elim
            rw [hr] at hready
            cases hready
        exact hmin j0 j0 (Nat.le_refl _) hj0 hl0
      · obtain ⟨hun, o, ho, hall⟩ := mem_ready.1 hi
        have his : i < l0.toArray.size := (Array.getElem?_eq_some_iff.1 ho).1
        have hclo := hp.closed hd i o ho hall
        have hin : i < n := by
          rcases Nat.lt_or_ge i n with h | h
          · exact h
          · exfalso
            obtain ⟨j, hj, hfl, hl⟩ := hund
            have := hclo j (hp.rest i j h his hj hfl)
            rw [hl] at this; cases this
        have hot : (l0.take n)[i]? = some o := by rw [List.getElem?_take_of_lt hin]; simpa using ho
        have fa := hV.at _ _ _ i _ hot
        rw [Nat.zero_add, List.take_take, Nat.min_eq_left (Nat.le_of_lt hin)] at fa
        have hlook := hF.look hp hsz hin ho hall
        obtain ⟨s1, s2⟩ := same_at (ops := l0.toArray) (fun cs b => Region.noSelect_spec hp.nosel i _ cs b ho) hlook
        have s1 : execOp (frL V (l0.take i) 0 a0).eval o = execOp b.eval o := s1
        have s2 : Region.wanted o (yielded l0.toArray (frL V (l0.take i) 0 a0).tmps) = Region.wanted o (yielded l0.toArray b.tmps) := s2
        have hout' : ∀ j, n ≤ j → (l.setIfInBounds i true).getD j false = false := fun j hj => by rw [getD_set_ne false (by omega)]; exact hout j hj
        have hrem := remN_step hin hun
        unfold wpOp
        rw [ho]
        simp only
        unfold FactAt at fa
        cases ha : ann i with
        | none =>
          rw [ha] at fa
          simp only at fa
          have hR' : ∀ W', Ext W W' → ∀ j A, j < n → (l.setIfInBounds i true).getD j false = true → ann j = some A → A.R (X j) W' := fun W' hW' j A hj hl haj => by
            by_cases e : j = i
            · subst e; rw [ha] at haj; cases haj
            · rw [getD_set_ne false (Ne.symm e)] at hl
              exact A.st _ _ _ (hR j A hj hl haj) hW'
          have hD' : ∀ i' j A B, i' < n → j < n → (l.setIfInBounds i true).getD i' false = true → (l.setIfInBounds i true).getD j false = true → i' ≠ j → ann i' = some A → ann j = some B → ∀ b, A.f (X i') = some b → B.f (X j) ≠ some b := fun i' j A B hi' hj hl1 hl2 hne h1 h2 => by
            have e1 : i' ≠ i := fun e => by subst e; rw [ha] at h1; cases h1
            have e2 : j ≠ i := fun e => by subst e; rw [ha] at h2; cases h2
            rw [getD_set_ne false (Ne.symm e1)] at hl1
            rw [getD_set_ne false (Ne.symm e2)] at hl2
            exact hD i' j A B hi' hj hl1 hl2 hne h1 h2
          cases hw : Region.wanted o (yielded l0.toArray b.tmps) with
          | true =>
            rw [if_pos rfl]
            refine .inl ?_
            have hr := fa.1 (by rw [s2]; exact hw) W hW (fun j A hj hdj haj => hR j A (by omega) (hclo j hdj) haj)
            rw [s1] at hr
            unfold Oper.wp
            rw [hr]
            exact ih _ _ _ X V (hd.step hi) hout' hW (hR' W (Upd.refl _ _)) hD' hV (hF.step hp hsz hin ho (fun _ _ _ => rfl)) (by omega)
          | false =>
            rw [if_neg (by simp)]
            have hv := fa.2 (by rw [s2]; exact hw)
            rw [← hv]
            exact ih _ _ _ X V (hd.step hi) hout' hW (hR' W (Upd.refl _ _)) hD' hV (hF.step hp hsz hin ho (fun _ _ _ => rfl)) (by omega)
        | some A =>
          rw [ha] at fa
          simp only at fa
          obtain ⟨hw, hVi, hm⟩ := fa
          rw [s2] at hw
          rw [if_pos hw]
          refine .inl ?_
          obtain ⟨d, hdd⟩ := hp.some_ i o hin ho (by rw [← han, ha]; rfl)
          have hds := hp.dst i o d hin ho hdd
          have hfs := frL_size V (l0.take i) 0 a0
          refine wp_transfer (K := fun a' W' => a'.defers = (frL V (l0.take i) 0 a0).defers ∧ ∃ x, a'.tmps[d]? = some (A.val x) ∧ Ext W W' ∧ A.R x W' ∧ ∀ k, A.f x = some k → W.heap.size ≤ k) s1 (fun v W' hK => ?_) (fun _ _ h => h.1) (hm W hW (fun j B hj hdj haj => hR j B (by omega) (hclo j hdj) haj) _ (fun x W' hE hRx hfr => ⟨put_defers' _ _ _, x, by rw [hdd]; exact put_eq _ _ _ (by rw [hfs.1, hsz]; exact hds), hE, hRx, hfr⟩))
          obtain ⟨_, x, hx, hE, hRx, hfr⟩ := hK
          rw [hdd, put_eq _ _ _ (by rw [hfs.1, hsz]; exact hds)] at hx
          have hvx : v = A.val x := Option.some.inj hx
          obtain ⟨V', hV'⟩ := good_of_can (fun j => if j = i then x else X j) _ _ _ _ hC (fun g hg => by cases hg) List.Pairwise.nil
          have hRW : ∀ j B, j < n → l.getD j false = true → ann j = some B → B.R (X j) W' := fun j B hj hl haj => B.st _ _ _ (hR j B hj hl haj) hE
          have hne : ∀ j, l.getD j false = true → j ≠ i := fun j hl e => by subst e; rw [getD_ff hun] at hl; cases hl
          have hsame := Good.same hp hd hsz hV hV' (fun j hj hl => if_neg (hne j hl)) (hW.ext hE) hRW
          have fa' := hV'.at _ _ _ i _ hot
          rw [Nat.zero_add] at fa'
          unfold FactAt at fa'
          rw [ha] at fa'
          simp only [if_true] at fa'
          rw [hvx, ← fa'.2.1]
          refine ih _ _ _ (fun j => if j = i then x else X j) V' (hd.step hi) hout' (hW.ext hE) (fun j B hj hl haj => ?_) (fun i' j A1 B hi' hj hl1 hl2 hnq h1 h2 b e1 e2 => ?_) hV' (hF.step hp hsz hin ho hsame) (by omega)
          · by_cases e : j = i
            · subst e
              rw [ha] at haj
              obtain rfl := Option.some.inj haj
              simp only [if_true]
              exact hRx
            rw [getD_set_ne false (Ne.symm e)] at hl
            simp only [if_neg e]
            exact hRW j B hj hl haj
          by_cases c1 : i' = i
          · subst c1
            have c2 : ¬ j = i' := fun e => hnq e.symm
            rw [ha] at h1
            obtain rfl := Option.some.inj h1
            simp only [if_true] at e1
            simp only [if_neg c2] at e2
            rw [getD_set_ne false (fun e => c2 e.symm)] at hl2
            have k1 := hfr b e1
            have k2 := B.lt _ _ b (hR j B hj hl2 h2) e2
            omega
          · by_cases c2 : j = i
            · subst c2
              rw [ha] at h2
              obtain rfl := Option.some.inj h2
              simp only [if_true] at e2
              simp only [if_neg c1] at e1
              rw [getD_set_ne false (fun e => c1 e.symm)] at hl1
              have k1 := hfr b e2
              have k2 := A1.lt _ _ b (hR i' A1 hi' hl1 h1) e1
              omega
            · simp only [if_neg c1] at e1
              simp only [if_neg c2] at e2
              rw [getD_set_ne false (fun e => c1 e.symm)] at hl1
              rw [getD_set_ne false (fun e => c2 e.symm)] at hl2
              exact hD i' j A1 B hi' hj hl1 hl2 hnq h1 h2 b e1 e2
/-- ONE WALK SERVES EVERY ORDER: the first n operations in the order of the text, each memory maker said by what it leaves; then the rest -/
theorem wp_region_parF {id : Nat} {a : Act} {w : World} {l0 : List Oper} [Inhabited α] (n : Nat) (fl : List Nat) (snk : Nat) (tail : List (Nat × Nat)) (dpl : List (List Nat)) (anl : List (Option (Ann α))) (anb : List Bool) (hm : P.follows .mixedOrders = true)
    (hB : parFB l0.toArray n a.tmps.size (fun i => dpl.getD i []) (fun i => anb.getD i false) fl snk tail = true) (han : anl.map (·.isSome) = anb)
    (hQ : ∀ c a d v w, Q (.panic c) (Act.put a d v) w → Q (.panic c) a w)
    (h : Can P l0.toArray (fun a W => wpMix P l0.toArray Q (fun _ => True) (pickO l0 tail) a W) w (fun i => dpl.getD i []) (fun i => anl.getD i none) (l0.take n) 0 [] a) : (Code.region id l0.toArray true).wp P Q a w := by
  have hp := parS_of hB
  refine wp_region_any hm ?_
  have hW : Ext w { w with drawn := w.drawn + 1 } := ⟨rfl, rfl, rfl, Nat.le_refl _, fun _ _ _ => rfl⟩
  obtain ⟨V, hV⟩ := good_of_can (fun _ => default) _ _ _ _ h (fun g hg => by cases hg) List.Pairwise.nil
  have hf : ∀ j, (Array.replicate l0.toArray.size false).getD j false = false := fun j => by
    rcases Nat.lt_or_ge j l0.length with h | h <;> simp [h]
  refine par_sound hp (fun i => ?_) hQ rfl h _ _ _ _ _ V Deps.start (fun j _ => hf j) hW (fun j A _ hl => by rw [hf] at hl; cases hl) (fun i j A B _ _ hl => by rw [hf] at hl; cases hl) hV FrS.start ?_
  · rw [← han]
    simp only [List.getD_eq_getElem?_getD, List.getElem?_map]
    cases anl[i]? <;> rfl
  · have h1 : remN n (Array.replicate l0.toArray.size false) ≤ n := by
      unfold remN
      exact Nat.le_trans (List.length_filter_le _ _) (by simp)
    have := hp.len
    omega
theorem can_pure {o : Oper} {r : List Oper} {i : Nat} {G : List Fct} {a : Act} (ha : ann i = none)
    (h : ∀ K : Act → Prop, (∀ a, Can P ops Qt w0 dp ann r (i + 1) G a → K a) → if Region.wanted o (yielded ops a.tmps) then ∃ v, (∀ W, Ext w0 W → (∀ g ∈ G, g.1 ∈ dp i → g.2.2 W) → (execOp a.eval o).run P W = .ok (.value v) W) ∧ K (a.put o.dst v) else K (a.put o.dst undef)) :
    Can P ops Qt w0 dp ann (o :: r) i G a := by
  unfold Can
  rw [ha]
  exact h _ (fun _ h => h)
theorem can_mem {o : Oper} {r : List Oper} {i : Nat} {G : List Fct} {a : Act} (A : Ann α) (ha : ann i = some A) (hw : Region.wanted o (yielded ops a.tmps) = true)
    (h1 : ∀ W, Ext w0 W → (∀ g ∈ G, g.1 ∈ dp i → g.2.2 W) → ∀ K : Act → World → Prop, (∀ x W', Ext W W' → A.R x W' → (∀ k, A.f x = some k → W.heap.size ≤ k) → K (a.put o.dst (A.val x)) W') → o.wp P a W K (fun _ _ _ => False))
    (h2 : ∀ K : Act → Prop, ∀ x, (∀ a, Can P ops Qt w0 dp ann r (i + 1) (G ++ [(i, A.f x, A.R x)]) a → K a) → K (a.put o.dst (A.val x))) :
    Can P ops Qt w0 dp ann (o :: r) i G a := by
  unfold Can
  rw [ha]
  exact ⟨hw, h1, fun x => h2 _ x (fun _ h => h)⟩
theorem can_end {i : Nat} {G : List Fct} {a : Act} (h : ∀ W, Ext w0 W → (∀ g ∈ G, g.2.2 W) → Apt G → Qt a W) : Can P ops Qt w0 dp ann [] i G a := h

/-- an operation that only computes, or reads what was there -/
theorem can_pure0 {o : Oper} {r : List Oper} {i : Nat} {G : List Fct} {a : Act} (ha : ann i = none)
    (h : ∀ K : Act → Prop, (∀ a, Can P ops Qt w0 dp ann r (i + 1) G a → K a) → if Region.wanted o (yielded ops a.tmps) then ∃ v, (∀ x : XW w0, (execOp a.eval o).run P x.val = .ok (.value v) x.val) ∧ K (a.put o.dst v) else K (a.put o.dst undef)) :
    Can P ops Qt w0 dp ann (o :: r) i G a := by
  refine can_pure ha fun K hK => ?_
  have h2 := h K hK
  by_cases hw : Region.wanted o (yielded ops a.tmps) = true
  · rw [if_pos hw] at h2 ⊢
    obtain ⟨v, hv, h3⟩ := h2
    exact ⟨v, fun W hW _ => hv ⟨W, hW⟩, h3⟩
  · rw [if_neg hw] at h2 ⊢; exact h2
end
end Go.Hw.PF

/- The examples. -/
namespace Go.Proofs.YtiimccogojkldaaGreatDoor
open Go.RowKit Go.Hw Go
set_option linter.unusedVariables false
set_option linter.unusedSimpArgs false

open Tm
abbrev eN : Tm := .mk ⟨#[78]⟩ ⟨#[110, 97, 116]⟩ []
abbrev eM : Tm := .mk ⟨#[77]⟩ ⟨#[110, 97, 116]⟩ []
abbrev eS : Tm := .mk ⟨#[115]⟩ nul [eN]
abbrev eP : Tm := .mk ⟨#[112, 108, 117, 115]⟩ nul [eN, eM]
abbrev eL : Tm := .mk ⟨#[112, 108, 117, 115]⟩ nul [eS, eM]
abbrev eR : Tm := .mk ⟨#[115]⟩ nul [eP]
theorem pk_last {G : List PF.Fct} {x : PF.Fct} {W : World} (h : ∀ g ∈ G ++ [x], g.2.2 W) : x.2.2 W := h x (List.mem_append_right _ (List.mem_singleton.2 rfl))
theorem pk_init {G : List PF.Fct} {x : PF.Fct} {W : World} (h : ∀ g ∈ G ++ [x], g.2.2 W) : ∀ g ∈ G, g.2.2 W := fun g hg => h g (List.mem_append_left _ hg)
theorem apt_two {G : List PF.Fct} {x y : PF.Fct} (h : PF.Apt ((G ++ [x]) ++ [y])) : ∀ k, x.2.1 = some k → y.2.1 ≠ some k := (List.pairwise_append.1 h).2.2 x (List.mem_append_right _ (List.mem_singleton.2 rfl)) y (List.mem_singleton.2 rfl)
theorem set3_heap {W : World} {z : Nat} {t : TypeId} {v0 v1 v2 : Value} (h : W.heap[z]? = some (.cells #[v0, v1, v2] t (0, 0))) (u0 u1 u2 : Value) : (((W.setCell ⟨z, 0, none⟩ u0).setCell ⟨z, 1, none⟩ u1).setCell ⟨z, 2, none⟩ u2).heap[z]? = some (.cells #[u0, u1, u2] t (0, 0)) := by
  have := setBlock (setBlock (setBlock h 0 u0) 1 u1) 2 u2
  simpa using this
theorem set3_upd (W : World) (z : Nat) (u0 u1 u2 : Value) : Upd (fun k => k = z) W (((W.setCell ⟨z, 0, none⟩ u0).setCell ⟨z, 1, none⟩ u1).setCell ⟨z, 2, none⟩ u2) :=
  (((Upd.refl (fun k => k = z) W).setCell (p := ⟨z, 0, none⟩) (.inl rfl) u0).setCell (p := ⟨z, 1, none⟩) (.inl rfl) u1).setCell (p := ⟨z, 2, none⟩) (.inl rfl) u2
abbrev tIM : By := ⟨#[116, 105, 109, 101, 115]⟩
abbrev zER : By := ⟨#[122, 101, 114, 111]⟩
abbrev pLU : By := ⟨#[112, 108, 117, 115]⟩
abbrev sSS : By := ⟨#[115]⟩
theorem gr1 : grF [tIM, pLU, sSS, zER] eL eR = (true, 0) := by decide +kernel
theorem gr2 : grF [sSS, pLU] eL eR = (false, 0) := by decide +kernel
theorem fi1 : findF [(eL, eR)] = ([pLU, sSS], 0) := by decide +kernel
theorem eqs_x (l m : List By) (v u : Value) (S T : Nat → Prop) (w : World) (hv : StR S w v l) (hu : StR T w u m) (hl : l.length ≤ 1000000) (hm : m.length ≤ 1000000) :
    Calls Tryz.prog 21 #[v, u] w fun e w' => e = .returned (.bool (decide (l = m))) ∧ Ext w w' := by
  obtain ⟨va, vc, rfl⟩ := SlR.shape hv
  obtain ⟨ua, uc, rfl⟩ := SlR.shape hu
  by_cases hne : l.length = m.length
  · by_cases h0 : 0 < l.length
    · obtain ⟨g, off, hga, _, hat⟩ := SlR.one_at (d := nul) hv h0
      obtain ⟨g2, off2, hga2, _, hat2⟩ := SlR.one_at (d := nul) hu (by omega)
      subst hga
      subst hga2
      refine (Tryz.slices_Equal_string g off l.length vc g2 off2 m.length uc l m w (Nat.le_refl _) (Nat.le_refl _) (by omega) (by omega) (fun j hj => hat j hj) (fun j hj => hat2 j hj)).mono ?_
      rintro e w' ⟨rfl, q, rfl⟩
      rw [List.take_length, List.take_length]
      exact ⟨rfl, (Upd.refl _ w).drewN' q⟩
    · have hl0 : l = [] := List.eq_nil_of_length_eq_zero (by omega)
      have hm0 : m = [] := List.eq_nil_of_length_eq_zero (by omega)
      subst hl0
      subst hm0
      refine (Tryz.slices_Equal_string_empty va ua vc 0 uc w (by omega)).mono ?_
      rintro e w' ⟨rfl, rfl⟩
      exact ⟨rfl, Upd.refl _ _⟩
  · refine (Tryz.slices_Equal_string_lens va ua l.length vc m.length uc w hne).mono ?_
    rintro e w' ⟨rfl, rfl⟩
    rw [decide_eq_false (fun e => hne (by rw [e]))]
    exact ⟨rfl, Upd.refl _ _⟩
theorem pair_tl6 {S : Nat → Prop} {W : World} {n : Nat} {a b : Tm} {ua ub : Value} {t : TypeId} (h : W.heap[n]? = some (.cells #[.string a.name, .string a.sort, ua, .string b.name, .string b.sort, ub] t (0, 0))) (hn : S n) (ha : TlR S W a.kids ua) (hb : TlR S W b.kids ub) : TlR S W [a, b] (.slice (some ⟨n, 0, none⟩) 2 2) := by
  refine .mk _ [ua, ub] _ rfl ?_ (fun i hi => ?_)
  · refine SlR.mk' rfl rfl (Nat.le_refl _) (fun _ => hn) (fun j hj => ?_)
    have hj6 : j < 6 := hj
    rw [Nat.zero_add, cell_of_row W n j _ _ _ h]
    have : j = 0 ∨ j = 1 ∨ j = 2 ∨ j = 3 ∨ j = 4 ∨ j = 5 := by omega
    rcases this with rfl | rfl | rfl | rfl | rfl | rfl <;> rfl
  · have : i = 0 ∨ i = 1 := by simp at hi; omega
    rcases this with rfl | rfl
    · exact ha
    · exact hb
theorem lit_str (W : World) (l : List By) (hl : l.length ≤ 1000) : StR (fun k => k < (W.alloc (.cells (l.map Value.string).toArray 9)).heap.size) (W.alloc (.cells (l.map Value.string).toArray 9)) (.slice (some ⟨W.heap.size, 0, none⟩) l.length l.length) l := by
  have h := World.ownsRow_lit (base := W.heap.size) (e := 9) (size := 1) W (l.map Value.string).toArray l.length (Nat.le_refl _) (by unfold maxLen; omega) (by simp)
  exact (SlR.of_own h).weaken (fun k hk => by injection hk with hk; rw [← hk]; simp)
theorem op_x (nm : By) (a : Option Addr) (n c : Nat) (w : World) : Calls Tryz.prog 35 #[.string nm, .slice a n c] w fun e w' => e = .returned (.agg #[.string nm, .string ⟨#[]⟩, .slice a n c]) ∧ Ext w w' := by
  go_enter Tryz.func35, Tryz.ntmps35
  go_wp2_with fail
  have hb := alloc0 w (.cells #[.string nm, .string ⟨#[]⟩, .slice a n c] 25)
  have e0 := cellRow hb 0 (.string nm) rfl
  have e1 := cellRow hb 1 (.string ⟨#[]⟩) rfl
  have e2 := cellRow hb 2 (.slice a n c) rfl
  first
    | exact bodyPost_ret (v := .agg #[.string nm, .string ⟨#[]⟩, .slice a n c]) (by simp [results, Tryz.results35, go_sem, e0, e1, e2]) rfl ⟨rfl, (Upd.refl _ w).alloc _⟩
    | exact bodyPost_ret (v := .agg #[.string nm, .string ⟨#[]⟩, .slice a n c]) (by simp [results, Tryz.results35, go_sem]) rfl ⟨rfl, ((((Upd.refl (fun _ => False) w).alloc _).setNew (Nat.le_refl _) _).setNew (Nat.le_refl _) _).setNew (Nat.le_refl _) _⟩
/-- not a box that has just been made -/
def NZ (W : World) (k : Nat) : Prop := ∃ o, W.heap[k]? = some o ∧ o ≠ (.cells #[.string ⟨#[]⟩, .string ⟨#[]⟩, .slice none 0 0] 25 (0, 0))
/-- a list of terms in new memory -/
def LsR (base : Nat) (L : List Tm) (n x : Nat) (W : World) : Prop := base ≤ x ∧ x < W.heap.size ∧ TlR (fun k => base ≤ k ∧ NZ W k) W L (.slice (some ⟨x, 0, none⟩) n n)
theorem LsR.ext {base n x : Nat} {L : List Tm} {W W' : World} (h : LsR base L n x W) (hE : Ext W W') : LsR base L n x W' :=
  ⟨h.1, Nat.lt_of_lt_of_le h.2.1 hE.size, (h.2.2.ext hE).weaken (fun k hk => ⟨hk.1, by obtain ⟨o, h1, h2⟩ := hk.2; exact ⟨o, hE.heap h1 (fun h => h), h2⟩⟩)⟩
def annS (base : Nat) (L : List Tm) (n : Nat) : PF.Ann Nat := ⟨fun x => .slice (some ⟨x, 0, none⟩) n n, fun x W => LsR base L n x W, fun x W W' h hE => h.ext hE, fun x => some x, fun x W k h e => by injection e with e; rw [← e]; exact h.2.1⟩
def annC (base : Nat) (L : List Tm) (n : Nat) (nm : By) : PF.Ann Nat := ⟨fun x => .agg #[.string nm, .string ⟨#[]⟩, .slice (some ⟨x, 0, none⟩) n n], fun x W => LsR base L n x W, fun x W W' h hE => h.ext hE, fun _ => none, fun x W k h e => by cases e⟩
def annZ (base : Nat) : PF.Ann Nat := ⟨fun x => .pointer (some ⟨x, 0, none⟩), fun x W => base ≤ x ∧ W.heap[x]? = some (.cells #[.string ⟨#[]⟩, .string ⟨#[]⟩, .slice none 0 0] 25 (0, 0)), fun x W W' h hE => ⟨h.1, hE.heap h.2 (fun h => h)⟩, fun x => some x, fun x W k h e => by injection e with e; rw [← e]; exact (Array.getElem?_eq_some_iff.1 h.2).1⟩
theorem LsR.one {base : Nat} {W : World} {t : Tm} {u : Value} (hb : base ≤ W.heap.size) (ht : TlR (fun k => base ≤ k ∧ NZ W k) W t.kids u) (hz : t.name ≠ ⟨#[]⟩) : LsR base [t] 1 W.heap.size (W.alloc (.cells #[.string t.name, .string t.sort, u] 25)) := by
  have hA := (Upd.refl (fun _ => False) W).alloc (.cells #[.string t.name, .string t.sort, u] 25)
  have h0 := alloc0 W (.cells #[.string t.name, .string t.sort, u] 25)
  refine ⟨hb, by simp, .mk _ [u] _ rfl ?_ (fun i hi => ?_)⟩
  · refine SlR.mk' rfl rfl (Nat.le_refl _) (fun _ => ⟨hb, _, h0, fun e => ?_⟩) (fun j hj => ?_)
    · injection e with e
      have := congrArg (fun a : Array Value => a[0]?) e
      simp at this
      exact hz this
    · have hj3 : j < 3 := hj
      rw [Nat.zero_add, cell_of_row _ _ j _ _ _ h0]
      have : j = 0 ∨ j = 1 ∨ j = 2 := by omega
      rcases this with rfl | rfl | rfl <;> rfl
  · obtain rfl : i = 0 := by simpa using hi
    exact (ht.ext hA).weaken (fun k hk => ⟨hk.1, by obtain ⟨o, h1, h2⟩ := hk.2; exact ⟨o, hA.heap h1 (fun h => h), h2⟩⟩)
theorem LsR.two {base : Nat} {W : World} {s t : Tm} {u v : Value} (hb : base ≤ W.heap.size) (hs : TlR (fun k => base ≤ k ∧ NZ W k) W s.kids u) (ht : TlR (fun k => base ≤ k ∧ NZ W k) W t.kids v) (hz : s.name ≠ ⟨#[]⟩) : LsR base [s, t] 2 W.heap.size (W.alloc (.cells #[.string s.name, .string s.sort, u, .string t.name, .string t.sort, v] 25)) := by
  have hA := (Upd.refl (fun _ => False) W).alloc (.cells #[.string s.name, .string s.sort, u, .string t.name, .string t.sort, v] 25)
  have h0 := alloc0 W (.cells #[.string s.name, .string s.sort, u, .string t.name, .string t.sort, v] 25)
  have hw : ∀ k, (base ≤ k ∧ NZ W k) → base ≤ k ∧ NZ (W.alloc (.cells #[.string s.name, .string s.sort, u, .string t.name, .string t.sort, v] 25)) k := fun k hk => ⟨hk.1, by obtain ⟨o, h1, h2⟩ := hk.2; exact ⟨o, hA.heap h1 (fun h => h), h2⟩⟩
  refine ⟨hb, by simp, pair_tl h0 ⟨hb, _, h0, fun e => ?_⟩ ((hs.ext hA).weaken hw) ((ht.ext hA).weaken hw)⟩
  injection e with e
  have := congrArg Array.size e
  simp at this
set_option maxRecDepth 100000 in
set_option maxHeartbeats 2000000 in
theorem awake_x (w : World) (htab : AscT w) (hpow : Lib.TabIs Tryz.prog w "internal/strconv.uint64pow10" .u64 Lib.pow10Tab) : Calls Tryz.prog 9 #[] w fun e w' => e = .returned (.bool true) ∧ Ext w w' := by
  have HTAB := Lib.hid htab
  have HPW := Lib.hid hpow
  have HZ : Hid (Ext w ((w.alloc (.cells #[.string ⟨#[78]⟩, .string ⟨#[110, 97, 116]⟩, .slice none 0 0] 25)).alloc (.cells #[.string ⟨#[77]⟩, .string ⟨#[110, 97, 116]⟩, .slice none 0 0] 25))) := Lib.hid (((Upd.refl (fun _ => False) w).alloc _).alloc _)
  have hbn : ((w.alloc (.cells #[.string ⟨#[78]⟩, .string ⟨#[110, 97, 116]⟩, .slice none 0 0] 25)).alloc (.cells #[.string ⟨#[77]⟩, .string ⟨#[110, 97, 116]⟩, .slice none 0 0] 25)).heap[w.heap.size]? = some (.cells #[.string ⟨#[78]⟩, .string ⟨#[110, 97, 116]⟩, .slice none 0 0] 25 (0, 0)) := allocOld (alloc0 w (.cells #[.string ⟨#[78]⟩, .string ⟨#[110, 97, 116]⟩, .slice none 0 0] 25)) (.cells #[.string ⟨#[77]⟩, .string ⟨#[110, 97, 116]⟩, .slice none 0 0] 25)
  have hbm : ((w.alloc (.cells #[.string ⟨#[78]⟩, .string ⟨#[110, 97, 116]⟩, .slice none 0 0] 25)).alloc (.cells #[.string ⟨#[77]⟩, .string ⟨#[110, 97, 116]⟩, .slice none 0 0] 25)).heap[w.heap.size + 1]? = some (.cells #[.string ⟨#[77]⟩, .string ⟨#[110, 97, 116]⟩, .slice none 0 0] 25 (0, 0)) := alloc_at (w.alloc (.cells #[.string ⟨#[78]⟩, .string ⟨#[110, 97, 116]⟩, .slice none 0 0] 25)) (.cells #[.string ⟨#[77]⟩, .string ⟨#[110, 97, 116]⟩, .slice none 0 0] 25) (n := w.heap.size + 1) (by simp)
  clear htab hpow
  go_enter Tryz.func9, Tryz.ntmps9
  go_wp2_with fail
  generalize hw3 : ((w.alloc (.cells #[.string ⟨#[78]⟩, .string ⟨#[110, 97, 116]⟩, .slice none 0 0] 25)).alloc (.cells #[.string ⟨#[77]⟩, .string ⟨#[110, 97, 116]⟩, .slice none 0 0] 25)) = w3 at *
  clear hw3
  have n0 := cellRow hbn 0 (.string ⟨#[78]⟩) rfl
  have n1 := cellRow hbn 1 (.string ⟨#[110, 97, 116]⟩) rfl
  have n2 := cellRow hbn 2 (.slice none 0 0) rfl
  have m0 := cellRow hbm 0 (.string ⟨#[77]⟩) rfl
  have m1 := cellRow hbm 1 (.string ⟨#[110, 97, 116]⟩) rfl
  have m2 := cellRow hbm 2 (.slice none 0 0) rfl
  have x0 := fun x : XW w3 => x.ext.cell n0 (fun h => h)
  have x1 := fun x : XW w3 => x.ext.cell n1 (fun h => h)
  have x2 := fun x : XW w3 => x.ext.cell n2 (fun h => h)
  have y0 := fun x : XW w3 => x.ext.cell m0 (fun h => h)
  have y1 := fun x : XW w3 => x.ext.cell m1 (fun h => h)
  have y2 := fun x : XW w3 => x.ext.cell m2 (fun h => h)
  have HBN := Lib.hid hbn
  have HBM := Lib.hid hbm
  clear n0 n1 n2 m0 m1 m2 hbn hbm
  go_cut [3, 4] (fun p3 p4 ww => ∃ z3 z4 a5 a11 : Nat, p3 = .pointer (some ⟨z3, 0, none⟩) ∧ p4 = .pointer (some ⟨z4, 0, none⟩) ∧ Hid (w3.heap.size ≤ z3 ∧ w3.heap.size ≤ z4) ∧ Hid (Ext w3 ww) ∧ Hid (ww.heap[z3]? = some (.cells #[.string ⟨#[112, 108, 117, 115]⟩, .string ⟨#[]⟩, .slice (some ⟨a5, 0, none⟩) 2 2] 25 (0, 0))) ∧ Hid (ww.heap[z4]? = some (.cells #[.string ⟨#[115]⟩, .string ⟨#[]⟩, .slice (some ⟨a11, 0, none⟩) 1 1] 25 (0, 0))) ∧ Hid (TlR (fun k => k < ww.heap.size) ww [eS, eM] (.slice (some ⟨a5, 0, none⟩) 2 2)) ∧ Hid (TlR (fun k => k < ww.heap.size) ww [eP] (.slice (some ⟨a11, 0, none⟩) 1 1)))
  case first =>
    refine PF.wp_region_parF (α := Nat) 14 [] 14 [(14, 2), (15, 2)] [[], [0], [0, 1], [], [0, 1, 2, 3], [0, 1, 2, 3, 4], [], [], [6, 7], [0, 1, 2, 3, 4, 5, 6, 7, 8], [0, 1, 2, 3, 4, 5, 6, 7, 8, 9], [0, 1, 2, 3, 4, 5, 6, 7, 8, 9, 10], [], [], [0, 1, 2, 3, 4, 5, 6, 7, 8, 9, 10, 11, 12, 13], [0, 1, 2, 3, 4, 5, 6, 7, 8, 9, 10, 11, 12, 13, 14]]
      [none, some (annS w3.heap.size [eN] 1), some (annC w3.heap.size [eN] 1 ⟨#[115]⟩), none, some (annS w3.heap.size [eS, eM] 2), some (annC w3.heap.size [eS, eM] 2 ⟨#[112, 108, 117, 115]⟩), none, none, some (annS w3.heap.size [eN, eM] 2), some (annC w3.heap.size [eN, eM] 2 ⟨#[112, 108, 117, 115]⟩), some (annS w3.heap.size [eP] 1), some (annC w3.heap.size [eP] 1 ⟨#[115]⟩), some (annZ w3.heap.size), some (annZ w3.heap.size)]
      [false, true, true, false, true, true, false, false, true, true, true, true, true, true] (by kernel_rfl) (by kernel_rfl) rfl (fun _ _ d _ _ h => by cases d <;> exact h) ?_
    simp only [List.take_succ_cons, List.take_zero, pickO, List.getElem?_cons_zero, List.getElem?_cons_succ]
    refine PF.can_pure0 rfl (fun K hK => ?_); go_simp; refine hK _ ?_; clear hK K
    refine PF.can_mem _ rfl (by go_simp) (fun W hW hG K hK => ?_) (fun K z1 hK => ?_)
    · go_simp
      exact hK W.heap.size _ ((Upd.refl (fun _ => False) W).alloc _) (LsR.one (t := eN) hW.size (TlR.nil _ _) (by decide)) (fun k e => by injection e with e; omega)
    refine hK _ ?_; clear hK K
    dsimp only [annS, annC, annZ]
    refine PF.can_mem _ rfl (by go_simp) (fun W hW hG K hK => ?_) (fun K z2 hK => ?_)
    · have g := hG _ (List.mem_append_right _ (List.mem_singleton.2 rfl)) (by show (1 : Nat) ∈ _; decide)
      go_simp
      refine (op_x ⟨#[115]⟩ _ 1 1 W).mono ?_
      rintro e w' ⟨rfl, hE⟩
      exact hK z1 _ hE (LsR.ext g hE) (fun k e => by cases e)
    refine hK _ ?_; clear hK K
    dsimp only [annS, annC, annZ]
    refine PF.can_pure0 rfl (fun K hK => ?_); go_simp; refine hK _ ?_; clear hK K
    refine PF.can_mem _ rfl (by go_simp) (fun W hW hG K hK => ?_) (fun K z4 hK => ?_)
    · have g := hG _ (List.mem_append_right _ (List.mem_singleton.2 rfl)) (by show (2 : Nat) ∈ _; decide)
      go_simp
      exact hK W.heap.size _ ((Upd.refl (fun _ => False) W).alloc _) (LsR.two (s := eS) (t := eM) hW.size g.2.2 (TlR.nil _ _) (by decide)) (fun k e => by injection e with e; omega)
    refine hK _ ?_; clear hK K
    dsimp only [annS, annC, annZ]
    refine PF.can_mem _ rfl (by go_simp) (fun W hW hG K hK => ?_) (fun K z5 hK => ?_)
    · have g := hG _ (List.mem_append_right _ (List.mem_singleton.2 rfl)) (by show (4 : Nat) ∈ _; decide)
      go_simp
      refine (op_x ⟨#[112, 108, 117, 115]⟩ _ 2 2 W).mono ?_
      rintro e w' ⟨rfl, hE⟩
      exact hK z4 _ hE (LsR.ext g hE) (fun k e => by cases e)
    refine hK _ ?_; clear hK K
    dsimp only [annS, annC, annZ]
    refine PF.can_pure0 rfl (fun K hK => ?_); go_simp; refine hK _ ?_; clear hK K
    refine PF.can_pure0 rfl (fun K hK => ?_); go_simp; refine hK _ ?_; clear hK K
    refine PF.can_mem _ rfl (by go_simp) (fun W hW hG K hK => ?_) (fun K z8 hK => ?_)
    · go_simp
      exact hK W.heap.size _ ((Upd.refl (fun _ => False) W).alloc _) (LsR.two (s := eN) (t := eM) hW.size (TlR.nil _ _) (TlR.nil _ _) (by decide)) (fun k e => by injection e with e; omega)
    refine hK _ ?_; clear hK K
    dsimp only [annS, annC, annZ]
    refine PF.can_mem _ rfl (by go_simp) (fun W hW hG K hK => ?_) (fun K z9 hK => ?_)
    · have g := hG _ (List.mem_append_right _ (List.mem_singleton.2 rfl)) (by show (8 : Nat) ∈ _; decide)
      go_simp
      refine (op_x ⟨#[112, 108, 117, 115]⟩ _ 2 2 W).mono ?_
      rintro e w' ⟨rfl, hE⟩
      exact hK z8 _ hE (LsR.ext g hE) (fun k e => by cases e)
    refine hK _ ?_; clear hK K
    dsimp only [annS, annC, annZ]
    refine PF.can_mem _ rfl (by go_simp) (fun W hW hG K hK => ?_) (fun K z10 hK => ?_)
    · have g := hG _ (List.mem_append_right _ (List.mem_singleton.2 rfl)) (by show (9 : Nat) ∈ _; decide)
      go_simp
      exact hK W.heap.size _ ((Upd.refl (fun _ => False) W).alloc _) (LsR.one (t := eP) hW.size g.2.2 (by decide)) (fun k e => by injection e with e; omega)
    refine hK _ ?_; clear hK K
    dsimp only [annS, annC, annZ]
    refine PF.can_mem _ rfl (by go_simp) (fun W hW hG K hK => ?_) (fun K z11 hK => ?_)
    · have g := hG _ (List.mem_append_right _ (List.mem_singleton.2 rfl)) (by show (10 : Nat) ∈ _; decide)
      go_simp
      refine (op_x ⟨#[115]⟩ _ 1 1 W).mono ?_
      rintro e w' ⟨rfl, hE⟩
      exact hK z10 _ hE (LsR.ext g hE) (fun k e => by cases e)
    refine hK _ ?_; clear hK K
    dsimp only [annS, annC, annZ]
    refine PF.can_mem _ rfl (by go_simp) (fun W hW hG K hK => ?_) (fun K z12 hK => ?_)
    · go_simp
      exact hK W.heap.size _ ((Upd.refl (fun _ => False) W).alloc _) (⟨hW.size, alloc0 _ _⟩) (fun k e => by injection e with e; omega)
    refine hK _ ?_; clear hK K
    dsimp only [annS, annC, annZ]
    refine PF.can_mem _ rfl (by go_simp) (fun W hW hG K hK => ?_) (fun K z13 hK => ?_)
    · go_simp
      exact hK W.heap.size _ ((Upd.refl (fun _ => False) W).alloc _) (⟨hW.size, alloc0 _ _⟩) (fun k e => by injection e with e; omega)
    refine hK _ ?_; clear hK K
    dsimp only [annS, annC, annZ]
    unfold PF.Can
    intro w8 hW hG hAp
    have g13 := pk_last hG
    have hG := pk_init hG
    have g12 := pk_last hG
    have hG := pk_init hG
    have g11 := pk_last hG
    have hG := pk_init (pk_init (pk_init (pk_init hG)))
    have g5 := pk_last hG
    have hap := apt_two hAp
    clear hG hAp
    dsimp only [annS, annC, annZ] at g5 g11 g12 g13 hap
    have hne : z12 ≠ z13 := fun e => hap z12 rfl (by rw [e])
    have hne2 : ¬ z13 = z12 := fun e => hne e.symm
    have G5 := Lib.hid g5
    have G11 := Lib.hid g11
    have G12 := Lib.hid g12
    have G13 := Lib.hid g13
    have HW := Lib.hid hW
    have k0 := cellRow g12.2 0 (.string ⟨#[]⟩) rfl
    have k1 := cellRow g12.2 1 (.string ⟨#[]⟩) rfl
    have k2 := cellRow g12.2 2 (.slice none 0 0) rfl
    have l0 := cellRow g13.2 0 (.string ⟨#[]⟩) rfl
    have l1 := cellRow g13.2 1 (.string ⟨#[]⟩) rfl
    have l2 := cellRow g13.2 2 (.slice none 0 0) rfl
    have fk := fun i => frozenRow g12.2 i
    have fl := fun i => frozenRow g13.2 i
    clear g5 g11 g12 g13 hap hW
    refine mix_two ?_; intro K hK; go_simp; refine hK _ _ ?_; clear hK K
    refine mix_two ?_; intro K hK; go_simp; refine hK _ _ ?_; clear hK K
    simp only [wpMix]
    go_wp2_with fail
    go_meet
    case rel =>
      have hB12 := set3_heap G12.out.2 (.string ⟨#[112, 108, 117, 115]⟩) (.string ⟨#[]⟩) (.slice (some ⟨z5, 0, none⟩) 2 2)
      have hU12 := set3_upd w8 z12 (.string ⟨#[112, 108, 117, 115]⟩) (.string ⟨#[]⟩) (.slice (some ⟨z5, 0, none⟩) 2 2)
      generalize ((w8.setCell ⟨z12, 0, none⟩ (.string ⟨#[112, 108, 117, 115]⟩)).setCell ⟨z12, 1, none⟩ (.string ⟨#[]⟩)).setCell ⟨z12, 2, none⟩ (.slice (some ⟨z5, 0, none⟩) 2 2) = w9 at *
      have hB13 := set3_heap (hU12.heap G13.out.2 hne2) (.string ⟨#[115]⟩) (.string ⟨#[]⟩) (.slice (some ⟨z11, 0, none⟩) 1 1)
      have hU13 := set3_upd w9 z13 (.string ⟨#[115]⟩) (.string ⟨#[]⟩) (.slice (some ⟨z11, 0, none⟩) 1 1)
      generalize ((w9.setCell ⟨z13, 0, none⟩ (.string ⟨#[115]⟩)).setCell ⟨z13, 1, none⟩ (.string ⟨#[]⟩)).setCell ⟨z13, 2, none⟩ (.slice (some ⟨z11, 0, none⟩) 1 1) = wA at *
      have hU : Upd (fun k => k = z12 ∨ k = z13) w8 wA := (hU12.mono (fun _ _ h => .inl h)).trans (hU13.mono (fun _ _ h => .inr h))
      have hNZ : ∀ k, (w3.heap.size ≤ k ∧ NZ w8 k) → ¬ (k = z12 ∨ k = z13) := by
        rintro k ⟨_, o, h1, h2⟩ h3
        rcases h3 with rfl | rfl
        · rw [G12.out.2] at h1; injection h1 with h1; exact h2 h1.symm
        · rw [G13.out.2] at h1; injection h1 with h1; exact h2 h1.symm
      have hLT : ∀ k, (w3.heap.size ≤ k ∧ NZ w8 k) → k < wA.heap.size := by
        rintro k ⟨_, o, h1, _⟩
        exact Nat.lt_of_lt_of_le (Array.getElem?_eq_some_iff.1 h1).1 hU.size
      refine ⟨z12, z13, z5, z11, rfl, rfl, Lib.hid ⟨G12.out.1, G13.out.1⟩, Lib.hid (HW.out.trans' hU (fun j hj h => ?_)), Lib.hid (hU13.heap hB12 hne), Lib.hid hB13, Lib.hid ((G5.out.2.2.kept hU hNZ).weaken hLT), Lib.hid ((G11.out.2.2.kept hU hNZ).weaken hLT)⟩
      have h1 := G12.out.1
      have h2 := G13.out.1
      omega
  case rest =>
    obtain ⟨z3, z4, a5, a11, rfl, rfl, HB0, HE0, HL0, HR0, HT0, HU0⟩ := hcut
    have HEW : Hid (Ext w wc) := Lib.hid (HZ.out.trans HE0.out)
    clear HB0 HE0 HZ HBN HBM x0 x1 x2 y0 y1 y2
    have HA : Hid (∀ W, Ext wc W → TmR (fun k => k < W.heap.size) W eL (tV eL (.slice (some ⟨a5, 0, none⟩) 2 2))) := Lib.hid (fun W hW => ⟨some ⟨a5, 0, none⟩, 2, rfl, (HT0.out.ext hW).weaken (fun k hk => Nat.lt_of_lt_of_le hk hW.size)⟩)
    have HB : Hid (∀ W, Ext wc W → TmR (fun k => k < W.heap.size) W eR (tV eR (.slice (some ⟨a11, 0, none⟩) 1 1))) := Lib.hid (fun W hW => ⟨some ⟨a11, 0, none⟩, 1, rfl, (HU0.out.ext hW).weaken (fun k hk => Nat.lt_of_lt_of_le hk hW.size)⟩)
    have HG : Hid (∀ (l : List By) (W : World), Ext wc W → l.length ≤ 1000 → Calls Tryz.prog 12 #[.slice (some ⟨W.heap.size, 0, none⟩) l.length l.length, tV eL (.slice (some ⟨a5, 0, none⟩) 2 2), tV eR (.slice (some ⟨a11, 0, none⟩) 1 1)] (W.alloc (.cells (l.map Value.string).toArray 9)) fun e w' => e = .returned (.tuple #[.bool (grF l eL eR).1, .int .i64 (grF l eL eR).2]) ∧ Ext (W.alloc (.cells (l.map Value.string).toArray 9)) w') := Lib.hid (fun l W hW hl =>
      pgreater_x l eL eR _ _ _ _ _ (asc_ext HTAB.out ((HEW.out.trans hW).alloc _)) (pow_upd HPW.out ((HEW.out.trans hW).alloc _) (fun _ _ h => h)) (lit_str W l hl) (HA.out _ (hW.alloc _)) (HB.out _ (hW.alloc _)) (fun k h => h) (by omega) (by decide) (by decide))
    have HG1 : Hid (Calls Tryz.prog 12 #[.slice (some ⟨wc.heap.size, 0, none⟩) 4 4, tV eL (.slice (some ⟨a5, 0, none⟩) 2 2), tV eR (.slice (some ⟨a11, 0, none⟩) 1 1)] (wc.alloc (.cells #[.string ⟨#[116, 105, 109, 101, 115]⟩, .string ⟨#[112, 108, 117, 115]⟩, .string ⟨#[115]⟩, .string ⟨#[122, 101, 114, 111]⟩] 9)) fun e w' => e = .returned (.tuple #[.bool true, .int .i64 0]) ∧ Ext (wc.alloc (.cells #[.string ⟨#[116, 105, 109, 101, 115]⟩, .string ⟨#[112, 108, 117, 115]⟩, .string ⟨#[115]⟩, .string ⟨#[122, 101, 114, 111]⟩] 9)) w') := Lib.hid (by
      have h := HG.out [tIM, pLU, sSS, zER] wc (Upd.refl _ _) (by decide)
      rw [gr1] at h
      exact h)
    have c0 := allocOld HL0.out (.cells #[.string ⟨#[116, 105, 109, 101, 115]⟩, .string ⟨#[112, 108, 117, 115]⟩, .string ⟨#[115]⟩, .string ⟨#[122, 101, 114, 111]⟩] 9)
    have c1 := allocOld HR0.out (.cells #[.string ⟨#[116, 105, 109, 101, 115]⟩, .string ⟨#[112, 108, 117, 115]⟩, .string ⟨#[115]⟩, .string ⟨#[122, 101, 114, 111]⟩] 9)
    have k0 := cellRow c0 0 (.string ⟨#[112, 108, 117, 115]⟩) rfl
    have l0 := cellRow c1 0 (.string ⟨#[115]⟩) rfl
    have k1 := cellRow c0 1 (.string ⟨#[]⟩) rfl
    have l1 := cellRow c1 1 (.string ⟨#[]⟩) rfl
    have k2 := cellRow c0 2 (.slice (some ⟨a5, 0, none⟩) 2 2) rfl
    have l2 := cellRow c1 2 (.slice (some ⟨a11, 0, none⟩) 1 1) rfl
    dsimp only [tV, Tm.name, Tm.sort, Tm.kids] at HG1
    clear c0 c1
    go_wp2_with fail
    refine HG1.out.mono ?_
    rintro e w4 ⟨rfl, hw4⟩
    have H4 : Hid (Ext wc w4) := Lib.hid ((Upd.refl _ _).alloc _ |>.trans hw4)
    have HL4 := Lib.hid (H4.out.heap HL0.out (fun h => h))
    have HR4 := Lib.hid (H4.out.heap HR0.out (fun h => h))
    clear hw4 HG1 k0 k1 k2 l0 l1 l2
    have HG2 : Hid (Calls Tryz.prog 12 #[.slice (some ⟨w4.heap.size, 0, none⟩) 2 2, tV eL (.slice (some ⟨a5, 0, none⟩) 2 2), tV eR (.slice (some ⟨a11, 0, none⟩) 1 1)] (w4.alloc (.cells #[.string ⟨#[115]⟩, .string ⟨#[112, 108, 117, 115]⟩] 9)) fun e w' => e = .returned (.tuple #[.bool false, .int .i64 0]) ∧ Ext (w4.alloc (.cells #[.string ⟨#[115]⟩, .string ⟨#[112, 108, 117, 115]⟩] 9)) w') := Lib.hid (by
      have h := HG.out [sSS, pLU] w4 H4.out (by decide)
      rw [gr2] at h
      exact h)
    have c0 := allocOld HL4.out (.cells #[.string ⟨#[115]⟩, .string ⟨#[112, 108, 117, 115]⟩] 9)
    have c1 := allocOld HR4.out (.cells #[.string ⟨#[115]⟩, .string ⟨#[112, 108, 117, 115]⟩] 9)
    have k0 := cellRow c0 0 (.string ⟨#[112, 108, 117, 115]⟩) rfl
    have l0 := cellRow c1 0 (.string ⟨#[115]⟩) rfl
    have k1 := cellRow c0 1 (.string ⟨#[]⟩) rfl
    have l1 := cellRow c1 1 (.string ⟨#[]⟩) rfl
    have k2 := cellRow c0 2 (.slice (some ⟨a5, 0, none⟩) 2 2) rfl
    have l2 := cellRow c1 2 (.slice (some ⟨a11, 0, none⟩) 1 1) rfl
    dsimp only [tV, Tm.name, Tm.sort, Tm.kids] at HG2
    clear c0 c1
    go_wp2_with fail
    refine HG2.out.mono ?_
    rintro e w5 ⟨rfl, hw5⟩
    have H5 : Hid (Ext wc w5) := Lib.hid ((H4.out.alloc _).trans hw5)
    have c0 := H5.out.heap HL0.out (fun h => h)
    have c1 := H5.out.heap HR0.out (fun h => h)
    clear hw5 HG2 HG k0 k1 k2 l0 l1 l2
    have k0 := cellRow c0 0 (.string ⟨#[112, 108, 117, 115]⟩) rfl
    have l0 := cellRow c1 0 (.string ⟨#[115]⟩) rfl
    have k1 := cellRow c0 1 (.string ⟨#[]⟩) rfl
    have l1 := cellRow c1 1 (.string ⟨#[]⟩) rfl
    have k2 := cellRow c0 2 (.slice (some ⟨a5, 0, none⟩) 2 2) rfl
    have l2 := cellRow c1 2 (.slice (some ⟨a11, 0, none⟩) 1 1) rfl
    have HF : Hid (Calls Tryz.prog 19 #[.slice (some ⟨w5.heap.size, 0, none⟩) 1 1] (w5.alloc (.cells #[.string ⟨#[112, 108, 117, 115]⟩, .string ⟨#[]⟩, .slice (some ⟨a5, 0, none⟩) 2 2, .string ⟨#[115]⟩, .string ⟨#[]⟩, .slice (some ⟨a11, 0, none⟩) 1 1] 38)) fun e w' => ∃ r, e = .returned (.tuple #[r, .int .i64 0]) ∧ (∃ a len cap, r = .slice a len cap) ∧ StR (fun _ => True) w' r [pLU, sSS] ∧ Ext (w5.alloc (.cells #[.string ⟨#[112, 108, 117, 115]⟩, .string ⟨#[]⟩, .slice (some ⟨a5, 0, none⟩) 2 2, .string ⟨#[115]⟩, .string ⟨#[]⟩, .slice (some ⟨a11, 0, none⟩) 1 1] 38)) w') := Lib.hid (by
      have hE := H5.out.alloc (.cells #[.string ⟨#[112, 108, 117, 115]⟩, .string ⟨#[]⟩, .slice (some ⟨a5, 0, none⟩) 2 2, .string ⟨#[115]⟩, .string ⟨#[]⟩, .slice (some ⟨a11, 0, none⟩) 1 1] 38)
      have h := find_x [(eL, eR)] (.slice (some ⟨w5.heap.size, 0, none⟩) 1 1) (w5.alloc (.cells #[.string ⟨#[112, 108, 117, 115]⟩, .string ⟨#[]⟩, .slice (some ⟨a5, 0, none⟩) 2 2, .string ⟨#[115]⟩, .string ⟨#[]⟩, .slice (some ⟨a11, 0, none⟩) 1 1] 38)) ⟨some ⟨w5.heap.size, 0, none⟩, 1, rfl, pair_tl6 (alloc0 w5 _) (by simp) (HT0.out.ext hE |>.weaken (fun k hk => Nat.lt_of_lt_of_le hk hE.size)) (HU0.out.ext hE |>.weaken (fun k hk => Nat.lt_of_lt_of_le hk hE.size))⟩ (asc_ext HTAB.out (HEW.out.trans hE)) (pow_upd HPW.out (HEW.out.trans hE) (fun _ _ h => h)) (by decide) (by decide)
      rw [fi1] at h
      exact h)
    clear c0 c1
    go_wp2_with fail
    refine HF.out.mono ?_
    rintro e w6 ⟨r, rfl, _, hs6, hw6⟩
    have H6 : Hid (Ext wc w6) := Lib.hid ((H5.out.alloc _).trans hw6)
    have HS6 := Lib.hid hs6
    obtain ⟨ra, rc, hrv⟩ := SlR.shape hs6
    subst hrv
    clear hw6 HF k0 k1 k2 l0 l1 l2 hs6
    have HQ : Hid (Calls Tryz.prog 21 #[.slice ra 2 rc, .slice (some ⟨w6.heap.size, 0, none⟩) 2 2] (w6.alloc (.cells #[.string ⟨#[112, 108, 117, 115]⟩, .string ⟨#[115]⟩] 9)) fun e w' => e = .returned (.bool true) ∧ Ext (w6.alloc (.cells #[.string ⟨#[112, 108, 117, 115]⟩, .string ⟨#[115]⟩] 9)) w') := Lib.hid (by
      have h := eqs_x [pLU, sSS] [pLU, sSS] _ _ _ _ _ (SlR.kept HS6.out ((Upd.refl (fun _ => False) w6).alloc (.cells #[.string ⟨#[112, 108, 117, 115]⟩, .string ⟨#[115]⟩] 9)) (fun _ _ h => h)) (lit_str w6 [pLU, sSS] (by decide)) (by decide) (by decide)
      rw [decide_eq_true rfl] at h
      exact h)
    dsimp only [List.length_cons, List.length_nil]
    go_wp2_with fail
    all_goals (refine HQ.out.mono ?_)
    all_goals (rintro e w7 ⟨rfl, hw7⟩)
    all_goals (have H7 : Hid (Ext wc w7) := Lib.hid ((H6.out.alloc _).trans hw7))
    all_goals (clear hw7 HQ)
    all_goals (go_wp2_with fail)
    all_goals go_ret
    all_goals (exact ⟨rfl, HEW.out.trans H7.out⟩)

end Go.Proofs.YtiimccogojkldaaGreatDoor

/- As L7, but the blocks that an operation makes are a set (a call may make many). -/
namespace Go.Hw.PG
open Go.RowKit Go.Hw
set_option linter.unusedVariables false
set_option linter.unusedSimpArgs false

section
variable {P : Program} {ops : Array Oper} {Q : Exit → Act → World → Prop} {α : Type} {w0 : World} {Qt : Act → World → Prop} {dp : Nat → List Nat} {n : Nat} {md : Region.Mode} {fl : List Nat} {snk : Nat}

/-- what is said of an operation that makes memory: its value, what is true of it from then on, the block that it made -/
structure Ann (α : Type) where
  val : α → Value
  R : α → World → Prop
  st : ∀ x W W', R x W → Ext W W' → R x W'
  f : α → Nat → Prop
  lt : ∀ x W k, R x W → f x k → k < W.heap.size

variable {ann : Nat → Option (Ann α)}
abbrev Fct := Nat × (Nat → Prop) × (World → Prop)
/-- no block is made twice -/
def Apt (G : List Fct) : Prop := G.Pairwise fun g h => ∀ k, g.2.1 k → ¬ h.2.1 k
/-- the walk, in the order of the text -/
def Can (P : Program) (ops : Array Oper) (Qt : Act → World → Prop) (w0 : World) (dp : Nat → List Nat) (ann : Nat → Option (Ann α)) : List Oper → Nat → List Fct → Act → Prop
  | [], _, G, a => ∀ W, Ext w0 W → (∀ g ∈ G, g.2.2 W) → Apt G → Qt a W
  | o :: r, i, G, a => match ann i with
    | none => if Region.wanted o (yielded ops a.tmps) then ∃ v, (∀ W, Ext w0 W → (∀ g ∈ G, g.1 ∈ dp i → g.2.2 W) → (execOp a.eval o).run P W = .ok (.value v) W) ∧ Can P ops Qt w0 dp ann r (i + 1) G (a.put o.dst v)
        else Can P ops Qt w0 dp ann r (i + 1) G (a.put o.dst undef)
    | some A => Region.wanted o (yielded ops a.tmps) = true ∧
        (∀ W, Ext w0 W → (∀ g ∈ G, g.1 ∈ dp i → g.2.2 W) → ∀ K : Act → World → Prop, (∀ x W', Ext W W' → A.R x W' → (∀ k, A.f x k → W.heap.size ≤ k) → K (a.put o.dst (A.val x)) W') → o.wp P a W K (fun _ _ _ => False)) ∧
        ∀ x, Can P ops Qt w0 dp ann r (i + 1) (G ++ [(i, A.f x, A.R x)]) (a.put o.dst (A.val x))

def FactAt (P : Program) (ops : Array Oper) (w0 : World) (dp : Nat → List Nat) (ann : Nat → Option (Ann α)) (X : Nat → α) (V : Nat → Value) (i : Nat) (o : Oper) (a : Act) : Prop :=
  match ann i with
  | none => (Region.wanted o (yielded ops a.tmps) = true → ∀ W, Ext w0 W → (∀ j A, j < i → j ∈ dp i → ann j = some A → A.R (X j) W) → (execOp a.eval o).run P W = .ok (.value (V i)) W) ∧
      (Region.wanted o (yielded ops a.tmps) = false → V i = undef)
  | some A => Region.wanted o (yielded ops a.tmps) = true ∧ V i = A.val (X i) ∧
      ∀ W, Ext w0 W → (∀ j A, j < i → j ∈ dp i → ann j = some A → A.R (X j) W) → ∀ K : Act → World → Prop, (∀ x W', Ext W W' → A.R x W' → (∀ k, A.f x k → W.heap.size ≤ k) → K (a.put o.dst (A.val x)) W') → o.wp P a W K (fun _ _ _ => False)

def Good (P : Program) (ops : Array Oper) (Qt : Act → World → Prop) (w0 : World) (dp : Nat → List Nat) (ann : Nat → Option (Ann α)) (X : Nat → α) (V : Nat → Value) : List Oper → Nat → Act → Prop
  | [], k, a => ∀ W, Ext w0 W → (∀ j A, j < k → ann j = some A → A.R (X j) W) → (∀ i j A B, i < k → j < k → i ≠ j → ann i = some A → ann j = some B → ∀ b, A.f (X i) b → ¬ B.f (X j) b) → Qt a W
  | o :: r, k, a => FactAt P ops w0 dp ann X V k o a ∧ Good P ops Qt w0 dp ann X V r (k + 1) (a.put o.dst (V k))

theorem FactAt.congr {X : Nat → α} {V V' : Nat → Value} {i : Nat} {o : Oper} {a : Act} (h : V i = V' i) (hf : FactAt P ops w0 dp ann X V i o a) : FactAt P ops w0 dp ann X V' i o a := by
  unfold FactAt at *
  rw [← h]; exact hf
theorem Good.congr {X : Nat → α} {V V' : Nat → Value} : ∀ (r : List Oper) (k : Nat) (a : Act), (∀ j, k ≤ j → V j = V' j) → Good P ops Qt w0 dp ann X V r k a → Good P ops Qt w0 dp ann X V' r k a
  | [], _, _, _, h => h
  | o :: r, k, a, he, h => ⟨h.1.congr (he k (Nat.le_refl _)), by rw [← he k (Nat.le_refl _)]; exact Good.congr r (k + 1) _ (fun j hj => he j (by omega)) h.2⟩

theorem good_of_can (X : Nat → α) : ∀ (r : List Oper) (k : Nat) (G : List Fct) (a : Act), Can P ops Qt w0 dp ann r k G a →
    (∀ g ∈ G, ∃ A, ann g.1 = some A ∧ g.1 < k ∧ g.2 = (A.f (X g.1), A.R (X g.1))) → G.Pairwise (fun g h => g.1 ≠ h.1) → ∃ V, Good P ops Qt w0 dp ann X V r k a
  | [], k, G, a, h, hG, hN => ⟨fun _ => undef, fun W hW hR hD => h W hW (fun g hg => by obtain ⟨A, h1, h2, h3⟩ := hG g hg; rw [h3]; exact hR _ _ h2 h1) (by
      unfold Apt
      refine List.Pairwise.imp_of_mem (fun {g g'} hg hg' hne b e1 e2 => ?_) hN
      obtain ⟨A, h1, h2, h3⟩ := hG g hg
      obtain ⟨A', h1', h2', h3'⟩ := hG g' hg'
      rw [h3] at e1
      rw [h3'] at e2
      exact hD _ _ A A' h2 h2' hne h1 h1' b e1 e2)⟩
  | o :: r, k, G, a, h, hG, hN => by
    have hH : ∀ W, (∀ j A, j < k → j ∈ dp k → ann j = some A → A.R (X j) W) → ∀ g ∈ G, g.1 ∈ dp k → g.2.2 W := fun W hR g hg hd => by
      obtain ⟨A, h1, h2, h3⟩ := hG g hg
      rw [h3]; exact hR _ _ h2 hd h1
    unfold Can at h
    have hG' : ∀ g ∈ G, ∃ A, ann g.1 = some A ∧ g.1 < k + 1 ∧ g.2 = (A.f (X g.1), A.R (X g.1)) := fun g hg => by
      obtain ⟨A, h1, h2, h3⟩ := hG g hg
      exact ⟨A, h1, by omega, h3⟩
    cases ha : ann k with
    | none =>
      rw [ha] at h
      simp only at h
      by_cases hw : Region.wanted o (yielded ops a.tmps) = true
      · rw [if_pos hw] at h
        obtain ⟨v, hv, h⟩ := h
        obtain ⟨V, hV⟩ := good_of_can X r (k + 1) G _ h hG' hN
        refine ⟨fun j => if j = k then v else V j, ?_, ?_⟩
        · unfold FactAt
          rw [ha]
          simp only [if_true]
          exact ⟨fun _ W hW hR => hv W hW (hH W hR), fun h => by rw [hw] at h; cases h⟩
        · rw [show (fun j => if j = k then v else V j) k = v from if_pos rfl]
          exact hV.congr _ _ _ (fun j hj => by rw [if_neg (by omega)])
      · rw [if_neg hw] at h
        obtain ⟨V, hV⟩ := good_of_can X r (k + 1) G _ h hG' hN
        refine ⟨fun j => if j = k then undef else V j, ?_, ?_⟩
        · unfold FactAt
          rw [ha]
          simp only [if_true]
          exact ⟨fun h => absurd h hw, fun _ => trivial⟩
        · rw [show (fun j => if j = k then undef else V j) k = undef from if_pos rfl]
          exact hV.congr _ _ _ (fun j hj => by rw [if_neg (by omega)])
    | some A =>
      rw [ha] at h
      simp only at h
      obtain ⟨hw, hm, h⟩ := h
      obtain ⟨V, hV⟩ := good_of_can X r (k + 1) _ _ (h (X k)) (fun g hg => by
        rcases List.mem_append.1 hg with h1 | h1
        · exact hG' g h1
        · simp only [List.mem_singleton] at h1
          subst h1
          exact ⟨A, ha, Nat.lt_succ_self _, rfl⟩) (List.pairwise_append.2 ⟨hN, List.pairwise_singleton _ _, fun g hg g' hg' e => by
        rw [List.mem_singleton] at hg'
        subst hg'
        obtain ⟨_, _, h2, _⟩ := hG g hg
        simp only at e
        omega⟩)
      refine ⟨fun j => if j = k then A.val (X k) else V j, ?_, ?_⟩
      · unfold FactAt
        rw [ha]
        simp only [if_true]
        exact ⟨hw, trivial, fun W hW hR K hK => hm W hW (hH W hR) K hK⟩
      · rw [show (fun j => if j = k then A.val (X k) else V j) k = A.val (X k) from if_pos rfl]
        exact hV.congr _ _ _ (fun j hj => by rw [if_neg (by omega)])

theorem Good.at {X : Nat → α} {V : Nat → Value} : ∀ (r : List Oper) (k : Nat) (a : Act), Good P ops Qt w0 dp ann X V r k a → ∀ i o, r[i]? = some o → FactAt P ops w0 dp ann X V (k + i) o (frL V (r.take i) k a)
  | [], _, _, _, i, o, h => by simp at h
  | p :: r, k, a, h, 0, o, ho => by simp at ho; subst ho; exact h.1
  | p :: r, k, a, h, i + 1, o, ho => by
    rw [List.getElem?_cons_succ] at ho
    have := Good.at r (k + 1) _ h.2 i o ho
    rw [show k + (i + 1) = k + 1 + i by omega]
    exact this
theorem Good.fin {X : Nat → α} {V : Nat → Value} : ∀ (r : List Oper) (k : Nat) (a : Act), Good P ops Qt w0 dp ann X V r k a → ∀ W, Ext w0 W → (∀ j A, j < k + r.length → ann j = some A → A.R (X j) W) → (∀ i j A B, i < k + r.length → j < k + r.length → i ≠ j → ann i = some A → ann j = some B → ∀ b, A.f (X i) b → ¬ B.f (X j) b) → Qt (frL V r k a) W
  | [], _, _, h, W, hW, hR, hD => h W hW hR hD
  | p :: r, k, a, h, W, hW, hR, hD => Good.fin r (k + 1) _ h.2 W hW (fun j A hj => hR j A (by simp only [List.length_cons]; omega)) (fun i j A B hi hj => hD i j A B (by simp only [List.length_cons]; omega) (by simp only [List.length_cons]; omega))
theorem Good.same {sz : Nat} {an : Nat → Bool} {tail : List (Nat × Nat)} (hp : ParS ops n sz dp an tail fl snk) {a0 : Act} {l : Array Bool} (hd : Deps .any ops l) (hsz : a0.tmps.size = sz) {X X' : Nat → α} {V V' : Nat → Value}
    (hV : Good P ops Qt w0 dp ann X V (ops.toList.take n) 0 a0) (hV' : Good P ops Qt w0 dp ann X' V' (ops.toList.take n) 0 a0) (hX : ∀ j, j < n → l.getD j false = true → X' j = X j)
    {W : World} (hW : Ext w0 W) (hR : ∀ j A, j < n → l.getD j false = true → ann j = some A → A.R (X j) W) : ∀ j, j < n → l.getD j false = true → V' j = V j := by
  intro j
  induction j using Nat.strongRecOn with
  | _ j ih =>
    intro hj hl
    have hjs : j < ops.size := Nat.lt_of_lt_of_le hj hp.le
    have ho : ops[j]? = some ops[j] := Array.getElem?_eq_getElem hjs
    have hot : (ops.toList.take n)[j]? = some ops[j] := by rw [List.getElem?_take_of_lt hj]; simp
    have hall : ∀ e ∈ ops[j].after, Region.binds .any e = true → l.getD e.on false = true := fun e he hb => hd.back j _ ho hl e he hb
    have f1 := hV.at _ _ _ j _ hot
    have f2 := hV'.at _ _ _ j _ hot
    rw [Nat.zero_add] at f1 f2
    rw [List.take_take, Nat.min_eq_left (Nat.le_of_lt hj)] at f1 f2
    have hclo := hp.closed hd j _ ho hall
    have hsame : ∀ t ∈ ops[j].looksAt ops, (frL V (ops.toList.take j) 0 a0).tmps[t]? = (frL V' (ops.toList.take j) 0 a0).tmps[t]? := by
      intro t ht
      by_cases hx : ∃ k p, k < j ∧ ops[k]? = some p ∧ p.dst = some t
      · obtain ⟨k, p, hk, hpk, hdk⟩ := hx
        have hkn : k < n := by omega
        have hkl : l.getD k false = true := by
          obtain ⟨e, he, hb, hon⟩ := hp.reads j k _ p t hj hkn ho hpk ht hdk
          have := hall e he hb
          rw [hon] at this; exact this
        have hu : ∀ (i : Nat) q, (ops.toList.take j)[i]? = some q → q.dst = some t → i = k := fun i q hq hqd => by
          have hi : i < j := by
            have := (List.getElem?_eq_some_iff.1 hq).1
            rw [List.length_take] at this; omega
          rw [List.getElem?_take_of_lt hi] at hq
          exact hp.uniq k i p q t hkn (by omega) hpk (by simpa using hq) hdk hqd
        have hk2 : (ops.toList.take j)[k]? = some p := by rw [List.getElem?_take_of_lt hk]; simpa using hpk
        rw [frL_in V t _ 0 a0 k p hk2 hdk (by rw [hsz]; exact hp.dst _ _ _ hkn hpk hdk) hu, frL_in V' t _ 0 a0 k p hk2 hdk (by rw [hsz]; exact hp.dst _ _ _ hkn hpk hdk) hu, Nat.zero_add, ih k hk hkn hkl]
      · have hno : ∀ (k : Nat) p, (ops.toList.take j)[k]? = some p → p.dst ≠ some t := fun k p hpk hdk => by
          have hk : k < j := by
            have := (List.getElem?_eq_some_iff.1 hpk).1
            rw [List.length_take] at this; omega
          rw [List.getElem?_take_of_lt hk] at hpk
          exact hx ⟨k, p, hk, by simpa using hpk, hdk⟩
        rw [frL_out V t _ 0 a0 hno, frL_out V' t _ 0 a0 hno]
    obtain ⟨s1, s2⟩ := same_at (ops := ops) (fun cs b => Region.noSelect_spec hp.nosel j _ cs b ho) hsame
    unfold FactAt at f1 f2
    cases ha : ann j with
    | none =>
      rw [ha] at f1 f2
      simp only at f1 f2
      cases hw : Region.wanted ops[j] (yielded ops (frL V (ops.toList.take j) 0 a0).tmps) with
      | true =>
        have r1 := f1.1 hw W hW (fun k A hk hdk hak => hR k A (by omega) (hclo k hdk) hak)
        have r2 := f2.1 (by rw [← s2]; exact hw) W hW (fun k A hk hdk hak => by rw [hX k (by omega) (hclo k hdk)]; exact hR k A (by omega) (hclo k hdk) hak)
        rw [← s1, r1] at r2
        injection r2 with r2
        injection r2 with r2
        exact r2.symm
      | false => rw [f1.2 hw, f2.2 (by rw [← s2]; exact hw)]
    | some A =>
      rw [ha] at f1 f2
      simp only at f1 f2
      rw [f1.2.1, f2.2.1, hX j hj hl]
/-- a step that was walked in the order of the text is one of the state -/
theorem mix_floats {sz : Nat} {an : Nat → Bool} {tail : List (Nat × Nat)} {l0 : List Oper} (hp : ParS l0.toArray n sz dp an tail fl snk) (han : ∀ i, (ann i).isSome = an i) {a0 : Act} (hsz : a0.tmps.size = sz) {W : World} (hW : Ext w0 W) {X : Nat → α} {V : Nat → Value}
    (hV : Good P l0.toArray (fun a W => wpMix P l0.toArray Q (fun _ => True) (pickO l0 tail) a W) w0 dp ann X V (l0.take n) 0 a0) (hR : ∀ j A, j < n → ann j = some A → A.R (X j) W) (hD : ∀ i j A B, i < n → j < n → i ≠ j → ann i = some A → ann j = some B → ∀ b, A.f (X i) b → ¬ B.f (X j) b) :
    ∀ (U : List Nat) (l : Array Bool) (b : Act), Deps .any l0.toArray l → (∀ j ∈ U, j < n ∧ fl.contains j = true) → (∀ j, j < n → l.getD j false = false → j ∈ U) →
      mixB .any l0.toArray snk (U.map (fun k => (k, 0)) ++ tail) l = true → FrS l0.toArray n a0 l V b → wpMix P l0.toArray Q (fun _ => True) (pickO l0 (U.map (fun k => (k, 0)) ++ tail)) b W := by
  intro U
  induction U with
  | nil =>
    intro l b hd _ hU _ hF
    have hall : ∀ j, j < n → l.getD j false = true := fun j hj => by
      cases h : l.getD j false with
      | true => rfl
      | false => cases hU j hj h
    have hb := hF.all hp hsz hall
    have hfin := hV.fin _ _ _ W hW (fun j A hj ha => hR j A (by simp at hj; omega) ha) (fun i j A B hi hj => hD i j A B (by simp at hi; omega) (by simp at hj; omega))
    rw [hb]
    exact hfin
  | cons i U ih =>
    intro l b hd hUn hU hB hF
    simp only [List.map_cons, List.cons_append] at hB ⊢
    simp only [mixB, Bool.and_eq_true, decide_eq_true_eq, Bool.not_eq_true'] at hB
    obtain ⟨⟨⟨⟨hi, _⟩, _⟩, _⟩, hB⟩ := hB
    have hi : i ∈ Region.ready .any l0.toArray l := by simpa using hi
    obtain ⟨hin, hfl⟩ := hUn i (List.mem_cons_self)
    obtain ⟨hun, o, ho, hall⟩ := mem_ready.1 hi
    have ho' : l0[i]? = some o := by simpa using ho
    obtain ⟨hfo, hann⟩ := hp.flo i o hin hfl ho
    have hclo := hp.closed hd i o ho hall
    have hot : (l0.take n)[i]? = some o := by rw [List.getElem?_take_of_lt hin]; simpa using ho
    have fa := hV.at _ _ _ i _ hot
    rw [Nat.zero_add, List.take_take, Nat.min_eq_left (Nat.le_of_lt hin)] at fa
    have hlook := hF.look hp hsz hin ho hall
    obtain ⟨s1, s2⟩ := same_at (ops := l0.toArray) (fun cs b => Region.noSelect_spec hp.nosel i _ cs b ho) hlook
    have s1 : execOp (frL V (l0.take i) 0 a0).eval o = execOp b.eval o := s1
    have s2 : Region.wanted o (yielded l0.toArray (frL V (l0.take i) 0 a0).tmps) = Region.wanted o (yielded l0.toArray b.tmps) := s2
    have ha : ann i = none := by
      have := han i
      rw [hann] at this
      cases h : ann i with
      | none => rfl
      | some A => rw [h] at this; cases this
    unfold FactAt at fa
    rw [ha] at fa
    simp only at fa
    have hnext := ih (l.setIfInBounds i true) (b.put o.dst (V i)) (hd.step hi) (fun j hj => hUn j (List.mem_cons_of_mem _ hj)) (fun j hj hl => by
      by_cases e : i = j
      · subst e
        exfalso
        have his : i < l.size := by rw [hd.size]; exact (Array.getElem?_eq_some_iff.1 ho).1
        simp [his] at hl
      · rw [getD_set_ne false e] at hl
        rcases List.mem_cons.1 (hU j hj hl) with h | h
        · exact absurd h.symm e
        · exact h) hB (hF.step hp hsz hin ho (fun _ _ _ => rfl))
    simp only [pickO, ho', wpMix]
    cases hw : Region.wanted o (yielded l0.toArray b.tmps) with
    | true =>
      rw [if_pos rfl]
      have hr := fa.1 (by rw [s2]; exact hw) W hW (fun j A hj hdj haj => hR j A (by omega) haj)
      rw [s1] at hr
      exact ⟨V i, fun W' _ => float_run hfo hr W', hnext⟩
    | false =>
      rw [if_neg (by simp)]
      have hv := fa.2 (by rw [s2]; exact hw)
      rw [← hv]
      exact hnext
theorem par_fin {sz : Nat} {an : Nat → Bool} {tail : List (Nat × Nat)} {l0 : List Oper} (hp : ParS l0.toArray n sz dp an tail fl snk) (han : ∀ i, (ann i).isSome = an i)
    (hQ : ∀ c a d v w, Q (.panic c) (Act.put a d v) w → Q (.panic c) a w) {a0 : Act} (hsz : a0.tmps.size = sz) {f : Nat} {l : Array Bool} {b : Act} {W : World} {X : Nat → α} {V : Nat → Value} (hd : Deps .any l0.toArray l) (hout : ∀ j, n ≤ j → l.getD j false = false) (hW : Ext w0 W)
    (hR : ∀ j A, j < n → l.getD j false = true → ann j = some A → A.R (X j) W) (hD : ∀ i j A B, i < n → j < n → l.getD i false = true → l.getD j false = true → i ≠ j → ann i = some A → ann j = some B → ∀ b, A.f (X i) b → ¬ B.f (X j) b)
    (hV : Good P l0.toArray (fun a W => wpMix P l0.toArray Q (fun _ => True) (pickO l0 tail) a W) w0 dp ann X V (l0.take n) 0 a0)
    (hF : FrS l0.toArray n a0 l V b) (hall : ∀ j, j < n → fl.contains j = false → l.getD j false = true) (hf : remN n l + tail.length ≤ f) : wpAny P .any l0.toArray Q f l b W := by
  have hUf : ∀ j ∈ ((List.range n).filter fun j => !l.getD j false), j < n ∧ fl.contains j = true := fun j hj => by
    obtain ⟨h1, h2⟩ := List.mem_filter.1 hj
    have h1 := List.mem_range.1 h1
    refine ⟨h1, ?_⟩
    cases hc : fl.contains j with
    | true => rfl
    | false => have := hall j h1 hc; rw [this] at h2; cases h2
  have hUs : ((List.range n).filter fun j => !l.getD j false) ∈ subs ((List.range n).filter fun j => fl.contains j) := by
    have := filter_subs (fun j => !l.getD j false) ((List.range n).filter fun j => fl.contains j)
    rw [List.filter_filter] at this
    have e : ((List.range n).filter fun j => !l.getD j false) = ((List.range n).filter fun j => (!l.getD j false) && fl.contains j) := by
      apply List.filter_congr
      intro j hj
      cases hl : l.getD j false with
      | true => rfl
      | false =>
        have := hUf j (List.mem_filter.2 ⟨hj, by rw [hl]; rfl⟩)
        rw [this.2]; rfl
    rw [e]; exact this
  have hm := hp.mix _ hUs
  have hl : l = Array.ofFn (n := l0.toArray.size) fun j => decide (j.val < n) && !((List.range n).filter fun j => !l.getD j false).contains j.val := by
    apply Array.ext
    · simp [hd.size]
    · intro j h1 h2
      rw [Array.getElem_ofFn]
      have hg : l.getD j false = l[j] := by rw [Array.getD_eq_getD_getElem?, Array.getElem?_eq_getElem h1]; rfl
      by_cases hj : j < n
      · simp only [hj, decide_true, Bool.true_and]
        rw [← hg]
        cases h : l.getD j false with
        | true => simp [h, -Array.getD_eq_getD_getElem?]
        | false => simp [h, hj, -Array.getD_eq_getD_getElem?]
      · have := hout j (by omega)
        rw [← hg, this]
        simp [hj]
  rw [← hl] at hm
  have hlen : (((List.range n).filter fun j => !l.getD j false).map (fun k => (k, 0)) ++ tail).length ≤ f := by
    rw [List.length_append, List.length_map]
    exact hf
  have hAl : ∀ j A, j < n → ann j = some A → l.getD j false = true := fun j A hj ha => by
    refine hall j hj ?_
    cases hc : fl.contains j with
    | false => rfl
    | true =>
      have hjs : j < l0.toArray.size := Nat.lt_of_lt_of_le hj hp.le
      have := (hp.flo j _ hj hc (Array.getElem?_eq_getElem hjs)).2
      rw [← han, ha] at this; cases this
  have hR2 : ∀ j A, j < n → ann j = some A → A.R (X j) W := fun j A hj ha => hR j A hj (hAl j A hj ha) ha
  have hD2 : ∀ i j A B, i < n → j < n → i ≠ j → ann i = some A → ann j = some B → ∀ b, A.f (X i) b → ¬ B.f (X j) b := fun i j A B hi hj hne ha hb => hD i j A B hi hj (hAl i A hi ha) (hAl j B hj hb) hne ha hb
  have h2 := mix_floats (Q := Q) hp han hsz hW hV hR2 hD2 _ l b hd hUf (fun j hj h => List.mem_filter.2 ⟨List.mem_range.2 hj, by rw [h]; rfl⟩) hm hF
  have h3 := wpTill_of_mix (P := P) (S := fun _ => True) (n := snk) hp.nosel hp.sink hQ _ l b W hd (.inl trivial) hm h2
  exact wpAny_le hlen (wpAny_of_till _ _ _ _ h3)
theorem par_sound {sz : Nat} {an : Nat → Bool} {tail : List (Nat × Nat)} {l0 : List Oper} [Inhabited α] (hp : ParS l0.toArray n sz dp an tail fl snk) (han : ∀ i, (ann i).isSome = an i)
    (hQ : ∀ c a d v w, Q (.panic c) (Act.put a d v) w → Q (.panic c) a w) {a0 : Act} (hsz : a0.tmps.size = sz)
    (hC : Can P l0.toArray (fun a W => wpMix P l0.toArray Q (fun _ => True) (pickO l0 tail) a W) w0 dp ann (l0.take n) 0 [] a0) :
    ∀ (f : Nat) (l : Array Bool) (b : Act) (W : World) (X : Nat → α) (V : Nat → Value), Deps .any l0.toArray l → (∀ j, n ≤ j → l.getD j false = false) → Ext w0 W →
      (∀ j A, j < n → l.getD j false = true → ann j = some A → A.R (X j) W) →
      (∀ i j A B, i < n → j < n → l.getD i false = true → l.getD j false = true → i ≠ j → ann i = some A → ann j = some B → ∀ b, A.f (X i) b → ¬ B.f (X j) b) →
      Good P l0.toArray (fun a W => wpMix P l0.toArray Q (fun _ => True) (pickO l0 tail) a W) w0 dp ann X V (l0.take n) 0 a0 →
      FrS l0.toArray n a0 l V b → remN n l + tail.length ≤ f → wpAny P .any l0.toArray Q f l b W := by
  intro f
  induction f with
  | zero =>
    intro l b W X V hd hout hW hR hD hV hF hf
    have hr0 : remN n l = 0 := by omega
    have hall := remN_zero hr0
    exact par_fin hp han hQ hsz hd hout hW hR hD hV hF (fun j hj _ => hall j hj) hf
  | succ f ih =>
    intro l b W X V hd hout hW hR hD hV hF hf
    by_cases hr0 : ∀ j, j < n → fl.contains j = false → l.getD j false = true
    · exact par_fin hp han hQ hsz hd hout hW hR hD hV hF hr0 hf
    · have hund : ∃ j, j < n ∧ fl.contains j = false ∧ l.getD j false = false := by
        by_cases h : ∃ j, j < n ∧ fl.contains j = false ∧ l.getD j false = false
        · exact h
        · exfalso
          apply hr0
          intro j hj hfl
          cases hl : l.getD j false with
          | true => rfl
          | false => exact absurd ⟨j, hj, hfl, hl⟩ h
      refine ⟨fun hr => ?_, fun i hi => ?_⟩
      · exfalso
        obtain ⟨j0, hj0, _, hl0⟩ := hund
        have hmin : ∀ k, ∀ j, j ≤ k → j < n → l.getD j false = false → False := by
          intro k
          induction k using Nat.strongRecOn with
          | _ k ihk =>
            intro j hjk hj hl
            have hjs : j < l0.toArray.size := Nat.lt_of_lt_of_le hj hp.le
            have ho : l0.toArray[j]? = some l0.toArray[j] := Array.getElem?_eq_getElem hjs
            have hready : j ∈ Region.ready .any l0.toArray l := by
              rw [mem_ready]
              refine ⟨getD_tf (by rw [hd.size]; exact hjs) hl, _, ho, fun e he hb => ?_⟩
              have hlt := hp.lt j _ hj ho e he hb
              cases h : l.getD e.on false with
              | true => rfl
              | false => exact (ihk e.on (by omega) e.on (Nat.le_refl _) (by omega) h).elim
            rw [hr] at hready
            cases hready
        exact hmin j0 j0 (Nat.le_refl _) hj0 hl0
      · obtain ⟨hun, o, ho, hall⟩ := mem_ready.1 hi
        have his : i < l0.toArray.size := (Array.getElem?_eq_some_iff.1 ho).1
        have hclo := hp.closed hd i o ho hall
        have hin : i < n := by
          rcases Nat.lt_or_ge i n with h | h
          · exact h
          · exfalso
            obtain ⟨j, hj, hfl, hl⟩ := hund
            have := hclo j (hp.rest i j h his hj hfl)
            rw [hl] at this; cases this
        have hot : (l0.take n)[i]? = some o := by rw [List.getElem?_take_of_lt hin]; simpa using ho
        have fa := hV.at _ _ _ i _ hot
        rw [Nat.zero_add, List.take_take, Nat.min_eq_left (Nat.le_of_lt hin)] at fa
        have hlook := hF.look hp hsz hin ho hall
        obtain ⟨s1, s2⟩ := same_at (ops := l0.toArray) (fun cs b => Region.noSelect_spec hp.nosel i _ cs b ho) hlook
        have s1 : execOp (frL V (l0.take i) 0 a0).eval o = execOp b.eval o := s1
        have s2 : Region.wanted o (yielded l0.toArray (frL V (l0.take i) 0 a0).tmps) = Region.wanted o (yielded l0.toArray b.tmps) := s2
        have hout' : ∀ j, n ≤ j → (l.setIfInBounds i true).getD j false = false := fun j hj => by rw [getD_set_ne false (by omega)]; exact hout j hj
        have hrem := remN_step hin hun
        unfold wpOp
        rw [ho]
        simp only
        unfold FactAt at fa
        cases ha : ann i with
        | none =>
          rw [ha] at fa
          simp only at fa
          have hR' : ∀ W', Ext W W' → ∀ j A, j < n → (l.setIfInBounds i true).getD j false = true → ann j = some A → A.R (X j) W' := fun W' hW' j A hj hl haj => by
            by_cases e : j = i
            · subst e; rw [ha] at haj; cases haj
            · rw [getD_set_ne false (Ne.symm e)] at hl
              exact A.st _ _ _ (hR j A hj hl haj) hW'
          have hD' : ∀ i' j A B, i' < n → j < n → (l.setIfInBounds i true).getD i' false = true → (l.setIfInBounds i true).getD j false = true → i' ≠ j → ann i' = some A → ann j = some B → ∀ b, A.f (X i') b → ¬ B.f (X j) b := fun i' j A B hi' hj hl1 hl2 hne h1 h2 => by
            have e1 : i' ≠ i := fun e => by subst e; rw [ha] at h1; cases h1
            have e2 : j ≠ i := fun e => by subst e; rw [ha] at h2; cases h2
            rw [getD_set_ne false (Ne.symm e1)] at hl1
            rw [getD_set_ne false (Ne.symm e2)] at hl2
            exact hD i' j A B hi' hj hl1 hl2 hne h1 h2
          cases hw : Region.wanted o (yielded l0.toArray b.tmps) with
          | true =>
            rw [if_pos rfl]
            refine .inl ?_
            have hr := fa.1 (by rw [s2]; exact hw) W hW (fun j A hj hdj haj => hR j A (by omega) (hclo j hdj) haj)
            rw [s1] at hr
            unfold Oper.wp
            rw [hr]
            exact ih _ _ _ X V (hd.step hi) hout' hW (hR' W (Upd.refl _ _)) hD' hV (hF.step hp hsz hin ho (fun _ _ _ => rfl)) (by omega)
          | false =>
            rw [if_neg (by simp)]
            have hv := fa.2 (by rw [s2]; exact hw)
            rw [← hv]
            exact ih _ _ _ X V (hd.step hi) hout' hW (hR' W (Upd.refl _ _)) hD' hV (hF.step hp hsz hin ho (fun _ _ _ => rfl)) (by omega)
        | some A =>
          rw [ha] at fa
          simp only at fa
          obtain ⟨hw, hVi, hm⟩ := fa
          rw [s2] at hw
          rw [if_pos hw]
          refine .inl ?_
          obtain ⟨d, hdd⟩ := hp.some_ i o hin ho (by rw [← han, ha]; rfl)
          have hds := hp.dst i o d hin ho hdd
          have hfs := frL_size V (l0.take i) 0 a0
          refine wp_transfer (K := fun a' W' => a'.defers = (frL V (l0.take i) 0 a0).defers ∧ ∃ x, a'.tmps[d]? = some (A.val x) ∧ Ext W W' ∧ A.R x W' ∧ ∀ k, A.f x k → W.heap.size ≤ k) s1 (fun v W' hK => ?_) (fun _ _ h => h.1) (hm W hW (fun j B hj hdj haj => hR j B (by omega) (hclo j hdj) haj) _ (fun x W' hE hRx hfr => ⟨put_defers' _ _ _, x, by rw [hdd]; exact put_eq _ _ _ (by rw [hfs.1, hsz]; exact hds), hE, hRx, hfr⟩))
          obtain ⟨_, x, hx, hE, hRx, hfr⟩ := hK
          rw [hdd, put_eq _ _ _ (by rw [hfs.1, hsz]; exact hds)] at hx
          have hvx : v = A.val x := Option.some.inj hx
          obtain ⟨V', hV'⟩ := good_of_can (fun j => if j = i then x else X j) _ _ _ _ hC (fun g hg => by cases hg) List.Pairwise.nil
          have hRW : ∀ j B, j < n → l.getD j false = true → ann j = some B → B.R (X j) W' := fun j B hj hl haj => B.st _ _ _ (hR j B hj hl haj) hE
          have hne : ∀ j, l.getD j false = true → j ≠ i := fun j hl e => by subst e; rw [getD_ff hun] at hl; cases hl
          have hsame := Good.same hp hd hsz hV hV' (fun j hj hl => if_neg (hne j hl)) (hW.ext hE) hRW
          have fa' := hV'.at _ _ _ i _ hot
          rw [Nat.zero_add] at fa'
          unfold FactAt at fa'
          rw [ha] at fa'
          simp only [if_true] at fa'
          rw [hvx, ← fa'.2.1]
          refine ih _ _ _ (fun j => if j = i then x else X j) V' (hd.step hi) hout' (hW.ext hE) (fun j B hj hl haj => ?_) (fun i' j A1 B hi' hj hl1 hl2 hnq h1 h2 b e1 e2 => ?_) hV' (hF.step hp hsz hin ho hsame) (by omega)
          · by_cases e : j = i
            · subst e
              rw [ha] at haj
              obtain rfl := Option.some.inj haj
              simp only [if_true]
              exact hRx
            rw [getD_set_ne false (Ne.symm e)] at hl
            simp only [if_neg e]
            exact hRW j B hj hl haj
          by_cases c1 : i' = i
          · subst c1
            have c2 : ¬ j = i' := fun e => hnq e.symm
            rw [ha] at h1
            obtain rfl := Option.some.inj h1
            simp only [if_true] at e1
            simp only [if_neg c2] at e2
            rw [getD_set_ne false (fun e => c2 e.symm)] at hl2
            have k1 := hfr b e1
            have k2 := B.lt _ _ b (hR j B hj hl2 h2) e2
            omega
          · by_cases c2 : j = i
            · subst c2
              rw [ha] at h2
              obtain rfl := Option.some.inj h2
              simp only [if_true] at e2
              simp only [if_neg c1] at e1
              rw [getD_set_ne false (fun e => c1 e.symm)] at hl1
              have k1 := hfr b e2
              have k2 := A1.lt _ _ b (hR i' A1 hi' hl1 h1) e1
              omega
            · simp only [if_neg c1] at e1
              simp only [if_neg c2] at e2
              rw [getD_set_ne false (fun e => c1 e.symm)] at hl1
              rw [getD_set_ne false (fun e => c2 e.symm)] at hl2
              exact hD i' j A1 B hi' hj hl1 hl2 hnq h1 h2 b e1 e2
/-- ONE WALK SERVES EVERY ORDER: the first n operations in the order of the text, each memory maker said by what it leaves; then the rest -/
theorem wp_region_parF {id : Nat} {a : Act} {w : World} {l0 : List Oper} [Inhabited α] (n : Nat) (fl : List Nat) (snk : Nat) (tail : List (Nat × Nat)) (dpl : List (List Nat)) (anl : List (Option (Ann α))) (anb : List Bool) (hm : P.follows .mixedOrders = true)
    (hB : parFB l0.toArray n a.tmps.size (fun i => dpl.getD i []) (fun i => anb.getD i false) fl snk tail = true) (han : anl.map (·.isSome) = anb)
    (hQ : ∀ c a d v w, Q (.panic c) (Act.put a d v) w → Q (.panic c) a w)
    (h : Can P l0.toArray (fun a W => wpMix P l0.toArray Q (fun _ => True) (pickO l0 tail) a W) w (fun i => dpl.getD i []) (fun i => anl.getD i none) (l0.take n) 0 [] a) : (Code.region id l0.toArray true).wp P Q a w := by
  have hp := parS_of hB
  refine wp_region_any hm ?_
  have hW : Ext w { w with drawn := w.drawn + 1 } := ⟨rfl, rfl, rfl, Nat.le_refl _, fun _ _ _ => rfl⟩
  obtain ⟨V, hV⟩ := good_of_can (fun _ => default) _ _ _ _ h (fun g hg => by cases hg) List.Pairwise.nil
  have hf : ∀ j, (Array.replicate l0.toArray.size false).getD j false = false := fun j => by
    rcases Nat.lt_or_ge j l0.length with h | h <;> simp [h]
  refine par_sound hp (fun i => ?_) hQ rfl h _ _ _ _ _ V Deps.start (fun j _ => hf j) hW (fun j A _ hl => by rw [hf] at hl; cases hl) (fun i j A B _ _ hl => by rw [hf] at hl; cases hl) hV FrS.start ?_
  · rw [← han]
    simp only [List.getD_eq_getElem?_getD, List.getElem?_map]
    cases anl[i]? <;> rfl
  · have h1 : remN n (Array.replicate l0.toArray.size false) ≤ n := by
      unfold remN
      exact Nat.le_trans (List.length_filter_le _ _) (by simp)
    have := hp.len
    omega
theorem can_pure {o : Oper} {r : List Oper} {i : Nat} {G : List Fct} {a : Act} (ha : ann i = none)
    (h : ∀ K : Act → Prop, (∀ a, Can P ops Qt w0 dp ann r (i + 1) G a → K a) → if Region.wanted o (yielded ops a.tmps) then ∃ v, (∀ W, Ext w0 W → (∀ g ∈ G, g.1 ∈ dp i → g.2.2 W) → (execOp a.eval o).run P W = .ok (.value v) W) ∧ K (a.put o.dst v) else K (a.put o.dst undef)) :
    Can P ops Qt w0 dp ann (o :: r) i G a := by
  unfold Can
  rw [ha]
  exact h _ (fun _ h => h)
theorem can_mem {o : Oper} {r : List Oper} {i : Nat} {G : List Fct} {a : Act} (A : Ann α) (ha : ann i = some A) (hw : Region.wanted o (yielded ops a.tmps) = true)
    (h1 : ∀ W, Ext w0 W → (∀ g ∈ G, g.1 ∈ dp i → g.2.2 W) → ∀ K : Act → World → Prop, (∀ x W', Ext W W' → A.R x W' → (∀ k, A.f x k → W.heap.size ≤ k) → K (a.put o.dst (A.val x)) W') → o.wp P a W K (fun _ _ _ => False))
    (h2 : ∀ K : Act → Prop, ∀ x, (∀ a, Can P ops Qt w0 dp ann r (i + 1) (G ++ [(i, A.f x, A.R x)]) a → K a) → K (a.put o.dst (A.val x))) :
    Can P ops Qt w0 dp ann (o :: r) i G a := by
  unfold Can
  rw [ha]
  exact ⟨hw, h1, fun x => h2 _ x (fun _ h => h)⟩
theorem can_end {i : Nat} {G : List Fct} {a : Act} (h : ∀ W, Ext w0 W → (∀ g ∈ G, g.2.2 W) → Apt G → Qt a W) : Can P ops Qt w0 dp ann [] i G a := h

/-- an operation that only computes, or reads what was there -/
theorem can_pure0 {o : Oper} {r : List Oper} {i : Nat} {G : List Fct} {a : Act} (ha : ann i = none)
    (h : ∀ K : Act → Prop, (∀ a, Can P ops Qt w0 dp ann r (i + 1) G a → K a) → if Region.wanted o (yielded ops a.tmps) then ∃ v, (∀ x : XW w0, (execOp a.eval o).run P x.val = .ok (.value v) x.val) ∧ K (a.put o.dst v) else K (a.put o.dst undef)) :
    Can P ops Qt w0 dp ann (o :: r) i G a := by
  refine can_pure ha fun K hK => ?_
  have h2 := h K hK
  by_cases hw : Region.wanted o (yielded ops a.tmps) = true
  · rw [if_pos hw] at h2 ⊢
    obtain ⟨v, hv, h3⟩ := h2
    exact ⟨v, fun W hW _ => hv ⟨W, hW⟩, h3⟩
  · rw [if_neg hw] at h2 ⊢; exact h2
end
end Go.Hw.PG
