/- The texts L7 UW UQ UR, one behind the other. -/
import Derived.Test.YtlkcjmaiahnodaaGreatDoorYAB
import Derived.Test.YtlkcjmaiahnodaaGreatDoorYAE
/- A drawn region walked once, as in L4: and the blocks that its operations make are told apart. -/
namespace Go.Hw.PF
open Go.RowKit Go.Hw
set_option linter.unusedVariables false
set_option linter.unusedSimpArgs false

section
variable {P : Program} {ops : Array Oper} {Q : Exit → Act → World → Prop} {α : Type} {w0 : World} {Qt : Act → World → Prop} {dp : Nat → List Nat} {n : Nat} {md : Region.Mode} {fl : List Nat} {snk : Nat}

/-- what is said of an operation that makes memory: its value, what is true of it from then on, the block that it made -/
structure Ann (α : Type) where
  val : α → Value
  R : α → World → Prop
  st : ∀ x W W', R x W → Ext W W' → R x W'
  f : α → Option Nat
  lt : ∀ x W k, R x W → f x = some k → k < W.heap.size

variable {ann : Nat → Option (Ann α)}
abbrev Fct := Nat × Option Nat × (World → Prop)
/-- no block is made twice -/
def Apt (G : List Fct) : Prop := G.Pairwise fun g h => ∀ k, g.2.1 = some k → h.2.1 ≠ some k
/-- the walk, in the order of the text -/
def Can (P : Program) (ops : Array Oper) (Qt : Act → World → Prop) (w0 : World) (dp : Nat → List Nat) (ann : Nat → Option (Ann α)) : List Oper → Nat → List Fct → Act → Prop
  | [], _, G, a => ∀ W, Ext w0 W → (∀ g ∈ G, g.2.2 W) → Apt G → Qt a W
  | o :: r, i, G, a => match ann i with
    | none => if Region.wanted o (yielded ops a.tmps) then ∃ v, (∀ W, Ext w0 W → (∀ g ∈ G, g.1 ∈ dp i → g.2.2 W) → (execOp a.eval o).run P W = .ok (.value v) W) ∧ Can P ops Qt w0 dp ann r (i + 1) G (a.put o.dst v)
        else Can P ops Qt w0 dp ann r (i + 1) G (a.put o.dst undef)
    | some A => Region.wanted o (yielded ops a.tmps) = true ∧
        (∀ W, Ext w0 W → (∀ g ∈ G, g.1 ∈ dp i → g.2.2 W) → ∀ K : Act → World → Prop, (∀ x W', Ext W W' → A.R x W' → (∀ k, A.f x = some k → W.heap.size ≤ k) → K (a.put o.dst (A.val x)) W') → o.wp P a W K (fun _ _ _ => False)) ∧
        ∀ x, Can P ops Qt w0 dp ann r (i + 1) (G ++ [(i, A.f x, A.R x)]) (a.put o.dst (A.val x))

def FactAt (P : Program) (ops : Array Oper) (w0 : World) (dp : Nat → List Nat) (ann : Nat → Option (Ann α)) (X : Nat → α) (V : Nat → Value) (i : Nat) (o : Oper) (a : Act) : Prop :=
  match ann i with
  | none => (Region.wanted o (yielded ops a.tmps) = true → ∀ W, Ext w0 W → (∀ j A, j < i → j ∈ dp i → ann j = some A → A.R (X j) W) → (execOp a.eval o).run P W = .ok (.value (V i)) W) ∧
      (Region.wanted o (yielded ops a.tmps) = false → V i = undef)
  | some A => Region.wanted o (yielded ops a.tmps) = true ∧ V i = A.val (X i) ∧
      ∀ W, Ext w0 W → (∀ j A, j < i → j ∈ dp i → ann j = some A → A.R (X j) W) → ∀ K : Act → World → Prop, (∀ x W', Ext W W' → A.R x W' → (∀ k, A.f x = some k → W.heap.size ≤ k) → K (a.put o.dst (A.val x)) W') → o.wp P a W K (fun _ _ _ => False)

def Good (P : Program) (ops : Array Oper) (Qt : Act → World → Prop) (w0 : World) (dp : Nat → List Nat) (ann : Nat → Option (Ann α)) (X : Nat → α) (V : Nat → Value) : List Oper → Nat → Act → Prop
  | [], k, a => ∀ W, Ext w0 W → (∀ j A, j < k → ann j = some A → A.R (X j) W) → (∀ i j A B, i < k → j < k → i ≠ j → ann i = some A → ann j = some B → ∀ b, A.f (X i) = some b → B.f (X j) ≠ some b) → Qt a W
  | o :: r, k, a => FactAt P ops w0 dp ann X V k o a ∧ Good P ops Qt w0 dp ann X V r (k + 1) (a.put o.dst (V k))

theorem FactAt.congr {X : Nat → α} {V V' : Nat → Value} {i : Nat} {o : Oper} {a : Act} (h : V i = V' i) (hf : FactAt P ops w0 dp ann X V i o a) : FactAt P ops w0 dp ann X V' i o a := by
  unfold FactAt at *
  rw [← h]; exact hf
theorem Good.congr {X : Nat → α} {V V' : Nat → Value} : ∀ (r : List Oper) (k : Nat) (a : Act), (∀ j, k ≤ j → V j = V' j) → Good P ops Qt w0 dp ann X V r k a → Good P ops Qt w0 dp ann X V' r k a
  | [], _, _, _, h => h
  | o :: r, k, a, he, h => ⟨h.1.congr (he k (Nat.le_refl _)), by rw [← he k (Nat.le_refl _)]; exact Good.congr r (k + 1) _ (fun j hj => he j (by omega)) h.2⟩

theorem good_of_can (X : Nat → α) : ∀ (r : List Oper) (k : Nat) (G : List Fct) (a : Act), Can P ops Qt w0 dp ann r k G a →
    (∀ g ∈ G, ∃ A, ann g.1 = some A ∧ g.1 < k ∧ g.2 = (A.f (X g.1), A.R (X g.1))) → G.Pairwise (fun g h => g.1 ≠ h.1) → ∃ V, Good P ops Qt w0 dp ann X V r k a
  | [], k, G, a, h, hG, hN => ⟨fun _ => undef, fun W hW hR hD => h W hW (fun g hg => by obtain ⟨A, h1, h2, h3⟩ := hG g hg; rw [h3]; exact hR _ _ h2 h1) (by
      unfold Apt
      refine List.Pairwise.imp_of_mem (fun {g g'} hg hg' hne b e1 e2 => ?_) hN
      obtain ⟨A, h1, h2, h3⟩ := hG g hg
      obtain ⟨A', h1', h2', h3'⟩ := hG g' hg'
      rw [h3] at e1
      rw [h3'] at e2
      exact hD _ _ A A' h2 h2' hne h1 h1' b e1 e2)⟩
  | o :: r, k, G, a, h, hG, hN => by
    have hH : ∀ W, (∀ j A, j < k → j ∈ dp k → ann j = some A → A.R (X j) W) → ∀ g ∈ G, g.1 ∈ dp k → g.2.2 W := fun W hR g hg hd => by
      obtain ⟨A, h1, h2, h3⟩ := hG g hg
      rw [h3]; exact hR _ _ h2 hd h1
    unfold Can at h
    have hG' : ∀ g ∈ G, ∃ A, ann g.1 = some A ∧ g.1 < k + 1 ∧ g.2 = (A.f (X g.1), A.R (X g.1)) := fun g hg => by
      obtain ⟨A, h1, h2, h3⟩ := hG g hg
      exact ⟨A, h1, by omega, h3⟩
    cases ha : ann k with
    | none =>
      rw [ha] at h
      simp only at h
      by_cases hw : Region.wanted o (yielded ops a.tmps) = true
      · rw [if_pos hw] at h
        obtain ⟨v, hv, h⟩ := h
        obtain ⟨V, hV⟩ := good_of_can X r (k + 1) G _ h hG' hN
        refine ⟨fun j => if j = k then v else V j, ?_, ?_⟩
        · unfold FactAt
          rw [ha]
          simp only [if_true]
          exact ⟨fun _ W hW hR => hv W hW (hH W hR), fun h => by rw [hw] at h; cases h⟩
        · rw [show (fun j => if j = k then v else V j) k = v from if_pos rfl]
          exact hV.congr _ _ _ (fun j hj => by rw [if_neg (by omega)])
      · rw [if_neg hw] at h
        obtain ⟨V, hV⟩ := good_of_can X r (k + 1) G _ h hG' hN
        refine ⟨fun j => if j = k then undef else V j, ?_, ?_⟩
        · unfold FactAt
          rw [ha]
          simp only [if_true]
          exact ⟨fun h => absurd h hw, fun _ => trivial⟩
        · rw [show (fun j => if j = k then undef else V j) k = undef from if_pos rfl]
          exact hV.congr _ _ _ (fun j hj => by rw [if_neg (by omega)])
    | some A =>
      rw [ha] at h
      simp only at h
      obtain ⟨hw, hm, h⟩ := h
      obtain ⟨V, hV⟩ := good_of_can X r (k + 1) _ _ (h (X k)) (fun g hg => by
        rcases List.mem_append.1 hg with h1 | h1
        · exact hG' g h1
        · simp only [List.mem_singleton] at h1
          subst h1
          exact ⟨A, ha, Nat.lt_succ_self _, rfl⟩) (List.pairwise_append.2 ⟨hN, List.pairwise_singleton _ _, fun g hg g' hg' e => by
        rw [List.mem_singleton] at hg'
        subst hg'
        obtain ⟨_, _, h2, _⟩ := hG g hg
        simp only at e
        omega⟩)
      refine ⟨fun j => if j = k then A.val (X k) else V j, ?_, ?_⟩
      · unfold FactAt
        rw [ha]
        simp only [if_true]
        exact ⟨hw, trivial, fun W hW hR K hK => hm W hW (hH W hR) K hK⟩
      · rw [show (fun j => if j = k then A.val (X k) else V j) k = A.val (X k) from if_pos rfl]
        exact hV.congr _ _ _ (fun j hj => by rw [if_neg (by omega)])

theorem Good.at {X : Nat → α} {V : Nat → Value} : ∀ (r : List Oper) (k : Nat) (a : Act), Good P ops Qt w0 dp ann X V r k a → ∀ i o, r[i]? = some o → FactAt P ops w0 dp ann X V (k + i) o (frL V (r.take i) k a)
  | [], _, _, _, i, o, h => by simp at h
  | p :: r, k, a, h, 0, o, ho => by simp at ho; subst ho; exact h.1
  | p :: r, k, a, h, i + 1, o, ho => by
    rw [List.getElem?_cons_succ] at ho
    have := Good.at r (k + 1) _ h.2 i o ho
    rw [show k + (i + 1) = k + 1 + i by omega]
    exact this
theorem Good.fin {X : Nat → α} {V : Nat → Value} : ∀ (r : List Oper) (k : Nat) (a : Act), Good P ops Qt w0 dp ann X V r k a → ∀ W, Ext w0 W → (∀ j A, j < k + r.length → ann j = some A → A.R (X j) W) → (∀ i j A B, i < k + r.length → j < k + r.length → i ≠ j → ann i = some A → ann j = some B → ∀ b, A.f (X i) = some b → B.f (X j) ≠ some b) → Qt (frL V r k a) W
  | [], _, _, h, W, hW, hR, hD => h W hW hR hD
  | p :: r, k, a, h, W, hW, hR, hD => Good.fin r (k + 1) _ h.2 W hW (fun j A hj => hR j A (by simp only [List.length_cons]; omega)) (fun i j A B hi hj => hD i j A B (by simp only [List.length_cons]; omega) (by simp only [List.length_cons]; omega))
theorem Good.same {sz : Nat} {an : Nat → Bool} {tail : List (Nat × Nat)} (hp : ParS ops n sz dp an tail fl snk) {a0 : Act} {l : Array Bool} (hd : Deps .any ops l) (hsz : a0.tmps.size = sz) {X X' : Nat → α} {V V' : Nat → Value}
    (hV : Good P ops Qt w0 dp ann X V (ops.toList.take n) 0 a0) (hV' : Good P ops Qt w0 dp ann X' V' (ops.toList.take n) 0 a0) (hX : ∀ j, j < n → l.getD j false = true → X' j = X j)
    {W : World} (hW : Ext w0 W) (hR : ∀ j A, j < n → l.getD j false = true → ann j = some A → A.R (X j) W) : ∀ j, j < n → l.getD j false = true → V' j = V j := by
  intro j
  induction j using Nat.strongRecOn with
  | _ j ih =>
    intro hj hl
    have hjs : j < ops.size := Nat.lt_of_lt_of_le hj hp.le
    have ho : ops[j]? = some ops[j] := Array.getElem?_eq_getElem hjs
    have hot : (ops.toList.take n)[j]? = some ops[j] := by rw [List.getElem?_take_of_lt hj]; simp
    have hall : ∀ e ∈ ops[j].after, Region.binds .any e = true → l.getD e.on false = true := fun e he hb => hd.back j _ ho hl e he hb
    have f1 := hV.at _ _ _ j _ hot
    have f2 := hV'.at _ _ _ j _ hot
    rw [Nat.zero_add] at f1 f2
    rw [List.take_take, Nat.min_eq_left (Nat.le_of_lt hj)] at f1 f2
    have hclo := hp.closed hd j _ ho hall
    have hsame : ∀ t ∈ ops[j].looksAt ops, (frL V (ops.toList.take j) 0 a0).tmps[t]? = (frL V' (ops.toList.take j) 0 a0).tmps[t]? := by
      intro t ht
      by_cases hx : ∃ k p, k < j ∧ ops[k]? = some p ∧ p.dst = some t
      · obtain ⟨k, p, hk, hpk, hdk⟩ := hx
        have hkn : k < n := by omega
        have hkl : l.getD k false = true := by
          obtain ⟨e, he, hb, hon⟩ := hp.reads j k _ p t hj hkn ho hpk ht hdk
          have := hall e he hb
          rw [hon] at this; exact this
        have hu : ∀ (i : Nat) q, (ops.toList.take j)[i]? = some q → q.dst = some t → i = k := fun i q hq hqd => by
          have hi : i < j := by
            have := (List.getElem?_eq_some_iff.1 hq).1
            rw [List.length_take] at this; omega
          rw [List.getElem?_take_of_lt hi] at hq
          exact hp.uniq k i p q t hkn (by omega) hpk (by simpa using hq) hdk hqd
        have hk2 : (ops.toList.take j)[k]? = some p := by rw [List.getElem?_take_of_lt hk]; simpa using hpk
        rw [frL_in V t _ 0 a0 k p hk2 hdk (by rw [hsz]; exact hp.dst _ _ _ hkn hpk hdk) hu, frL_in V' t _ 0 a0 k p hk2 hdk (by rw [hsz]; exact hp.dst _ _ _ hkn hpk hdk) hu, Nat.zero_add, ih k hk hkn hkl]
      · have hno : ∀ (k : Nat) p, (ops.toList.take j)[k]? = some p → p.dst ≠ some t := fun k p hpk hdk => by
          have hk : k < j := by
            have := (List.getElem?_eq_some_iff.1 hpk).1
            rw [List.length_take] at this; omega
          rw [List.getElem?_take_of_lt hk] at hpk
          exact hx ⟨k, p, hk, by simpa using hpk, hdk⟩
        rw [frL_out V t _ 0 a0 hno, frL_out V' t _ 0 a0 hno]
    obtain ⟨s1, s2⟩ := same_at (ops := ops) (fun cs b => Region.noSelect_spec hp.nosel j _ cs b ho) hsame
    unfold FactAt at f1 f2
    cases ha : ann j with
    | none =>
      rw [ha] at f1 f2
      simp only at f1 f2
      cases hw : Region.wanted ops[j] (yielded ops (frL V (ops.toList.take j) 0 a0).tmps) with
      | true =>
        have r1 := f1.1 hw W hW (fun k A hk hdk hak => hR k A (by omega) (hclo k hdk) hak)
        have r2 := f2.1 (by rw [← s2]; exact hw) W hW (fun k A hk hdk hak => by rw [hX k (by omega) (hclo k hdk)]; exact hR k A (by omega) (hclo k hdk) hak)
        rw [← s1, r1] at r2
        injection r2 with r2
        injection r2 with r2
        exact r2.symm
      | false => rw [f1.2 hw, f2.2 (by rw [← s2]; exact hw)]
    | some A =>
      rw [ha] at f1 f2
      simp only at f1 f2
      rw [f1.2.1, f2.2.1, hX j hj hl]
/-- a step that was walked in the order of the text is one of the state -/
theorem mix_floats {sz : Nat} {an : Nat → Bool} {tail : List (Nat × Nat)} {l0 : List Oper} (hp : ParS l0.toArray n sz dp an tail fl snk) (han : ∀ i, (ann i).isSome = an i) {a0 : Act} (hsz : a0.tmps.size = sz) {W : World} (hW : Ext w0 W) {X : Nat → α} {V : Nat → Value}
    (hV : Good P l0.toArray (fun a W => wpMix P l0.toArray Q (fun _ => True) (pickO l0 tail) a W) w0 dp ann X V (l0.take n) 0 a0) (hR : ∀ j A, j < n → ann j = some A → A.R (X j) W) (hD : ∀ i j A B, i < n → j < n → i ≠ j → ann i = some A → ann j = some B → ∀ b, A.f (X i) = some b → B.f (X j) ≠ some b) :
    ∀ (U : List Nat) (l : Array Bool) (b : Act), Deps .any l0.toArray l → (∀ j ∈ U, j < n ∧ fl.contains j = true) → (∀ j, j < n → l.getD j false = false → j ∈ U) →
      mixB .any l0.toArray snk (U.map (fun k => (k, 0)) ++ tail) l = true → FrS l0.toArray n a0 l V b → wpMix P l0.toArray Q (fun _ => True) (pickO l0 (U.map (fun k => (k, 0)) ++ tail)) b W := by
  intro U
  induction U with
  | nil =>
    intro l b hd _ hU _ hF
    have hall : ∀ j, j < n → l.getD j false = true := fun j hj => by
      cases h : l.getD j false with
      | true => rfl
      | false => cases hU j hj h
    have hb := hF.all hp hsz hall
    have hfin := hV.fin _ _ _ W hW (fun j A hj ha => hR j A (by simp at hj; omega) ha) (fun i j A B hi hj => hD i j A B (by simp at hi; omega) (by simp at hj; omega))
    rw [hb]
    exact hfin
  | cons i U ih =>
    intro l b hd hUn hU hB hF
    simp only [List.map_cons, List.cons_append] at hB ⊢
    simp only [mixB, Bool.and_eq_true, decide_eq_true_eq, Bool.not_eq_true'] at hB
    obtain ⟨⟨⟨⟨hi, _⟩, _⟩, _⟩, hB⟩ := hB
    have hi : i ∈ Region.ready .any l0.toArray l := by simpa using hi
    obtain ⟨hin, hfl⟩ := hUn i (List.mem_cons_self)
    obtain ⟨hun, o, ho, hall⟩ := mem_ready.1 hi
    have ho' : l0[i]? = some o := by simpa using ho
    obtain ⟨hfo, hann⟩ := hp.flo i o hin hfl ho
    have hclo := hp.closed hd i o ho hall
    have hot : (l0.take n)[i]? = some o := by rw [List.getElem?_take_of_lt hin]; simpa using ho
    have fa := hV.at _ _ _ i _ hot
    rw [Nat.zero_add, List.take_take, Nat.min_eq_left (Nat.le_of_lt hin)] at fa
    have hlook := hF.look hp hsz hin ho hall
    obtain ⟨s1, s2⟩ := same_at (ops := l0.toArray) (fun cs b => Region.noSelect_spec hp.nosel i _ cs b ho) hlook
    have s1 : execOp (frL V (l0.take i) 0 a0).eval o = execOp b.eval o := s1
    have s2 : Region.wanted o (yielded l0.toArray (frL V (l0.take i) 0 a0).tmps) = Region.wanted o (yielded l0.toArray b.tmps) := s2
    have ha : ann i = none := by
      have := han i
      rw [hann] at this
      cases h : ann i with
      | none => rfl
      | some A => rw [h] at this; cases this
    unfold FactAt at fa
    rw [ha] at fa
    simp only at fa
    have hnext := ih (l.setIfInBounds i true) (b.put o.dst (V i)) (hd.step hi) (fun j hj => hUn j (List.mem_cons_of_mem _ hj)) (fun j hj hl => by
      by_cases e : i = j
      · subst e
        exfalso
        have his : i < l.size := by rw [hd.size]; exact (Array.getElem?_eq_some_iff.1 ho).1
        simp [his] at hl
      · rw [getD_set_ne false e] at hl
        rcases List.mem_cons.1 (hU j hj hl) with h | h
        · exact absurd h.symm e
        · exact h) hB (hF.step hp hsz hin ho (fun _ _ _ => rfl))
    simp only [pickO, ho', wpMix]
    cases hw : Region.wanted o (yielded l0.toArray b.tmps) with
    | true =>
      rw [if_pos rfl]
      have hr := fa.1 (by rw [s2]; exact hw) W hW (fun j A hj hdj haj => hR j A (by omega) haj)
      rw [s1] at hr
      exact ⟨V i, fun W' _ => float_run hfo hr W', hnext⟩
    | false =>
      rw [if_neg (by simp)]
      have hv := fa.2 (by rw [s2]; exact hw)
      rw [← hv]
      exact hnext
theorem par_fin {sz : Nat} {an : Nat → Bool} {tail : List (Nat × Nat)} {l0 : List Oper} (hp : ParS l0.toArray n sz dp an tail fl snk) (han : ∀ i, (ann i).isSome = an i)
    (hQ : ∀ c a d v w, Q (.panic c) (Act.put a d v) w → Q (.panic c) a w) {a0 : Act} (hsz : a0.tmps.size = sz) {f : Nat} {l : Array Bool} {b : Act} {W : World} {X : Nat → α} {V : Nat → Value} (hd : Deps .any l0.toArray l) (hout : ∀ j, n ≤ j → l.getD j false = false) (hW : Ext w0 W)
    (hR : ∀ j A, j < n → l.getD j false = true → ann j = some A → A.R (X j) W) (hD : ∀ i j A B, i < n → j < n → l.getD i false = true → l.getD j false = true → i ≠ j → ann i = some A → ann j = some B → ∀ b, A.f (X i) = some b → B.f (X j) ≠ some b)
    (hV : Good P l0.toArray (fun a W => wpMix P l0.toArray Q (fun _ => True) (pickO l0 tail) a W) w0 dp ann X V (l0.take n) 0 a0)
    (hF : FrS l0.toArray n a0 l V b) (hall : ∀ j, j < n → fl.contains j = false → l.getD j false = true) (hf : remN n l + tail.length ≤ f) : wpAny P .any l0.toArray Q f l b W := by
  have hUf : ∀ j ∈ ((List.range n).filter fun j => !l.getD j false), j < n ∧ fl.contains j = true := fun j hj => by
    obtain ⟨h1, h2⟩ := List.mem_filter.1 hj
    have h1 := List.mem_range.1 h1
    refine ⟨h1, ?_⟩
    cases hc : fl.contains j with
    | true => rfl
    | false => have := hall j h1 hc; rw [this] at h2; cases h2
  have hUs : ((List.range n).filter fun j => !l.getD j false) ∈ subs ((List.range n).filter fun j => fl.contains j) := by
    have := filter_subs (fun j => !l.getD j false) ((List.range n).filter fun j => fl.contains j)
    rw [List.filter_filter] at this
    have e : ((List.range n).filter fun j => !l.getD j false) = ((List.range n).filter fun j => (!l.getD j false) && fl.contains j) := by
      apply List.filter_congr
      intro j hj
      cases hl : l.getD j false with
      | true => rfl
      | false =>
        have := hUf j (List.mem_filter.2 ⟨hj, by rw [hl]; rfl⟩)
        rw [this.2]; rfl
    rw [e]; exact this
  have hm := hp.mix _ hUs
  have hl : l = Array.ofFn (n := l0.toArray.size) fun j => decide (j.val < n) && !((List.range n).filter fun j => !l.getD j false).contains j.val := by
    apply Array.ext
    · simp [hd.size]
    · intro j h1 h2
      rw [Array.getElem_ofFn]
      have hg : l.getD j false = l[j] := by rw [Array.getD_eq_getD_getElem?, Array.getElem?_eq_getElem h1]; rfl
      by_cases hj : j < n
      · simp only [hj, decide_true, Bool.true_and]
        rw [← hg]
        cases h : l.getD j false with
        | true => simp [h, -Array.getD_eq_getD_getElem?]
        | false => simp [h, hj, -Array.getD_eq_getD_getElem?]
      · have := hout j (by omega)
        rw [← hg, this]
        simp [hj]
  rw [← hl] at hm
  have hlen : (((List.range n).filter fun j => !l.getD j false).map (fun k => (k, 0)) ++ tail).length ≤ f := by
    rw [List.length_append, List.length_map]
    exact hf
  have hAl : ∀ j A, j < n → ann j = some A → l.getD j false = true := fun j A hj ha => by
    refine hall j hj ?_
    cases hc : fl.contains j with
    | false => rfl
    | true =>
      have hjs : j < l0.toArray.size := Nat.lt_of_lt_of_le hj hp.le
      have := (hp.flo j _ hj hc (Array.getElem?_eq_getElem hjs)).2
      rw [← han, ha] at this; cases this
  have hR2 : ∀ j A, j < n → ann j = some A → A.R (X j) W := fun j A hj ha => hR j A hj (hAl j A hj ha) ha
  have hD2 : ∀ i j A B, i < n → j < n → i ≠ j → ann i = some A → ann j = some B → ∀ b, A.f (X i) = some b → B.f (X j) ≠ some b := fun i j A B hi hj hne ha hb => hD i j A B hi hj (hAl i A hi ha) (hAl j B hj hb) hne ha hb
  have h2 := mix_floats (Q := Q) hp han hsz hW hV hR2 hD2 _ l b hd hUf (fun j hj h => List.mem_filter.2 ⟨List.mem_range.2 hj, by rw [h]; rfl⟩) hm hF
  have h3 := wpTill_of_mix (P := P) (S := fun _ => True) (n := snk) hp.nosel hp.sink hQ _ l b W hd (.inl trivial) hm h2
  exact wpAny_le hlen (wpAny_of_till _ _ _ _ h3)
theorem par_sound {sz : Nat} {an : Nat → Bool} {tail : List (Nat × Nat)} {l0 : List Oper} [Inhabited α] (hp : ParS l0.toArray n sz dp an tail fl snk) (han : ∀ i, (ann i).isSome = an i)
    (hQ : ∀ c a d v w, Q (.panic c) (Act.put a d v) w → Q (.panic c) a w) {a0 : Act} (hsz : a0.tmps.size = sz)
    (hC : Can P l0.toArray (fun a W => wpMix P l0.toArray Q (fun _ => True) (pickO l0 tail) a W) w0 dp ann (l0.take n) 0 [] a0) :
    ∀ (f : Nat) (l : Array Bool) (b : Act) (W : World) (X : Nat → α) (V : Nat → Value), Deps .any l0.toArray l → (∀ j, n ≤ j → l.getD j false = false) → Ext w0 W →
      (∀ j A, j < n → l.getD j false = true → ann j = some A → A.R (X j) W) →
      (∀ i j A B, i < n → j < n → l.getD i false = true → l.getD j false = true → i ≠ j → ann i = some A → ann j = some B → ∀ b, A.f (X i) = some b → B.f (X j) ≠ some b) →
      Good P l0.toArray (fun a W => wpMix P l0.toArray Q (fun _ => True) (pickO l0 tail) a W) w0 dp ann X V (l0.take n) 0 a0 →
      FrS l0.toArray n a0 l V b → remN n l + tail.length ≤ f → wpAny P .any l0.toArray Q f l b W := by
  intro f
  induction f with
  | zero =>
    intro l b W X V hd hout hW hR hD hV hF hf
    have hr0 : remN n l = 0 := by omega
    have hall := remN_zero hr0
    exact par_fin hp han hQ hsz hd hout hW hR hD hV hF (fun j hj _ => hall j hj) hf
  | succ f ih =>
    intro l b W X V hd hout hW hR hD hV hF hf
    by_cases hr0 : ∀ j, j < n → fl.contains j = false → l.getD j false = true
    · exact par_fin hp han hQ hsz hd hout hW hR hD hV hF hr0 hf
    · have hund : ∃ j, j < n ∧ fl.contains j = false ∧ l.getD j false = false := by
        by_cases h : ∃ j, j < n ∧ fl.contains j = false ∧ l.getD j false = false
        · exact h
        · exfalso
          apply hr0
          intro j hj hfl
          cases hl : l.getD j false with
          | true => rfl
          | false => exact absurd ⟨j, hj, hfl, hl⟩ h
      refine ⟨fun hr => ?_, fun i hi => ?_⟩
      · exfalso
        obtain ⟨j0, hj0, _, hl0⟩ := hund
        have hmin : ∀ k, ∀ j, j ≤ k → j < n → l.getD j false = false → False := by
          intro k
          induction k using Nat.strongRecOn with
          | _ k ihk =>
            intro j hjk hj hl
            have hjs : j < l0.toArray.size := Nat.lt_of_lt_of_le hj hp.le
            have ho : l0.toArray[j]? = some l0.toArray[j] := Array.getElem?_eq_getElem hjs
            have hready : j ∈ Region.ready .any l0.toArray l := by
              rw [mem_ready]
              refine ⟨getD_tf (by rw [hd.size]; exact hjs) hl, _, ho, fun e he hb => ?_⟩
              have hlt := hp.lt j _ hj ho e he hb
              cases h : l.getD e.on false with
              | true => rfl
              | false => exact (ihk e.on (by omega) e.on (Nat.le_refl _) (by omega) h).elim
            rw [hr] at hready
            cases hready
        exact hmin j0 j0 (Nat.le_refl _) hj0 hl0
      · obtain ⟨hun, o, ho, hall⟩ := mem_ready.1 hi
        have his : i < l0.toArray.size := (Array.getElem?_eq_some_iff.1 ho).1
        have hclo := hp.closed hd i o ho hall
        have hin : i < n := by
          rcases Nat.lt_or_ge i n with h | h
          · exact h
          · exfalso
            obtain ⟨j, hj, hfl, hl⟩ := hund
            have := hclo j (hp.rest i j h his hj hfl)
            rw [hl] at this; cases this
        have hot : (l0.take n)[i]? = some o := by rw [List.getElem?_take_of_lt hin]; simpa using ho
        have fa := hV.at _ _ _ i _ hot
        rw [Nat.zero_add, List.take_take, Nat.min_eq_left (Nat.le_of_lt hin)] at fa
        have hlook := hF.look hp hsz hin ho hall
        obtain ⟨s1, s2⟩ := same_at (ops := l0.toArray) (fun cs b => Region.noSelect_spec hp.nosel i _ cs b ho) hlook
        have s1 : execOp (frL V (l0.take i) 0 a0).eval o = execOp b.eval o := s1
        have s2 : Region.wanted o (yielded l0.toArray (frL V (l0.take i) 0 a0).tmps) = Region.wanted o (yielded l0.toArray b.tmps) := s2
        have hout' : ∀ j, n ≤ j → (l.setIfInBounds i true).getD j false = false := fun j hj => by rw [getD_set_ne false (by omega)]; exact hout j hj
        have hrem := remN_step hin hun
        unfold wpOp
        rw [ho]
        simp only
        unfold FactAt at fa
        cases ha : ann i with
        | none =>
          rw [ha] at fa
          simp only at fa
          have hR' : ∀ W', Ext W W' → ∀ j A, j < n → (l.setIfInBounds i true).getD j false = true → ann j = some A → A.R (X j) W' := fun W' hW' j A hj hl haj => by
            by_cases e : j = i
            · subst e; rw [ha] at haj; cases haj
            · rw [getD_set_ne false (Ne.symm e)] at hl
              exact A.st _ _ _ (hR j A hj hl haj) hW'
          have hD' : ∀ i' j A B, i' < n → j < n → (l.setIfInBounds i true).getD i' false = true → (l.setIfInBounds i true).getD j false = true → i' ≠ j → ann i' = some A → ann j = some B → ∀ b, A.f (X i') = some b → B.f (X j) ≠ some b := fun i' j A B hi' hj hl1 hl2 hne h1 h2 => by
            have e1 : i' ≠ i := fun e => by subst e; rw [ha] at h1; cases h1
            have e2 : j ≠ i := fun e => by subst e; rw [ha] at h2; cases h2
            rw [getD_set_ne false (Ne.symm e1)] at hl1
            rw [getD_set_ne false (Ne.symm e2)] at hl2
            exact hD i' j A B hi' hj hl1 hl2 hne h1 h2
          cases hw : Region.wanted o (yielded l0.toArray b.tmps) with
          | true =>
            rw [if_pos rfl]
            refine .inl ?_
            have hr := fa.1 (by rw [s2]; exact hw) W hW (fun j A hj hdj haj => hR j A (by omega) (hclo j hdj) haj)
            rw [s1] at hr
            unfold Oper.wp
            rw [hr]
            exact ih _ _ _ X V (hd.step hi) hout' hW (hR' W (Upd.refl _ _)) hD' hV (hF.step hp hsz hin ho (fun _ _ _ => rfl)) (by omega)
          | false =>
            rw [if_neg (by simp)]
            have hv := fa.2 (by rw [s2]; exact hw)
            rw [← hv]
            exact ih _ _ _ X V (hd.step hi) hout' hW (hR' W (Upd.refl _ _)) hD' hV (hF.step hp hsz hin ho (fun _ _ _ => rfl)) (by omega)
        | some A =>
          rw [ha] at fa
          simp only at fa
          obtain ⟨hw, hVi, hm⟩ := fa
          rw [s2] at hw
          rw [if_pos hw]
          refine .inl ?_
          obtain ⟨d, hdd⟩ := hp.some_ i o hin ho (by rw [← han, ha]; rfl)
          have hds := hp.dst i o d hin ho hdd
          have hfs := frL_size V (l0.take i) 0 a0
          refine wp_transfer (K := fun a' W' => a'.defers = (frL V (l0.take i) 0 a0).defers ∧ ∃ x, a'.tmps[d]? = some (A.val x) ∧ Ext W W' ∧ A.R x W' ∧ ∀ k, A.f x = some k → W.heap.size ≤ k) s1 (fun v W' hK => ?_) (fun _ _ h => h.1) (hm W hW (fun j B hj hdj haj => hR j B (by omega) (hclo j hdj) haj) _ (fun x W' hE hRx hfr => ⟨put_defers' _ _ _, x, by rw [hdd]; exact put_eq _ _ _ (by rw [hfs.1, hsz]; exact hds), hE, hRx, hfr⟩))
          obtain ⟨_, x, hx, hE, hRx, hfr⟩ := hK
          rw [hdd, put_eq _ _ _ (by rw [hfs.1, hsz]; exact hds)] at hx
          have hvx : v = A.val x := Option.some.inj hx
          obtain ⟨V', hV'⟩ := good_of_can (fun j => if j = i then x else X j) _ _ _ _ hC (fun g hg => by cases hg) List.Pairwise.nil
          have hRW : ∀ j B, j < n → l.getD j false = true → ann j = some B → B.R (X j) W' := fun j B hj hl haj => B.st _ _ _ (hR j B hj hl haj) hE
          have hne : ∀ j, l.getD j false = true → j ≠ i := fun j hl e => by subst e; rw [getD_ff hun] at hl; cases hl
          have hsame := Good.same hp hd hsz hV hV' (fun j hj hl => if_neg (hne j hl)) (hW.ext hE) hRW
          have fa' := hV'.at _ _ _ i _ hot
          rw [Nat.zero_add] at fa'
          unfold FactAt at fa'
          rw [ha] at fa'
          simp only [if_true] at fa'
          rw [hvx, ← fa'.2.1]
          refine ih _ _ _ (fun j => if j = i then x else X j) V' (hd.step hi) hout' (hW.ext hE) (fun j B hj hl haj => ?_) (fun i' j A1 B hi' hj hl1 hl2 hnq h1 h2 b e1 e2 => ?_) hV' (hF.step hp hsz hin ho hsame) (by omega)
          · by_cases e : j = i
            · subst e
              rw [ha] at haj
              obtain rfl := Option.some.inj haj
              simp only [if_true]
              exact hRx
            rw [getD_set_ne false (Ne.symm e)] at hl
            simp only [if_neg e]
            exact hRW j B hj hl haj
          by_cases c1 : i' = i
          · subst c1
            have c2 : ¬ j = i' := fun e => hnq e.symm
            rw [ha] at h1
            obtain rfl := Option.some.inj h1
            simp only [if_true] at e1
            simp only [if_neg c2] at e2
            rw [getD_set_ne false (fun e => c2 e.symm)] at hl2
            have k1 := hfr b e1
            have k2 := B.lt _ _ b (hR j B hj hl2 h2) e2
            omega
          · by_cases c2 : j = i
            · subst c2
              rw [ha] at h2
              obtain rfl := Option.some.inj h2
              simp only [if_true] at e2
              simp only [if_neg c1] at e1
              rw [getD_set_ne false (fun e => c1 e.symm)] at hl1
              have k1 := hfr b e2
              have k2 := A1.lt _ _ b (hR i' A1 hi' hl1 h1) e1
              omega
            · simp only [if_neg c1] at e1
              simp only [if_neg c2] at e2
              rw [getD_set_ne false (fun e => c1 e.symm)] at hl1
              rw [getD_set_ne false (fun e => c2 e.symm)] at hl2
              exact hD i' j A1 B hi' hj hl1 hl2 hnq h1 h2 b e1 e2
/-- ONE WALK SERVES EVERY ORDER: the first n operations in the order of the text, each memory maker said by what it leaves; then the rest -/
theorem wp_region_parF {id : Nat} {a : Act} {w : World} {l0 : List Oper} [Inhabited α] (n : Nat) (fl : List Nat) (snk : Nat) (tail : List (Nat × Nat)) (dpl : List (List Nat)) (anl : List (Option (Ann α))) (anb : List Bool) (hm : P.follows .mixedOrders = true)
    (hB : parFB l0.toArray n a.tmps.size (fun i => dpl.getD i []) (fun i => anb.getD i false) fl snk tail = true) (han : anl.map (·.isSome) = anb)
    (hQ : ∀ c a d v w, Q (.panic c) (Act.put a d v) w → Q (.panic c) a w)
    (h : Can P l0.toArray (fun a W => wpMix P l0.toArray Q (fun _ => True) (pickO l0 tail) a W) w (fun i => dpl.getD i []) (fun i => anl.getD i none) (l0.take n) 0 [] a) : (Code.region id l0.toArray true).wp P Q a w := by
  have hp := parS_of hB
  refine wp_region_any hm ?_
  have hW : Ext w { w with drawn := w.drawn + 1 } := ⟨rfl, rfl, rfl, Nat.le_refl _, fun _ _ _ => rfl⟩
  obtain ⟨V, hV⟩ := good_of_can (fun _ => default) _ _ _ _ h (fun g hg => by cases hg) List.Pairwise.nil
  have hf : ∀ j, (Array.replicate l0.toArray.size false).getD j false = false := fun j => by
    rcases Nat.lt_or_ge j l0.length with h | h <;> simp [h]
  refine par_sound hp (fun i => ?_) hQ rfl h _ _ _ _ _ V Deps.start (fun j _ => hf j) hW (fun j A _ hl => by rw [hf] at hl; cases hl) (fun i j A B _ _ hl => by rw [hf] at hl; cases hl) hV FrS.start ?_
  · rw [← han]
    simp only [List.getD_eq_getElem?_getD, List.getElem?_map]
    cases anl[i]? <;> rfl
  · have h1 : remN n (Array.replicate l0.toArray.size false) ≤ n := by
      unfold remN
      exact Nat.le_trans (List.length_filter_le _ _) (by simp)
    have := hp.len
    omega
theorem can_pure {o : Oper} {r : List Oper} {i : Nat} {G : List Fct} {a : Act} (ha : ann i = none)
    (h : ∀ K : Act → Prop, (∀ a, Can P ops Qt w0 dp ann r (i + 1) G a → K a) → if Region.wanted o (yielded ops a.tmps) then ∃ v, (∀ W, Ext w0 W → (∀ g ∈ G, g.1 ∈ dp i → g.2.2 W) → (execOp a.eval o).run P W = .ok (.value v) W) ∧ K (a.put o.dst v) else K (a.put o.dst undef)) :
    Can P ops Qt w0 dp ann (o :: r) i G a := by
  unfold Can
  rw [ha]
  exact h _ (fun _ h => h)
theorem can_mem {o : Oper} {r : List Oper} {i : Nat} {G : List Fct} {a : Act} (A : Ann α) (ha : ann i = some A) (hw : Region.wanted o (yielded ops a.tmps) = true)
    (h1 : ∀ W, Ext w0 W → (∀ g ∈ G, g.1 ∈ dp i → g.2.2 W) → ∀ K : Act → World → Prop, (∀ x W', Ext W W' → A.R x W' → (∀ k, A.f x = some k → W.heap.size ≤ k) → K (a.put o.dst (A.val x)) W') → o.wp P a W K (fun _ _ _ => False))
    (h2 : ∀ K : Act → Prop, ∀ x, (∀ a, Can P ops Qt w0 dp ann r (i + 1) (G ++ [(i, A.f x, A.R x)]) a → K a) → K (a.put o.dst (A.val x))) :
    Can P ops Qt w0 dp ann (o :: r) i G a := by
  unfold Can
  rw [ha]
  exact ⟨hw, h1, fun x => h2 _ x (fun _ h => h)⟩
theorem can_end {i : Nat} {G : List Fct} {a : Act} (h : ∀ W, Ext w0 W → (∀ g ∈ G, g.2.2 W) → Apt G → Qt a W) : Can P ops Qt w0 dp ann [] i G a := h

/-- an operation that only computes, or reads what was there -/
theorem can_pure0 {o : Oper} {r : List Oper} {i : Nat} {G : List Fct} {a : Act} (ha : ann i = none)
    (h : ∀ K : Act → Prop, (∀ a, Can P ops Qt w0 dp ann r (i + 1) G a → K a) → if Region.wanted o (yielded ops a.tmps) then ∃ v, (∀ x : XW w0, (execOp a.eval o).run P x.val = .ok (.value v) x.val) ∧ K (a.put o.dst v) else K (a.put o.dst undef)) :
    Can P ops Qt w0 dp ann (o :: r) i G a := by
  refine can_pure ha fun K hK => ?_
  have h2 := h K hK
  by_cases hw : Region.wanted o (yielded ops a.tmps) = true
  · rw [if_pos hw] at h2 ⊢
    obtain ⟨v, hv, h3⟩ := h2
    exact ⟨v, fun W hW _ => hv ⟨W, hW⟩, h3⟩
  · rw [if_neg hw] at h2 ⊢; exact h2
end
end Go.Hw.PF

/- What is well-formed, in its parts: pure. -/
namespace Go.Hw
open Tm
set_option linter.unusedVariables false
set_option linter.unusedSimpArgs false
theorem nodesD_depth : ∀ (t : Tm) (d N : Nat), (∀ p ∈ nodesD d t, p.2 ≤ N) ↔ d + t.depth ≤ N + 1 := by
  refine Tm.ind (fun n s L ih => ?_)
  intro d N
  rw [nodesD_eq, depth_eq]
  simp only [Tm.kids]
  have key : ∀ (L : List Tm) (d : Nat), (∀ x ∈ L, ∀ d N, (∀ p ∈ nodesD d x, p.2 ≤ N) ↔ d + x.depth ≤ N + 1) → d ≤ N + 1 → ((∀ p ∈ nodesDs d L, p.2 ≤ N) ↔ d + depths L ≤ N + 1) := by
    intro L
    induction L with
    | nil => intro d _ hd; exact ⟨fun _ => by simpa [depths] using hd, fun _ p hp => by cases hp⟩
    | cons a L ihL =>
      intro d hx hd
      have h1 := hx a (List.mem_cons_self ..) d N
      have h2 := ihL d (fun x hx' => hx x (List.mem_cons_of_mem _ hx')) hd
      simp only [nodesDs, depths]
      constructor
      · intro h
        have g1 := h1.1 (fun p hp => h p (List.mem_append_left _ hp))
        have g2 := h2.1 (fun p hp => h p (List.mem_append_right _ hp))
        omega
      · intro h p hp
        rcases List.mem_append.1 hp with hp | hp
        · exact h1.2 (by omega) p hp
        · exact h2.2 (by omega) p hp
  constructor
  · intro h
    have h0 : d ≤ N := h _ (List.mem_cons_self ..)
    have := (key L (d + 1) ih (by omega)).1 (fun p hp => h p (List.mem_cons_of_mem _ hp))
    omega
  · intro h p hp
    rcases List.mem_cons.1 hp with e | hp
    · rw [e]; show d ≤ N; omega
    · exact (key L (d + 1) ih (by omega)).2 (by omega) p hp
/-- a node by itself -/
def NdOk (nm : By → Bool) (x : Tm) : Prop := nm x.name = true ∧ x.kids.length ≤ 6 ∧ (x.sort = nul ∨ nm x.sort = true ∧ x.kids = [])
theorem wf_iff {nm : By → Bool} {t : Tm} : wf nm t = true ↔ t.size ≤ 1000 ∧ t.depth ≤ 60 ∧ (∀ x ∈ sbts t, NdOk nm x) ∧ Cons (vof t) := by
  unfold wf
  rw [Bool.and_eq_true, formed_iff, sortsT_iff]
  have hm : ∀ P : Tm → Prop, (∀ x ∈ sbts t, P x) ↔ ∀ p ∈ nodesD 1 t, P p.1 := fun P => by
    unfold sbts
    rw [nodesD_fst t 0 1]
    constructor
    · intro h p hp
      exact h _ (List.mem_map_of_mem hp)
    · intro h x hx
      obtain ⟨p, hp, rfl⟩ := List.mem_map.1 hx
      exact h p hp
  have hok : ∀ p : Tm × Nat, okN nm p = true ↔ p.2 ≤ 60 ∧ NdOk nm p.1 := fun p => by
    unfold okN NdOk
    simp only [Bool.and_eq_true, Bool.or_eq_true, decide_eq_true_eq]
    constructor
    · rintro ⟨h1, h2, h3, h4⟩
      refine ⟨h1, h2, h3, ?_⟩
      rcases h4 with h4 | ⟨h4, h5⟩
      · exact .inl h4
      · exact .inr ⟨h4, List.eq_nil_of_length_eq_zero h5⟩
    · rintro ⟨h1, h2, h3, h4⟩
      refine ⟨h1, h2, h3, ?_⟩
      rcases h4 with h4 | ⟨h4, h5⟩
      · exact .inl h4
      · exact .inr ⟨h4, by rw [h5]; rfl⟩
  have hd := nodesD_depth t 1 60
  have hn := hm (NdOk nm)
  constructor
  · rintro ⟨⟨h1, h2⟩, h3⟩
    exact ⟨h1, by have := hd.1 (fun p hp => ((hok p).1 (h2 p hp)).1); omega, hn.2 (fun p hp => ((hok p).1 (h2 p hp)).2), h3⟩
  · rintro ⟨h1, h2, h3, h4⟩
    exact ⟨⟨h1, fun p hp => (hok p).2 ⟨hd.2 (by omega) p hp, hn.1 h3 p hp⟩⟩, h4⟩
theorem nop_of {nm : By → Bool} {t : Tm} (h : ∀ x ∈ sbts t, NdOk nm x) : NoP t := fun x hx hs => (h x hx).2.2.elim (fun e => absurd e hs) (fun e => e.2)
theorem wf_nop' {nm : By → Bool} {t : Tm} (h : wf nm t = true) : NoP t := nop_of (wf_iff.1 h).2.2.1
theorem varsT_mem {nm : By → Bool} {t : Tm} (h : wf nm t = true) : AscK (Prod.fst : Vd → By) (varsT t) ∧ ∀ f, f ∈ varsT t ↔ f ∈ vof t := by
  have hs : (sortsT t).isSome = true := by
    unfold wf at h
    rw [Bool.and_eq_true] at h
    exact h.2
  obtain ⟨m, hm⟩ := Option.isSome_iff_exists.1 hs
  obtain ⟨_, h1⟩ := vFold_spec (vl (sbts t)) [] [] List.Pairwise.nil (fun _ => rfl) (fun _ => Iff.rfl)
  obtain ⟨a, _, b⟩ := h1 m hm
  have hnil : Cons [] := fun f hf => by cases hf
  obtain ⟨h2, _⟩ := sFold_spec (vl (sbts t)) [] hnil
  obtain ⟨_, c, _⟩ := h2 m hm
  refine ⟨a, fun f => ?_⟩
  show f ∈ (vFold [] (vl (sbts t))).1 ↔ f ∈ vl (sbts t)
  rw [b f, c f]
  simp
/-- the nodes of what a substitution makes -/
theorem sbts_sbT {σ : Su} : ∀ t : Tm, ∀ x ∈ sbts (sbT σ t), (∃ y ∈ sbts t, y.sort = nul ∧ x.sort = nul ∧ x.name = y.name ∧ x.kids.length = y.kids.length) ∨ ∃ f ∈ vof t, x ∈ sbts (σ f.1 f.2) := by
  refine Tm.ind (fun n s L ih => ?_)
  intro x hx
  by_cases hs : s = nul
  · subst hs
    rw [sbT_opn, sbts_eq, List.mem_cons] at hx
    rcases hx with e | hx
    · subst e
      exact .inl ⟨_, mem_sbts_self _, rfl, rfl, rfl, by simp [Tm.kids]⟩
    · obtain ⟨y, hy, hx⟩ := List.mem_flatMap.1 hx
      obtain ⟨z, hz, rfl⟩ := List.mem_map.1 hy
      rcases ih z hz x hx with ⟨y, hy, h⟩ | ⟨f, hf, h⟩
      · exact .inl ⟨y, mem_sbts_kid (t := .mk n nul L) hz hy, h⟩
      · exact .inr ⟨f, by rw [vof_op]; exact List.mem_flatMap.2 ⟨z, hz, hf⟩, h⟩
  · rw [sbT_var σ hs] at hx
    exact .inr ⟨_, vof_self hs L, hx⟩
theorem ndok_op {nm : By → Bool} {x y : Tm} (hy : NdOk nm y) (h1 : x.sort = nul) (h2 : x.name = y.name) (h3 : x.kids.length = y.kids.length) : NdOk nm x := ⟨by rw [h2]; exact hy.1, by rw [h3]; exact hy.2.1, .inl h1⟩
end Go.Hw

/- Composition does one after the other: pure. -/
namespace Go.Hw
open Tm
set_option linter.unusedVariables false
set_option linter.unusedSimpArgs false
section
variable {nm : By → Bool}
theorem app1_ok {s : List Bd} {t u : Tm} (h : app1 nm s t = (u, 0)) : clsh s t = false ∧ u = sbB s t ∧ wf nm u = true := by
  unfold app1 at h
  by_cases h1 : clsh s t = true
  · rw [if_pos h1] at h; simp at h
  rw [if_neg h1] at h
  by_cases h2 : 1000 < (sbB s t).size ∨ 60 < (sbB s t).depth
  · rw [if_pos h2] at h; simp at h
  rw [if_neg h2] at h
  by_cases h3 : wf nm (sbB s t) = false
  · rw [if_pos h3] at h; simp at h
  rw [if_neg h3] at h
  injection h with h _
  exact ⟨by simpa using h1, h.symm, by rw [← h]; simpa using h3⟩
theorem app1_of {s : List Bd} {t : Tm} (h1 : clsh s t = false) (h2 : wf nm (sbB s t) = true) : app1 nm s t = (sbB s t, 0) := by
  unfold app1
  have h3 := wf_iff.1 h2
  rw [if_neg (by rw [h1]; simp), if_neg (by omega), if_neg (by rw [h2]; simp)]
theorem clsh_false {s : List Bd} {t : Tm} (ht : wf nm t = true) : clsh s t = false ↔ ∀ f ∈ vof t, ∀ so, bsrt s f.1 = some so → so = f.2 := by
  unfold clsh
  rw [List.any_eq_false]
  have hm := (varsT_mem ht).2
  constructor
  · intro h f hf so hso
    have h1 := h f ((hm f).2 hf)
    rw [hso] at h1
    simpa using h1
  · intro h f hf
    have h1 := h f ((hm f).1 hf)
    cases hb : bsrt s f.1 with
    | none => simp
    | some so => simp [h1 so hb]
theorem cmpA_ok {b : List Bd} : ∀ {a l : List Bd}, cmpA nm b a = (l, 0) → (∀ x ∈ a, (app1 nm b x.2.2).2 = 0) ∧ l = a.map fun x => (x.1, x.2.1, sbB b x.2.2)
  | [], l, h => by
    injection h with h _
    exact ⟨fun x hx => (by cases hx), h.symm⟩
  | x :: a, l, h => by
    unfold cmpA at h
    by_cases h1 : (app1 nm b x.2.2).2 = 0
    · rw [if_pos h1] at h
      by_cases h2 : (cmpA nm b a).2 = 0
      · rw [if_pos h2] at h
        obtain ⟨g1, g2⟩ := cmpA_ok (a := a) (l := (cmpA nm b a).1) (by rw [← h2])
        injection h with h _
        have h3 := app1_ok (u := (app1 nm b x.2.2).1) (show app1 nm b x.2.2 = (_, 0) by rw [← h1])
        refine ⟨fun y hy => ?_, ?_⟩
        · rcases List.mem_cons.1 hy with e | hy
          · rw [e]; exact h1
          · exact g1 y hy
        · rw [← h, g2, List.map_cons, h3.2.1]
      · rw [if_neg h2] at h
        injection h with _ h
        exact absurd h h2
    · rw [if_neg h1] at h
      injection h with _ h
      exact absurd h h1
theorem cmpA_of {b : List Bd} : ∀ {a : List Bd}, (∀ x ∈ a, (app1 nm b x.2.2).2 = 0) → cmpA nm b a = (a.map fun x => (x.1, x.2.1, sbB b x.2.2), 0)
  | [], _ => rfl
  | x :: a, h => by
    have h1 := h x (List.mem_cons_self ..)
    have h2 := cmpA_of (a := a) (fun y hy => h y (List.mem_cons_of_mem _ hy))
    have h3 := app1_ok (u := (app1 nm b x.2.2).1) (show app1 nm b x.2.2 = (_, 0) by rw [← h1])
    unfold cmpA
    rw [if_pos h1, h2, if_pos rfl, h3.2.1]
    rfl
/-- a composition that is right -/
structure Cm (nm : By → Bool) (a b s : List Bd) : Prop where
  va : vldB nm a = true
  vb : vldB nm b = true
  app : ∀ x ∈ a, app1 nm b x.2.2 = (sbB b x.2.2, 0)
  asc : AscK (Prod.fst : Bd → By) s
  mem : ∀ x, x ∈ s ↔ slfB x = false ∧ ((∃ T, (x.1, x.2.1, T) ∈ a ∧ x.2.2 = sbB b T) ∨ (x ∈ b ∧ bget a x.1 = none))
  len : s.length ≤ 1000
theorem slf_of_vld (hnm : nm nul = false) {b : List Bd} (h : vldB nm b = true) {x : Bd} (hx : x ∈ b) : slfB x = false := by
  obtain ⟨_, _, h3⟩ := vldB_spec h
  obtain ⟨n1, n2, _, d⟩ := h3 x hx
  unfold slfB
  rw [decide_eq_false_iff_not]
  intro e
  by_cases hs : x.2.2.sort = nul
  · rw [e] at hs
    have hs : x.2.1 = nul := hs
    rw [hs, hnm] at n2
    cases n2
  · exact (d hs).2 (by rw [e]; rfl)
theorem mem_bget {s : List Bd} (hd : s.Pairwise fun a b => a.1 ≠ b.1) {n : By} {T : Tm} (h : bget s n = some T) : ∃ so, (n, so, T) ∈ s ∧ bsrt s n = some so := by
  obtain ⟨b, hb, h1, h2⟩ := bget_some h
  obtain ⟨_, h4⟩ := bget_of hd hb
  refine ⟨b.2.1, ?_, by rw [← h1]; exact h4⟩
  rw [← h1, ← h2]
  exact hb
theorem bget_mem {s : List Bd} (hd : s.Pairwise fun a b => a.1 ≠ b.1) {n so : By} {T : Tm} (h : (n, so, T) ∈ s) : bget s n = some T ∧ bsrt s n = some so := bget_of hd h
theorem bget_no {s : List Bd} {n : By} (h : ∀ x ∈ s, x.1 ≠ n) : bget s n = none := by
  cases hb : bget s n with
  | none => rfl
  | some T =>
    obtain ⟨b, hb, h1, _⟩ := bget_some hb
    exact absurd h1 (h b hb)
theorem Cm.of {a b s : List Bd} (h : cmpF nm a b = (s, 0)) : Cm nm a b s := by
  unfold cmpF at h
  by_cases h1 : (vldB nm a && vldB nm b) = false
  · rw [if_pos h1] at h; simp at h
  rw [if_neg h1] at h
  have hv : vldB nm a = true ∧ vldB nm b = true := by
    rw [← Bool.and_eq_true]
    simpa using h1
  by_cases h2 : (cmpA nm b a).2 = 0
  · rw [if_pos h2] at h
    obtain ⟨g1, g2⟩ := cmpA_ok (a := a) (b := b) (l := (cmpA nm b a).1) (by rw [← h2])
    generalize hl : (cmpA nm b a).1 ++ b.filter (fun x => (bget a x.1).isNone) = l at h
    by_cases h3 : 1000 < (srtB l).length
    · rw [if_pos h3] at h; simp at h
    rw [if_neg h3] at h
    injection h with h _
    obtain ⟨_, aa, _⟩ := vldB_spec hv.1
    obtain ⟨_, ab, _⟩ := vldB_spec hv.2
    have hd : l.Pairwise fun a b => a.1 ≠ b.1 := by
      rw [← hl, g2, List.pairwise_append]
      refine ⟨?_, (asc_dist ab).filter _, fun x hx y hy => ?_⟩
      · rw [List.pairwise_map]
        exact asc_dist aa
      · obtain ⟨z, hz, rfl⟩ := List.mem_map.1 hx
        have hy2 := (List.mem_filter.1 hy).2
        intro e
        have := (bget_of (asc_dist aa) hz).1
        rw [show z.1 = y.1 from e] at this
        rw [this] at hy2
        cases hy2
    obtain ⟨s1, s2⟩ := srtB_spec l hd
    rw [h] at s1 s2
    refine ⟨hv.1, hv.2, fun x hx => ?_, s1, fun x => ?_, by rw [← h]; omega⟩
    · have h5 := g1 x hx
      have h6 := app1_ok (u := (app1 nm b x.2.2).1) (show app1 nm b x.2.2 = (_, 0) by rw [← h5])
      rw [← h6.2.1, ← h5]
    · rw [s2 x, ← hl, g2, List.mem_append, List.mem_map, List.mem_filter]
      constructor
      · rintro ⟨h7 | h7, h8⟩
        · obtain ⟨y, hy, rfl⟩ := h7
          exact ⟨h8, .inl ⟨y.2.2, hy, rfl⟩⟩
        · exact ⟨h8, .inr ⟨h7.1, by simpa using h7.2⟩⟩
      · rintro ⟨h8, h7 | h7⟩
        · obtain ⟨T, hT, e⟩ := h7
          refine ⟨.inl ⟨_, hT, ?_⟩, h8⟩
          rw [← e]
        · exact ⟨.inr ⟨h7.1, by rw [h7.2]; rfl⟩, h8⟩
  · rw [if_neg h2] at h
    injection h with _ h
    exact absurd h h2
/-- the composition of both functions -/
theorem Cm.bsu (hnm : nm nul = false) {a b s : List Bd} (h : Cm nm a b s) {f : Vd} (hf : f.2 ≠ nul) (hc : ∀ so, bsrt a f.1 = some so → so = f.2) : Go.Hw.bsu s f.1 f.2 = sbT (Go.Hw.bsu b) (Go.Hw.bsu a f.1 f.2) := by
  obtain ⟨_, aa, _⟩ := vldB_spec h.va
  obtain ⟨_, ab, _⟩ := vldB_spec h.vb
  have da := asc_dist aa
  have db := asc_dist ab
  have ds := asc_dist h.asc
  cases hg : bget a f.1 with
  | some T =>
    obtain ⟨so, hm, hso⟩ := mem_bget da hg
    obtain rfl : so = f.2 := hc so hso
    have e1 : Go.Hw.bsu a f.1 f.2 = T := by show (bget a f.1).getD _ = T; rw [hg]; rfl
    rw [e1]
    cases hs : slfB (f.1, f.2, sbB b T) with
    | false =>
      have hx : (f.1, f.2, sbB b T) ∈ s := (h.mem _).2 ⟨hs, .inl ⟨T, hm, rfl⟩⟩
      have := (bget_mem ds hx).1
      show (bget s f.1).getD _ = _
      rw [this]
      rfl
    | true =>
      have hn : bget s f.1 = none := bget_no (fun x hx e => by
        obtain ⟨h1, h2⟩ := (h.mem x).1 hx
        rcases h2 with ⟨T2, hT2, e2⟩ | ⟨_, h2⟩
        · rw [e] at hT2
          obtain ⟨g1, g2⟩ := bget_mem da hT2
          rw [hg] at g1
          injection g1 with g1
          rw [hso] at g2
          injection g2 with g2
          have hxx : x = (f.1, f.2, sbB b T) := by
            rw [← e, g2, g1, ← e2]
          rw [hxx, hs] at h1
          cases h1
        · rw [e, hg] at h2
          cases h2)
      have := of_decide_eq_true hs
      show (bget s f.1).getD _ = _
      rw [hn]
      exact this.symm
  | none =>
    have e1 : Go.Hw.bsu a f.1 f.2 = vr f.1 f.2 := by show (bget a f.1).getD _ = _; rw [hg]; rfl
    rw [e1, sbT_var _ hf]
    cases hb : bget b f.1 with
    | some T =>
      obtain ⟨so, hm, hso⟩ := mem_bget db hb
      have hx : (f.1, so, T) ∈ s := (h.mem _).2 ⟨slf_of_vld hnm h.vb hm, .inr ⟨hm, hg⟩⟩
      show (bget s f.1).getD _ = (bget b f.1).getD _
      rw [(bget_mem ds hx).1, hb]
    | none =>
      have hn : bget s f.1 = none := bget_no (fun x hx e => by
        obtain ⟨_, h2⟩ := (h.mem x).1 hx
        rcases h2 with ⟨T2, hT2, _⟩ | ⟨h2, _⟩
        · rw [e] at hT2
          rw [(bget_mem da hT2).1] at hg
          cases hg
        · have := (bget_of db h2).1
          rw [e, hb] at this
          cases this)
      show (bget s f.1).getD _ = (bget b f.1).getD _
      rw [hn, hb]
theorem Cm.sbB (hnm : nm nul = false) {a b s : List Bd} (h : Cm nm a b s) {t : Tm} (ht : wf nm t = true) (hc : clsh a t = false) : Go.Hw.sbB s t = Go.Hw.sbB b (Go.Hw.sbB a t) := by
  unfold Go.Hw.sbB
  rw [sbT_comp]
  have h1 := (clsh_false ht).1 hc
  exact sbT_congr t (fun f hf => h.bsu hnm (vof_ne hf) (h1 f hf))
/-- the sorts of variables that variables become -/
theorem bsu_sort {s : List Bd} (hv : vldB nm s = true) {f g : Vd} (hg : g.2 ≠ nul) (hc : ∀ so, bsrt s f.1 = some so → so = f.2) (h : bsu s f.1 f.2 = vr g.1 g.2) : g.2 = f.2 := by
  obtain ⟨_, aa, h3⟩ := vldB_spec hv
  have da := asc_dist aa
  cases hb : bget s f.1 with
  | none =>
    have : bsu s f.1 f.2 = vr f.1 f.2 := by show (bget s f.1).getD _ = _; rw [hb]; rfl
    rw [this] at h
    injection h with _ h _
    exact h.symm
  | some T =>
    obtain ⟨so, hm, hso⟩ := mem_bget da hb
    have : bsu s f.1 f.2 = T := by show (bget s f.1).getD _ = _; rw [hb]; rfl
    rw [this] at h
    have h4 := (h3 _ hm).2.2.2
    simp only at h4
    rw [h] at h4
    have h5 := (h4 hg).1
    rw [← hc so hso]
    exact h5
theorem Cm.vld (hnm : nm nul = false) {a b s : List Bd} (h : Cm nm a b s) : vldB nm s = true := by
  obtain ⟨_, aa, ha⟩ := vldB_spec h.va
  obtain ⟨_, ab, hb⟩ := vldB_spec h.vb
  refine vldB_mk h.len h.asc (fun x hx => ?_)
  obtain ⟨h1, h2⟩ := (h.mem x).1 hx
  rcases h2 with ⟨T, hT, e⟩ | ⟨h2, _⟩
  · obtain ⟨n1, n2, n3, n4⟩ := ha _ hT
    simp only at n1 n2 n3 n4
    have hok := app1_ok (h.app _ hT)
    simp only at hok
    refine ⟨n1, n2, by rw [e]; exact hok.2.2, fun hs => ?_⟩
    have hcl := (clsh_false n3).1 hok.1
    -- the value is a variable, so what was bound is one
    obtain ⟨xn, xs, xt⟩ := x
    simp only at e hs h1 hT n1 n2 n4 ⊢
    cases hTt : T with
    | mk m r L =>
      rw [hTt] at n3 n4 hcl hok
      by_cases hr : r = nul
      · subst hr
        rw [e, hTt] at hs
        unfold Go.Hw.sbB at hs
        rw [sbT_opn] at hs
        exact absurd rfl hs
      · have hL : L = [] := wf_nop' n3 _ (mem_sbts_self _) hr
        subst hL
        obtain ⟨m1, m2⟩ := n4 hr
        have e2 : xt = Go.Hw.bsu b m r := by
          rw [e, hTt]
          unfold Go.Hw.sbB
          rw [sbT_var _ hr]
        have hxk : xt.kids = [] := by
          have := wf_nop' hok.2.2
          rw [← hTt, ← e] at this
          exact this _ (mem_sbts_self _) hs
        have hxe : xt = vr xt.name xt.sort := by
          have := eta xt
          rw [hxk] at this
          exact this.symm
        have h5 := bsu_sort h.vb (f := (m, r)) (g := (xt.name, xt.sort)) hs (hcl _ (vof_self hr [])) (e2.symm.trans hxe)
        have h6 : xt.sort = xs := h5.trans m1
        refine ⟨h6, fun hn => ?_⟩
        have := of_decide_eq_false h1
        apply this
        rw [hxe, hn, h6]
  · exact hb x h2
/-- what one substitution after the other does -/
theorem chain_law (hnm : nm nul = false) {a b s : List Bd} {t x y : Tm} (h1 : appF nm a t = (x, 0)) (h2 : appF nm b x = (y, 0)) (h3 : cmpF nm a b = (s, 0)) : appF nm s t = (y, 0) := by
  have hC := Cm.of h3
  unfold appF at h1 h2 ⊢
  split at h1
  · rename_i c1
    rw [Bool.and_eq_true] at c1
    split at h2
    · rename_i c2
      obtain ⟨k1, k2, k3⟩ := app1_ok h1
      obtain ⟨m1, m2, m3⟩ := app1_ok h2
      have hsb : Go.Hw.sbB s t = y := by rw [hC.sbB hnm c1.2 k1, ← k2, m2]
      rw [if_pos (by rw [hC.vld hnm, c1.2]; rfl)]
      rw [app1_of ?_ (by rw [hsb]; exact m3), hsb]
      refine (clsh_false c1.2).2 (fun f hf so hso => ?_)
      have ha := (clsh_false c1.2).1 k1 f hf
      have hx := (clsh_false k3).1 m1
      obtain ⟨z, hz, z1, z2⟩ := bsrt_some hso
      obtain ⟨_, h5⟩ := (hC.mem z).1 hz
      have da := asc_dist (vldB_spec hC.va).2.1
      have db := asc_dist (vldB_spec hC.vb).2.1
      rcases h5 with ⟨T, hT, _⟩ | ⟨h5, h6⟩
      · have := (bget_mem da hT).2
        rw [z1] at this
        rw [← z2]
        exact ha _ this
      · have hfx : f ∈ vof x := by
          rw [k2]
          unfold Go.Hw.sbB
          refine vof_sbT_of t hf (wf_nop' c1.2) ?_
          have : Go.Hw.bsu a f.1 f.2 = vr f.1 f.2 := by show (bget a f.1).getD _ = _; rw [← z1, h6]; rfl
          rw [this, vof_vr (vof_ne hf)]
          exact List.mem_singleton.2 rfl
        have := (bget_of db h5).2
        rw [z1, z2] at this
        exact hx f hfx so this
    · simp at h2
  · simp at h1
/-- composition is associative -/
theorem assoc_law (hnm : nm nul = false) {a b c s u l m : List Bd} (h1 : cmpF nm a b = (s, 0)) (h2 : cmpF nm b c = (u, 0)) (h3 : cmpF nm s c = (l, 0)) (h4 : cmpF nm a u = (m, 0)) : l = m := by
  have C1 := Cm.of h1
  have C2 := Cm.of h2
  have C3 := Cm.of h3
  have C4 := Cm.of h4
  have da := asc_dist (vldB_spec C1.va).2.1
  have db := asc_dist (vldB_spec C1.vb).2.1
  have dc := asc_dist (vldB_spec C2.vb).2.1
  have ds := asc_dist C1.asc
  refine asc_uniq Prod.fst C3.asc C4.asc (fun x => ?_)
  rw [C3.mem x, C4.mem x]
  -- what is bound by a, then b, then c
  have hab : ∀ T, (x.1, x.2.1, T) ∈ a → Go.Hw.sbB u T = Go.Hw.sbB c (Go.Hw.sbB b T) := fun T hT => by
    have hT2 := ((vldB_spec C1.va).2.2 _ hT).2.2.1
    exact C2.sbB hnm hT2 (app1_ok (C1.app _ hT)).1
  constructor
  · rintro ⟨hs, h⟩
    refine ⟨hs, ?_⟩
    rcases h with ⟨T, hT, e⟩ | ⟨hx, hn⟩
    · obtain ⟨_, h⟩ := (C1.mem _).1 hT
      rcases h with ⟨T0, hT0, e0⟩ | ⟨hb, hna⟩
      · exact .inl ⟨T0, hT0, by rw [e, hab T0 hT0]; simp only at e0; rw [e0]⟩
      · refine .inr ⟨(C2.mem x).2 ⟨hs, .inl ⟨T, hb, e⟩⟩, hna⟩
    · by_cases hna : bget a x.1 = none
      · refine .inr ⟨(C2.mem x).2 ⟨hs, .inr ⟨hx, ?_⟩⟩, hna⟩
        cases hb : bget b x.1 with
        | none => rfl
        | some T =>
          obtain ⟨so, hm, _⟩ := mem_bget db hb
          have : (x.1, so, T) ∈ s := (C1.mem _).2 ⟨slf_of_vld hnm C1.vb hm, .inr ⟨hm, hna⟩⟩
          rw [(bget_mem ds this).1] at hn
          cases hn
      · obtain ⟨T0, hT0⟩ : ∃ T0, bget a x.1 = some T0 := by
          cases h : bget a x.1 with
          | none => exact absurd h hna
          | some T0 => exact ⟨T0, rfl⟩
        obtain ⟨so, hm, hso⟩ := mem_bget da hT0
        -- b leads it back to itself
        have hself : Go.Hw.sbB b T0 = vr x.1 so := by
          cases hs2 : slfB (x.1, so, Go.Hw.sbB b T0) with
          | true => exact of_decide_eq_true hs2
          | false =>
            have : (x.1, so, Go.Hw.sbB b T0) ∈ s := (C1.mem _).2 ⟨hs2, .inl ⟨T0, hm, rfl⟩⟩
            rw [(bget_mem ds this).1] at hn
            cases hn
        have hso2 : so ≠ nul := fun e => by
          have := ((vldB_spec C1.va).2.2 _ hm).2.1
          simp only at this
          rw [e, hnm] at this
          cases this
        -- the sort that c knows
        have hsc : x.2.1 = so := by
          have hb1 := (bget_of dc hx).2
          have hT0w := ((vldB_spec C1.va).2.2 _ hm).2.2.1
          simp only at hT0w
          have hok := app1_ok (C1.app _ hm)
          simp only at hok
          cases hTt : T0 with
          | mk p r L =>
            rw [hTt] at hself hT0w hok
            by_cases hr : r = nul
            · subst hr
              unfold Go.Hw.sbB at hself
              rw [sbT_opn] at hself
              injection hself with _ e _
              exact absurd e.symm hso2
            · unfold Go.Hw.sbB at hself
              rw [sbT_var _ hr] at hself
              cases hbp : bget b p with
              | none =>
                have : Go.Hw.bsu b p r = vr p r := by show (bget b p).getD _ = _; rw [hbp]; rfl
                rw [this] at hself
                injection hself with e1 e2 _
                have hd := ((vldB_spec C1.va).2.2 _ hm).2.2.2
                simp only at hd
                rw [hTt] at hd
                exact absurd e1 (hd hr).2
              | some W =>
                have : Go.Hw.bsu b p r = W := by show (bget b p).getD _ = _; rw [hbp]; rfl
                rw [this] at hself
                obtain ⟨so2, hm2, _⟩ := mem_bget db hbp
                have hok2 := app1_ok (C2.app _ hm2)
                simp only at hok2
                have hw2 := ((vldB_spec C1.vb).2.2 _ hm2).2.2.1
                simp only at hw2
                rw [hself] at hok2 hw2
                exact (clsh_false hw2).1 hok2.1 (x.1, so) (vof_self hso2 []) _ hb1
        refine .inl ⟨T0, by rw [hsc]; exact hm, ?_⟩
        rw [hab T0 (by rw [hsc]; exact hm), hself]
        unfold Go.Hw.sbB
        rw [sbT_var _ hso2]
        show _ = (bget c x.1).getD _
        rw [(bget_of dc hx).1]
        rfl
  · rintro ⟨hs, h⟩
    refine ⟨hs, ?_⟩
    rcases h with ⟨T0, hT0, e⟩ | ⟨hx, hna⟩
    · rw [hab T0 hT0] at e
      cases hs2 : slfB (x.1, x.2.1, Go.Hw.sbB b T0) with
      | false => exact .inl ⟨_, (C1.mem _).2 ⟨hs2, .inl ⟨T0, hT0, rfl⟩⟩, e⟩
      | true =>
        have hself := of_decide_eq_true hs2
        simp only at hself
        have hso2 : x.2.1 ≠ nul := fun e => by
          have := ((vldB_spec C1.va).2.2 _ hT0).2.1
          simp only at this
          rw [e, hnm] at this
          cases this
        rw [hself] at e
        unfold Go.Hw.sbB at e
        rw [sbT_var _ hso2] at e
        have hns : bget s x.1 = none := bget_no (fun z hz ez => by
          obtain ⟨g1, g2⟩ := (C1.mem z).1 hz
          rcases g2 with ⟨T2, hT2, e2⟩ | ⟨_, g3⟩
          · rw [ez] at hT2
            obtain ⟨k1, k2⟩ := bget_mem da hT2
            obtain ⟨k3, k4⟩ := bget_mem da hT0
            rw [k3] at k1
            injection k1 with k1
            rw [k4] at k2
            injection k2 with k2
            have := of_decide_eq_false g1
            apply this
            rw [e2, ← k1, hself, ez, k2]
          · rw [ez, (bget_mem da hT0).1] at g3
            cases g3)
        cases hbc : bget c x.1 with
        | none =>
          have : Go.Hw.bsu c x.1 x.2.1 = vr x.1 x.2.1 := by show (bget c x.1).getD _ = _; rw [hbc]; rfl
          rw [this] at e
          have := of_decide_eq_false hs
          exact absurd e this
        | some W =>
          have hW : Go.Hw.bsu c x.1 x.2.1 = W := by show (bget c x.1).getD _ = _; rw [hbc]; rfl
          rw [hW] at e
          obtain ⟨so, hm, hso⟩ := mem_bget dc hbc
          -- the sort
          have hsc : so = x.2.1 := by
            have hT0w := ((vldB_spec C1.va).2.2 _ hT0).2.2.1
            simp only at hT0w
            cases hTt : T0 with
            | mk p r L =>
              rw [hTt] at hself hT0w
              by_cases hr : r = nul
              · subst hr
                unfold Go.Hw.sbB at hself
                rw [sbT_opn] at hself
                injection hself with _ e _
                exact absurd e.symm hso2
              · unfold Go.Hw.sbB at hself
                rw [sbT_var _ hr] at hself
                cases hbp : bget b p with
                | none =>
                  have : Go.Hw.bsu b p r = vr p r := by show (bget b p).getD _ = _; rw [hbp]; rfl
                  rw [this] at hself
                  injection hself with e1 e2 _
                  have hd := ((vldB_spec C1.va).2.2 _ hT0).2.2.2
                  simp only at hd
                  rw [hTt] at hd
                  exact absurd e1 (hd hr).2
                | some V =>
                  have : Go.Hw.bsu b p r = V := by show (bget b p).getD _ = _; rw [hbp]; rfl
                  rw [this] at hself
                  obtain ⟨so2, hm2, _⟩ := mem_bget db hbp
                  have hok2 := app1_ok (C2.app _ hm2)
                  simp only at hok2
                  have hw2 := ((vldB_spec C1.vb).2.2 _ hm2).2.2.1
                  simp only at hw2
                  rw [hself] at hok2 hw2
                  exact (clsh_false hw2).1 hok2.1 (x.1, x.2.1) (vof_self hso2 []) _ hso
          refine .inr ⟨?_, hns⟩
          rw [hsc, ← e] at hm
          exact hm
    · obtain ⟨_, g⟩ := (C2.mem x).1 hx
      rcases g with ⟨T, hT, e⟩ | ⟨hc, hnb⟩
      · refine .inl ⟨T, (C1.mem _).2 ⟨slf_of_vld hnm C1.vb hT, .inr ⟨hT, hna⟩⟩, e⟩
      · refine .inr ⟨hc, bget_no (fun z hz ez => ?_)⟩
        obtain ⟨_, g2⟩ := (C1.mem z).1 hz
        rcases g2 with ⟨T2, hT2, _⟩ | ⟨g2, _⟩
        · rw [ez] at hT2
          rw [(bget_mem da hT2).1] at hna
          cases hna
        · have := (bget_of db g2).1
          rw [ez, hnb] at this
          cases this
end
end Go.Hw

/- What matches and what unifies: the laws, pure. -/
namespace Go.Hw
open Tm
set_option linter.unusedVariables false
set_option linter.unusedSimpArgs false
section
variable {nm : By → Bool}
theorem vof_node {t : Tm} {f : Vd} (h : f ∈ vof t) : ∃ x ∈ sbts t, x.name = f.1 ∧ x.sort = f.2 := by
  unfold vof vl at h
  rw [List.mem_filterMap] at h
  obtain ⟨x, hx, e⟩ := h
  by_cases hs : x.sort = nul
  · rw [if_pos hs] at e; cases e
  · rw [if_neg hs] at e
    injection e with e
    exact ⟨x, hx, by rw [← e], by rw [← e]⟩
theorem vof_nm {t : Tm} (ht : ∀ x ∈ sbts t, NdOk nm x) {f : Vd} (h : f ∈ vof t) : nm f.1 = true ∧ nm f.2 = true := by
  have hne := vof_ne h
  obtain ⟨x, hx, h1, h2⟩ := vof_node h
  have := ht x hx
  rw [← h1, ← h2]
  exact ⟨this.1, this.2.2.elim (fun e => absurd (h2.symm.trans e) hne) (fun e => e.1)⟩
theorem wf_kid {t x : Tm} (h : wf nm t = true) (hx : x ∈ t.kids) : wf nm x = true := by
  obtain ⟨h1, h2, h3, h4⟩ := wf_iff.1 h
  refine wf_iff.2 ⟨by have := size_kid hx; omega, by have := depth_mem hx; have := depth_eq t; omega, fun y hy => h3 y (mem_sbts_kid hx hy), fun f hf g hg e => h4 f (vof_kid hx hf) g (vof_kid hx hg) e⟩
theorem vof_len (t : Tm) : (vof t).length ≤ t.size := by
  have h1 : (vof t).length ≤ (sbts t).length := List.length_filterMap_le _ _
  have h2 : (sbts t).length = t.size := by rw [sbts, List.length_map, nodesD_len]
  omega
/-- what matches makes the pattern the term -/
theorem match_law {a b : Tm} {C : List Bd} (ha : wf nm a = true) (hb : wf nm b = true) (h : mtB a b [] = some C) : vldB nm (srtB C) = true ∧ appF nm (srtB C) a = (b, 0) := by
  obtain ⟨a1, a2, a3, a4⟩ := wf_iff.1 ha
  obtain ⟨h1, _, h3, h4⟩ := mtB_ok (X := vof a) (Y := fun x => wf nm x = true) (fun t x ht hx => wf_kid ht hx) a b [] C h (nop_of a3) (fun f hf => hf) hb (MtI.nil _ _)
  obtain ⟨s1, s2⟩ := srtB_spec C h1.dist
  have hlen : (srtB C).length ≤ 1000 := by
    have hnd : ((srtB C).map fun b => (b.1, b.2.1)).Nodup := by
      rw [List.Nodup, List.pairwise_map]
      exact (asc_dist s1).imp (fun h e => h (by injection e))
    have := hnd.length_le_of_subset (fun f hf => by
      obtain ⟨b, hb, rfl⟩ := List.mem_map.1 hf
      exact h1.inX b ((s2 b).1 hb).1)
    rw [List.length_map] at this
    have := vof_len a
    omega
  have hv : vldB nm (srtB C) = true := vldB_mk hlen s1 (fun x hx => by
    obtain ⟨x1, x2⟩ := (s2 x).1 hx
    obtain ⟨n1, n2⟩ := vof_nm a3 (h1.inX x x1)
    refine ⟨n1, n2, h1.val x x1, fun hs => ?_⟩
    have hss := h1.srt x x1 hs
    refine ⟨hss, fun hn => ?_⟩
    have hk : x.2.2.kids = [] := wf_nop' (h1.val x x1) _ (mem_sbts_self _) hs
    have := of_decide_eq_false x2
    apply this
    have e := eta x.2.2
    rw [hk, hn, hss] at e
    exact e.symm)
  refine ⟨hv, ?_⟩
  have hsb : sbB (srtB C) a = b := by
    rw [← h4 C (fun _ _ e => e)]
    unfold sbB
    refine sbT_congr a (fun f hf => ?_)
    obtain ⟨x, hx⟩ := h3 f hf
    obtain ⟨so, hm, hso⟩ := mem_bget h1.dist hx
    have hsf : so = f.2 := a4 _ (h1.inX _ hm) _ hf rfl
    subst hsf
    cases hs : slfB (f.1, f.2, x) with
    | true =>
      have e := of_decide_eq_true hs
      have hn : bget (srtB C) f.1 = none := bget_no (fun z hz ez => by
        obtain ⟨z1, z2⟩ := (s2 z).1 hz
        have := (bget_of h1.dist z1)
        rw [ez, hx] at this
        obtain ⟨t1, t2⟩ := this
        rw [hso] at t2
        injection t1 with t1
        injection t2 with t2
        have : z = (f.1, f.2, x) := by rw [← ez, t1, t2]
        rw [this, hs] at z2
        cases z2)
      show (bget (srtB C) f.1).getD _ = (bget C f.1).getD _
      rw [hn, hx]
      exact e.symm
    | false =>
      have := (bget_of (asc_dist s1) ((s2 _).2 ⟨hm, hs⟩)).1
      show (bget (srtB C) f.1).getD _ = (bget C f.1).getD _
      rw [this, hx]
  unfold appF
  rw [if_pos (by rw [hv, ha]; rfl), app1_of ?_ (by rw [hsb]; exact hb), hsb]
  refine (clsh_false ha).2 (fun f hf so hso => ?_)
  obtain ⟨z, hz, z1, z2⟩ := bsrt_some hso
  have := h1.inX z ((s2 z).1 hz).1
  rw [z1, z2] at this
  exact a4 _ this _ hf rfl
/-- what is known of a unifier of two terms -/
structure Un (nm : By → Bool) (X : List Vd) (a b : Tm) (θ : Su) : Prop where
  mg : Mg X (Eqs a b) θ
  asc : AscK (Prod.fst : Vd → By) X
  va : ∀ f ∈ vof a, f ∈ X
  vb : ∀ f ∈ vof b, f ∈ X
  vX : ∀ f ∈ X, f ∈ vof a ∨ f ∈ vof b
  cons : Cons X
  wa : wf nm a = true
  wb : wf nm b = true
  nodes : ∀ f ∈ X, ∀ x ∈ sbts (θ f.1 f.2), x.sort = nul → ∃ y, (y ∈ sbts a ∨ y ∈ sbts b) ∧ x.name = y.name ∧ x.kids.length = y.kids.length
  small : ¬ BigT X θ
  pure' : ¬ MixT X θ
  few : X.length ≤ 1000
variable {X : List Vd} {a b : Tm} {θ : Su}
theorem Un.names (h : Un nm X a b θ) {f : Vd} (hf : f ∈ X) : nm f.1 = true ∧ nm f.2 = true := by
  rcases h.vX f hf with h1 | h1
  · exact vof_nm (wf_iff.1 h.wa).2.2.1 h1
  · exact vof_nm (wf_iff.1 h.wb).2.2.1 h1
theorem Un.ne (hnm : nm nul = false) (h : Un nm X a b θ) {f : Vd} (hf : f ∈ X) : f.2 ≠ nul := fun e => by
  have := (h.names hf).2
  rw [e, hnm] at this
  cases this
/-- what a unifier makes of a term over its variables is well-formed, if it is not too large -/
theorem Un.wf_sbT (h : Un nm X a b θ) {t : Tm} (ht : ∀ x ∈ sbts t, NdOk nm x) (hv : ∀ f ∈ vof t, f ∈ X) (hs : (sbT θ t).size ≤ 1000) (hd : (sbT θ t).depth ≤ 60) : wf nm (sbT θ t) = true := by
  have hvX : ∀ g ∈ vof (sbT θ t), g ∈ X := fun g hg => by
    obtain ⟨f, hf, hgf⟩ := mem_vof_sbT t hg
    exact h.mg.inX f (hv f hf) g hgf
  have hnp : NoP (sbT θ t) := nop_sbT t (fun f hf => h.mg.nop f (hv f hf))
  refine wf_iff.2 ⟨hs, hd, fun x hx => ?_, fun f hf g hg e => h.cons f (hvX f hf) g (hvX g hg) e⟩
  by_cases hxs : x.sort = nul
  · rcases sbts_sbT t x hx with ⟨y, hy, y1, _, y3, y4⟩ | ⟨f, hf, hxf⟩
    · exact ndok_op (ht y hy) hxs y3 y4
    · obtain ⟨y, hy, y1, y2⟩ := h.nodes f (hv f hf) x hxf hxs
      refine ndok_op (y := y) ?_ hxs y1 y2
      rcases hy with hy | hy
      · exact (wf_iff.1 h.wa).2.2.1 y hy
      · exact (wf_iff.1 h.wb).2.2.1 y hy
  · have hk := hnp x hx hxs
    have hg : (x.name, x.sort) ∈ vof (sbT θ t) := by
      unfold vof vl
      rw [List.mem_filterMap]
      exact ⟨x, hx, by rw [if_neg hxs]⟩
    obtain ⟨n1, n2⟩ := h.names (hvX _ hg)
    exact ⟨n1, by rw [hk]; simp, .inr ⟨n2, hk⟩⟩
theorem Un.wf_val (hnm : nm nul = false) (h : Un nm X a b θ) {f : Vd} (hf : f ∈ X) : wf nm (θ f.1 f.2) = true := by
  have hb : ¬ (1000 < (θ f.1 f.2).size ∨ 60 < (θ f.1 f.2).depth) := fun e => h.small ⟨f, hf, e⟩
  have e : sbT θ (vr f.1 f.2) = θ f.1 f.2 := sbT_var _ (h.ne hnm hf) []
  rw [← e]
  refine h.wf_sbT (fun x hx => ?_) (fun g hg => ?_) (by rw [e]; omega) (by rw [e]; omega)
  · rw [sbts_eq, List.mem_cons] at hx
    rcases hx with hx | hx
    · obtain ⟨n1, n2⟩ := h.names hf
      rw [hx]
      exact ⟨n1, by simp [Tm.kids], .inr ⟨n2, rfl⟩⟩
    · cases hx
  · rw [vof_vr (h.ne hnm hf), List.mem_singleton] at hg
    rw [hg]; exact hf
theorem Un.bget (h : Un nm X a b θ) {f : Vd} (hf : f ∈ X) : bsu (bds X θ) f.1 f.2 = θ f.1 f.2 ∧ ∀ so, bsrt (bds X θ) f.1 = some so → so = f.2 := by
  have hd := asc_dist (bds_asc h.asc θ)
  constructor
  · by_cases e : θ f.1 f.2 = vr f.1 f.2
    · have hn : Go.Hw.bget (bds X θ) f.1 = none := bget_no (fun z hz ez => by
        obtain ⟨z1, z2, z3⟩ := mem_bds.1 hz
        have : z.2.1 = f.2 := h.cons _ z1 _ hf ez
        rw [ez, this] at z3
        exact z3 e)
      show (Go.Hw.bget _ _).getD _ = _
      rw [hn, e]
      rfl
    · have hm : (f.1, f.2, θ f.1 f.2) ∈ bds X θ := mem_bds.2 ⟨hf, rfl, e⟩
      show (Go.Hw.bget _ _).getD _ = _
      rw [(bget_of hd hm).1]
      rfl
  · intro so hso
    obtain ⟨z, hz, z1, z2⟩ := bsrt_some hso
    have := (mem_bds.1 hz).1
    rw [z1, z2] at this
    exact h.cons _ this _ hf rfl
theorem Un.vld (hnm : nm nul = false) (h : Un nm X a b θ) : vldB nm (bds X θ) = true := by
  refine vldB_mk ?_ (bds_asc h.asc θ) (fun x hx => ?_)
  · have : (bds X θ).length ≤ X.length := List.length_filterMap_le _ _
    have := h.few
    omega
  · obtain ⟨h1, h2, h3⟩ := mem_bds.1 hx
    obtain ⟨n1, n2⟩ := h.names h1
    have hw := h.wf_val hnm h1
    simp only at hw
    refine ⟨n1, n2, by rw [h2]; exact hw, fun hs => ?_⟩
    rw [h2] at hs ⊢
    have hk : (θ x.1 x.2.1).kids = [] := wf_nop' hw _ (mem_sbts_self _) hs
    have he : θ x.1 x.2.1 = vr (θ x.1 x.2.1).name (θ x.1 x.2.1).sort := by
      have e := eta (θ x.1 x.2.1)
      rw [hk] at e
      exact e.symm
    have hss : (θ x.1 x.2.1).sort = x.2.1 := by
      by_cases e : (θ x.1 x.2.1).sort = x.2.1
      · exact e
      · exact absurd ⟨_, h1, ((θ x.1 x.2.1).name, (θ x.1 x.2.1).sort), hs, he, e⟩ h.pure'
    refine ⟨hss, fun hn => h3 ?_⟩
    rw [hn, hss] at he
    exact he
theorem Un.sbB (h : Un nm X a b θ) {t : Tm} (hv : ∀ f ∈ vof t, f ∈ X) : sbB (bds X θ) t = sbT θ t := sbT_congr t (fun f hf => (h.bget (hv f hf)).1)
theorem Un.app1 (h : Un nm X a b θ) {t : Tm} (ht : wf nm t = true) (hv : ∀ f ∈ vof t, f ∈ X) : app1 nm (bds X θ) t = if 1000 < (sbT θ t).size ∨ 60 < (sbT θ t).depth then (.mk nul nul [], 4) else (sbT θ t, 0) := by
  have hc : clsh (bds X θ) t = false := (clsh_false ht).2 (fun f hf => (h.bget (hv f hf)).2)
  by_cases hb : 1000 < (sbT θ t).size ∨ 60 < (sbT θ t).depth
  · rw [if_pos hb]
    unfold Go.Hw.app1
    rw [if_neg (by rw [hc]; simp), h.sbB hv, if_pos hb]
  · rw [if_neg hb]
    have hw := h.wf_sbT (wf_iff.1 ht).2.2.1 hv (by omega) (by omega)
    rw [app1_of hc (by rw [h.sbB hv]; exact hw), h.sbB hv]
theorem Un.idem (h : Un nm X a b θ) {t : Tm} (hv : ∀ f ∈ vof t, f ∈ X) : sbT θ (sbT θ t) = sbT θ t := by
  rw [sbT_comp]
  exact sbT_congr t (fun f hf => h.mg.gen θ h.mg.uni f (hv f hf))
/-- the laws of a unifier -/
theorem unify_law (hnm : nm nul = false) (h : Un nm X a b θ) : vldB nm (bds X θ) = true ∧
    ((appF nm (bds X θ) a = (.mk nul nul [], 4) ∧ appF nm (bds X θ) b = (.mk nul nul [], 4)) ∨
     ∃ x, appF nm (bds X θ) a = (x, 0) ∧ appF nm (bds X θ) b = (x, 0) ∧ appF nm (bds X θ) x = (x, 0) ∧ cmpF nm (bds X θ) (bds X θ) = (bds X θ, 0)) := by
  have hv := h.vld hnm
  have hu : sbT θ a = sbT θ b := h.mg.uni
  have ea := h.app1 h.wa h.va
  have eb := h.app1 h.wb h.vb
  refine ⟨hv, ?_⟩
  have fa : ∀ t, wf nm t = true → appF nm (bds X θ) t = Go.Hw.app1 nm (bds X θ) t := fun t ht => by
    unfold appF
    rw [if_pos (by rw [hv, ht]; rfl)]
  rw [fa a h.wa, fa b h.wb, ea, eb, ← hu]
  by_cases hb : 1000 < (sbT θ a).size ∨ 60 < (sbT θ a).depth
  · rw [if_pos hb]
    exact .inl ⟨rfl, rfl⟩
  · rw [if_neg hb]
    have hw := h.wf_sbT (wf_iff.1 h.wa).2.2.1 h.va (by omega) (by omega)
    have hvx : ∀ f ∈ vof (sbT θ a), f ∈ X := fun g hg => by
      obtain ⟨f, hf, hgf⟩ := mem_vof_sbT a hg
      exact h.mg.inX f (h.va f hf) g hgf
    refine .inr ⟨_, rfl, rfl, ?_, ?_⟩
    · rw [fa _ hw, h.app1 hw hvx, h.idem h.va, if_neg hb]
    · -- composed with itself
      have hval : ∀ x ∈ bds X θ, Go.Hw.app1 nm (bds X θ) x.2.2 = (x.2.2, 0) := fun x hx => by
        obtain ⟨h1, h2, _⟩ := mem_bds.1 hx
        have hwx := h.wf_val hnm h1
        simp only at hwx
        rw [← h2] at hwx
        have hvv : ∀ f ∈ vof x.2.2, f ∈ X := fun g hg => h.mg.inX _ h1 g (by rw [← h2]; exact hg)
        have hid : sbT θ x.2.2 = x.2.2 := by
          rw [h2]
          exact h.mg.gen θ h.mg.uni _ h1
        have hsm := wf_iff.1 hwx
        rw [h.app1 hwx hvv, hid, if_neg (by omega)]
      unfold cmpF
      rw [if_neg (by rw [hv]; simp), cmpA_of (fun x hx => by rw [hval x hx])]
      have hmap : (bds X θ).map (fun x => (x.1, x.2.1, Go.Hw.sbB (bds X θ) x.2.2)) = bds X θ := by
        conv => rhs; rw [← List.map_id (bds X θ)]
        refine List.map_congr_left (fun x hx => ?_)
        have := (app1_ok (hval x hx)).2.1
        rw [← this]
        rfl
      have hfil : (bds X θ).filter (fun x => (Go.Hw.bget (bds X θ) x.1).isNone) = [] := by
        rw [List.filter_eq_nil_iff]
        intro x hx
        rw [(bget_of (asc_dist (bds_asc h.asc θ)) hx).1]
        simp
      have hsrt : srtB (bds X θ) = bds X θ := by
        obtain ⟨s1, s2⟩ := srtB_spec (bds X θ) (asc_dist (bds_asc h.asc θ))
        refine asc_uniq Prod.fst s1 (bds_asc h.asc θ) (fun x => ?_)
        rw [s2 x]
        exact ⟨fun h => h.1, fun hx => ⟨hx, slf_of_vld hnm hv hx⟩⟩
      have hl := (vldB_spec hv).1
      have hl2 : ¬ 1000 < (bds X θ).length := by omega
      simp only [hmap, hfil, List.append_nil, hsrt, if_true, if_neg hl2]
end
end Go.Hw
