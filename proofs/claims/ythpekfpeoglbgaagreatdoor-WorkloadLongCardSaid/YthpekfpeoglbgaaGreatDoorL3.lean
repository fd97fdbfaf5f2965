/- A drawn region walked once: what only reads is taken when it may come up; the rest comes up alone, one behind the other; a condition S on the world holds till the sink. -/
import Derived.Test.YthpekfpeoglbgaaGreatDoorL2
import Derived.OrdersHeld
import Derived.StillTail
namespace Go.Hw
open Go.RowKit
set_option linter.unusedVariables false
set_option linter.unusedSimpArgs false

section
variable {P : Program} {ops : Array Oper} {Q : Exit → Act → World → Prop} {md : Region.Mode} {S : World → Prop} {n : Nat}

/-- whatever order is picked; S holds behind each operation till number n has come up -/
def wpTill (P : Program) (md : Region.Mode) (ops : Array Oper) (Q : Exit → Act → World → Prop) (S : World → Prop) (n : Nat) : Nat → Array Bool → Act → World → Prop
  | 0, l, a, w => Region.ready md ops l = [] ∧ Q .normal a w
  | f + 1, l, a, w =>
    (Region.ready md ops l = [] → Q .normal a w) ∧
    ∀ i ∈ Region.ready md ops l, wpOp P ops Q i (fun a' w' => (S w' ∨ (l.setIfInBounds i true).getD n false = true) ∧ wpTill P md ops Q S n f (l.setIfInBounds i true) a' w') a w
theorem wpAny_of_till : ∀ (f : Nat) (l : Array Bool) (a : Act) (w : World), wpTill P md ops Q S n f l a w → wpAny P md ops Q f l a w
  | 0, _, _, _, h => h
  | f + 1, _, _, _, h => ⟨h.1, fun i hi => wpOp_mono (fun a' w' h' => wpAny_of_till f _ a' w' h'.2) (h.2 i hi)⟩

/-- what has come up has all that it waits for behind it -/
structure Deps (md : Region.Mode) (ops : Array Oper) (l : Array Bool) : Prop where
  size : l.size = ops.size
  back : ∀ j o, ops[j]? = some o → l.getD j false = true → ∀ e ∈ o.after, Region.binds md e = true → l.getD e.on false = true
theorem getD_ff {l : Array Bool} {i : Nat} (h : l.getD i true = false) : l.getD i false = false := by
  rcases Nat.lt_or_ge i l.size with h' | h'
  · simp [h'] at h ⊢; exact h
  · simp [Array.getElem?_eq_none h'] at h
theorem getD_tf {l : Array Bool} {i : Nat} (hi : i < l.size) (h : l.getD i false = false) : l.getD i true = false := by
  simp [hi] at h ⊢; exact h
theorem Deps.step {l : Array Bool} {i : Nat} (h : Deps md ops l) (hi : i ∈ Region.ready md ops l) : Deps md ops (l.setIfInBounds i true) := by
  obtain ⟨_, oi, hoi, hall⟩ := mem_ready.1 hi
  refine ⟨by rw [Array.size_setIfInBounds]; exact h.size, fun j o ho hl e he hb => ?_⟩
  by_cases hij : i = j
  · subst hij
    obtain rfl : oi = o := Option.some.inj (hoi.symm.trans ho)
    exact getD_set_true (hall e he hb)
  · rw [getD_set_ne false hij] at hl
    exact getD_set_true (h.back j o ho hl e he hb)
theorem Deps.start : Deps md ops (Array.replicate ops.size false) :=
  ⟨by simp, fun j o _ hl => by
    rcases Nat.lt_or_ge j ops.size with h | h
    · simp [h] at hl
    · simp [h] at hl⟩
/-- the sink waits -/
theorem sink_not_ready {l : Array Bool} (hs : Region.sinkB md ops n = true) (h : Deps md ops l) : ∀ (k i : Nat), n - i ≤ k → i < n → l.getD i true = false → n ∉ Region.ready md ops l := by
  intro k
  induction k with
  | zero => intro i h1 h2; omega
  | succ k ih =>
    intro i hd hi hun hr
    obtain ⟨_, ot, hot, hall⟩ := mem_ready.1 hr
    obtain ⟨j, hj, hj2⟩ := List.any_eq_true.1 (List.all_eq_true.1 hs i (List.mem_range.2 hi))
    simp only [Bool.and_eq_true, decide_eq_true_eq] at hj2
    have hjn := List.mem_range.1 hj
    obtain ⟨oj, hoj, e, he, hb, hon⟩ := Region.waitsFor_spec hj2.2
    have hjl : l.getD j false = true → False := fun hl => by
      have := h.back j oj hoj hl e he hb
      rw [hon, getD_ff hun] at this
      cases this
    by_cases hjt : j = n
    · subst hjt
      obtain rfl : oj = ot := Option.some.inj (hoj.symm.trans hot)
      have := hall e he hb
      rw [hon, getD_ff hun] at this
      cases this
    · cases hl : l.getD j false with
      | true => exact hjl hl
      | false =>
        have hjs : j < l.size := by rw [h.size]; exact (Array.getElem?_eq_some_iff.1 hoj).1
        exact ih j (by omega) (by omega) (getD_tf hjs hl) hr

theorem wpTill_first {i : Nat} {oi : Oper} {v : Value} (hi : ops[i]? = some oi) (hsel : ∀ (j : Nat) (o : Oper) cs b, ops[j]? = some o → o.op ≠ .select cs b)
    (hQ : ∀ c a w, Q (.panic c) (a.put oi.dst v) w → Q (.panic c) a w) (hs : Region.sinkB md ops n = true) (hin : i < n) :
    ∀ (f : Nat) (l : Array Bool) (a : Act) (w : World), Deps md ops l → l.getD n false = false →
      (∀ j oj, ops[j]? = some oj → j ≠ i → l.getD j true = false → (∀ e ∈ oj.after, Region.binds md e = true → e.on ≠ i) → oi.apart ops oj = true) →
      i ∈ Region.ready md ops l → YieldsIf P ops S oi v a → S w →
      wpTill P md ops Q S n f (l.setIfInBounds i true) (a.put oi.dst v) w → wpTill P md ops Q S n (f + 1) l a w := by
  intro f
  induction f with
  | zero =>
    intro l a w _ _ _ hr hy hS H
    refine ⟨fun h => (by rw [h] at hr; cases hr), fun j hj => ?_⟩
    by_cases hji : j = i
    · subst hji; exact hy.wpOp hi hS ⟨.inl hS, H⟩
    · have := ready_mono hj hji
      rw [H.1] at this
      cases this
  | succ f ih =>
    intro l a w hd hn hfree hr hy hS H
    have hun := (mem_ready.1 hr).1
    refine ⟨fun h => (by rw [h] at hr; cases hr), fun j hj => ?_⟩
    by_cases hji : j = i
    · subst hji; exact hy.wpOp hi hS ⟨.inl hS, H⟩
    · have hjn : j ≠ n := fun e => by subst e; exact sink_not_ready hs hd _ i (Nat.le_refl _) hin hun hj
      obtain ⟨hjun, oj, hoj, hall⟩ := mem_ready.1 hj
      have hnot : ∀ e ∈ oj.after, Region.binds md e = true → e.on ≠ i := fun e he hb heq => by
        have h1 := hall e he hb
        rw [heq, getD_ff hun] at h1
        cases h1
      have h2 := wpOp_putIf hoj (hfree j oj hoj hji hjun hnot) (fun cs b => hsel i oi cs b hi) (fun cs b => hsel j oj cs b hoj) hQ hy (H.2 j (ready_mono hj hji))
      have hn' : (l.setIfInBounds j true).getD n false = false := by rw [getD_set_ne false hjn]; exact hn
      have hfree' : ∀ k ok, ops[k]? = some ok → k ≠ i → (l.setIfInBounds j true).getD k true = false →
          (∀ e ∈ ok.after, Region.binds md e = true → e.on ≠ i) → oi.apart ops ok = true := fun k ok hk hki hun' hno => by
        refine hfree k ok hk hki ?_ hno
        by_cases hjk : j = k
        · subst hjk; exact hjun
        · rw [getD_set_ne true hjk] at hun'; exact hun'
      refine wpOp_mono (fun a' w' h3 => ?_) h2
      obtain ⟨hy', hSw, ht⟩ := h3
      have hSw' : S w' := by
        rcases hSw with h | h
        · exact h
        · rw [getD_set_ne false hjn, getD_set_ne false (by omega), hn] at h; cases h
      refine ⟨.inl hSw', ih (l.setIfInBounds j true) a' w' (hd.step hj) hn' hfree' (ready_mono hr (Ne.symm hji)) hy' hSw' ?_⟩
      rw [Array.setIfInBounds_comm _ _ hji]
      exact ht
theorem wpTill_alone {k f : Nat} {l : Array Bool} {a : Act} {w : World} (hr : Region.ready md ops l = [k])
    (h : wpOp P ops Q k (fun a' w' => (S w' ∨ (l.setIfInBounds k true).getD n false = true) ∧ wpTill P md ops Q S n f (l.setIfInBounds k true) a' w') a w) : wpTill P md ops Q S n (f + 1) l a w := by
  refine ⟨fun h0 => ?_, fun i hi => ?_⟩
  · rw [hr] at h0; cases h0
  · rw [hr] at hi
    have : i = k := by simpa using hi
    subst this
    exact h

/-- the order of the walk holds: 0: taken; 1: alone, S shown behind it; 2: alone, the sink or behind it -/
def mixB (md : Region.Mode) (ops : Array Oper) (n : Nat) : List (Nat × Nat) → Array Bool → Bool
  | [], l => (Region.ready md ops l).isEmpty
  | (k, 0) :: r, l => (Region.ready md ops l).contains k && Region.free md ops l k && decide (k < n) && !l.getD n false && mixB md ops n r (l.setIfInBounds k true)
  | (k, 1) :: r, l => decide (Region.ready md ops l = [k]) && mixB md ops n r (l.setIfInBounds k true)
  | (k, _ + 2) :: r, l => decide (Region.ready md ops l = [k]) && (l.setIfInBounds k true).getD n false && mixB md ops n r (l.setIfInBounds k true)

/-- the walk -/
def wpMix (P : Program) (ops : Array Oper) (Q : Exit → Act → World → Prop) (S : World → Prop) : List (Nat × Oper) → Act → World → Prop
  | [], a, w => Q .normal a w
  | (0, o) :: r, a, w => if Region.wanted o (yielded ops a.tmps) then ∃ v, (∀ W, S W → (execOp a.eval o).run P W = .ok (.value v) W) ∧ wpMix P ops Q S r (a.put o.dst v) w else wpMix P ops Q S r (a.put o.dst undef) w
  | (1, o) :: r, a, w => if Region.wanted o (yielded ops a.tmps) then o.wp P a w (fun a' w' => S w' ∧ wpMix P ops Q S r a' w') Q else wpMix P ops Q S r (a.put o.dst undef) w
  | (_ + 2, o) :: r, a, w => if Region.wanted o (yielded ops a.tmps) then o.wp P a w (wpMix P ops Q S r) Q else wpMix P ops Q S r (a.put o.dst undef) w

/-- the operations, in the order of the walk -/
def pickO (l : List Oper) : List (Nat × Nat) → List (Nat × Oper)
  | [] => []
  | (k, b) :: r => match l[k]? with
    | some o => (b, o) :: pickO l r
    | none => pickO l r

theorem wpTill_of_mix {l : List Oper} (hsel : Region.noSelect l.toArray = true) (hs : Region.sinkB md l.toArray n = true) (hQ : ∀ c a d v w, Q (.panic c) (Act.put a d v) w → Q (.panic c) a w) :
    ∀ (ord : List (Nat × Nat)) (t : Array Bool) (a : Act) (w : World), Deps md l.toArray t → (S w ∨ t.getD n false = true) → mixB md l.toArray n ord t = true →
      wpMix P l.toArray Q S (pickO l ord) a w → wpTill P md l.toArray Q S n ord.length t a w := by
  intro ord
  induction ord with
  | nil => intro t a w _ _ hB h; exact ⟨by simpa [mixB] using hB, h⟩
  | cons p r ih =>
    intro t a w hd hS hB h
    obtain ⟨k, b⟩ := p
    have hkr : k ∈ Region.ready md l.toArray t := by
      match b, hB with
      | 0, hB => simp only [mixB, Bool.and_eq_true] at hB; simpa using hB.1.1.1.1
      | 1, hB => simp only [mixB, Bool.and_eq_true, decide_eq_true_eq] at hB; rw [hB.1]; simp
      | _ + 2, hB => simp only [mixB, Bool.and_eq_true, decide_eq_true_eq] at hB; rw [hB.1.1]; simp
    obtain ⟨_, o, ho, _⟩ := mem_ready.1 hkr
    have ho' : l[k]? = some o := by simpa using ho
    have hd' := hd.step hkr
    simp only [pickO, ho'] at h
    match b, hB, h with
    | 0, hB, h =>
      simp only [mixB, Bool.and_eq_true, decide_eq_true_eq, Bool.not_eq_true'] at hB
      obtain ⟨⟨⟨⟨_, hf⟩, hkn⟩, htn⟩, hB⟩ := hB
      have hSw : S w := by
        rcases hS with h | h
        · exact h
        · rw [htn] at h; cases h
      simp only [wpMix] at h
      by_cases hw : Region.wanted o (yielded l.toArray a.tmps) = true
      · rw [if_pos hw] at h
        obtain ⟨v, hv, h⟩ := h
        exact wpTill_first ho (Region.noSelect_spec hsel) (fun c a w => hQ c a _ v w) hs hkn _ t a w hd htn (Region.free_spec ho hf) hkr (.inl ⟨hw, hv⟩) hSw (ih _ _ _ hd' (.inl hSw) hB h)
      · rw [if_neg hw] at h
        exact wpTill_first ho (Region.noSelect_spec hsel) (fun c a w => hQ c a _ undef w) hs hkn _ t a w hd htn (Region.free_spec ho hf) hkr (.inr ⟨by simpa using hw, rfl⟩) hSw (ih _ _ _ hd' (.inl hSw) hB h)
    | 1, hB, h =>
      simp only [mixB, Bool.and_eq_true, decide_eq_true_eq] at hB
      refine wpTill_alone hB.1 ?_
      unfold wpOp
      simp only [ho]
      simp only [wpMix] at h
      by_cases hw : Region.wanted o (yielded l.toArray a.tmps) = true
      · rw [if_pos hw] at h ⊢
        exact .inl (Oper.wp_mono (fun a' w' h' => ⟨.inl h'.1, ih _ _ _ hd' (.inl h'.1) hB.2 h'.2⟩) h)
      · rw [if_neg hw] at h ⊢
        have hS' : S w ∨ (t.setIfInBounds k true).getD n false = true := hS.imp id getD_set_true
        exact ⟨hS', ih _ _ _ hd' hS' hB.2 h⟩
    | b + 2, hB, h =>
      simp only [mixB, Bool.and_eq_true, decide_eq_true_eq] at hB
      refine wpTill_alone hB.1.1 ?_
      unfold wpOp
      simp only [ho]
      simp only [wpMix] at h
      by_cases hw : Region.wanted o (yielded l.toArray a.tmps) = true
      · rw [if_pos hw] at h ⊢
        exact .inl (Oper.wp_mono (fun a' w' h' => ⟨.inr hB.1.2, ih _ _ _ hd' (.inr hB.1.2) hB.2 h'⟩) h)
      · rw [if_neg hw] at h ⊢
        exact ⟨.inr hB.1.2, ih _ _ _ hd' (.inr hB.1.2) hB.2 h⟩

/-- ONE WALK SERVES EVERY ORDER -/
theorem wp_region_mix {id : Nat} {a : Act} {w : World} {l : List Oper} (ord : List (Nat × Nat)) (n : Nat) (S : World → Prop) (hm : P.follows .mixedOrders = true)
    (hB : (Region.noSelect l.toArray && Region.sinkB .any l.toArray n && decide (ord.length = l.length) && mixB .any l.toArray n ord (Array.replicate l.toArray.size false)) = true)
    (hQ : ∀ c a d v w, Q (.panic c) (Act.put a d v) w → Q (.panic c) a w) (hS : S w.drew) (h : wpMix P l.toArray Q S (pickO l ord) a w.drew) : (Code.region id l.toArray true).wp P Q a w := by
  simp only [Bool.and_eq_true, decide_eq_true_eq] at hB
  obtain ⟨⟨⟨h1, h2⟩, h3⟩, h4⟩ := hB
  refine wp_region_any hm (wpAny_of_till _ _ _ _ (n := n) (S := S) ?_)
  have := wpTill_of_mix (P := P) (S := S) h1 h2 hQ ord _ a w.drew Deps.start (.inl hS) h4 h
  rw [h3] at this
  exact this

theorem mix_take {o : Oper} {r : List (Nat × Oper)} {a : Act} {w : World}
    (h : ∀ K : Act → Prop, (∀ a, wpMix P ops Q S r a w → K a) → if Region.wanted o (yielded ops a.tmps) then ∃ v, (∀ W, S W → (execOp a.eval o).run P W = .ok (.value v) W) ∧ K (a.put o.dst v) else K (a.put o.dst undef)) :
    wpMix P ops Q S ((0, o) :: r) a w := h (fun a => wpMix P ops Q S r a w) (fun _ h => h)
theorem mix_one {o : Oper} {r : List (Nat × Oper)} {a : Act} {w : World}
    (h : ∀ K : Act → World → Prop, (∀ a w, S w → wpMix P ops Q S r a w → K a w) → (S w → if Region.wanted o (yielded ops a.tmps) then o.wp P a w K Q else K (a.put o.dst undef) w)) (hS : S w) :
    wpMix P ops Q S ((1, o) :: r) a w := by
  simp only [wpMix]
  have h2 := h (fun a' w' => S w' ∧ wpMix P ops Q S r a' w') (fun a w h1 h2 => ⟨h1, h2⟩) hS
  by_cases hw : Region.wanted o (yielded ops a.tmps) = true
  · rw [if_pos hw] at h2 ⊢; exact h2
  · rw [if_neg hw] at h2 ⊢; exact h2.2
theorem mix_two {o : Oper} {r : List (Nat × Oper)} {a : Act} {w : World} {b : Nat}
    (h : ∀ K : Act → World → Prop, (∀ a w, wpMix P ops Q S r a w → K a w) → if Region.wanted o (yielded ops a.tmps) then o.wp P a w K Q else K (a.put o.dst undef) w) :
    wpMix P ops Q S ((b + 2, o) :: r) a w := h (wpMix P ops Q S r) (fun _ _ h => h)
end

/-- a later world in which the blocks F may have turned -/
structure XF (F : Nat → Prop) (w : World) where
  val : World
  upd : Upd F w val
instance (F : Nat → Prop) (w : World) : Nonempty (XF F w) := ⟨⟨w, Upd.refl _ w⟩⟩
end Go.Hw
