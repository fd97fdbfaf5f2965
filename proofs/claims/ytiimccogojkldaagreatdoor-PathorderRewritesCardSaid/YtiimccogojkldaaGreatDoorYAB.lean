/- The texts TV PP TR TS L2 I30 I31 TC TK I1, one behind the other. -/
import Derived.Test.YtiimccogojkldaaGreatDoorYAA
import Derived.Test.YtiimccogojkldaaGreatDoorProg
import Derived.WalkKit
import Derived.Deep.SlicePairs
import Derived.RangeFuncRecord
import Derived.RangeFuncKeeps
import Derived.RangeFuncNested
import Derived.RangeFuncBound
import Derived.RangeFuncCalls
import Derived.RangeFuncLeaves
import Derived.Shelf.Abstract
import Derived.Shelf.RegionOpen
import Derived.OwnWalkIn
import Derived.TacticsInMore
import Derived.LoopNIn
import Derived.LoopIn
import Derived.Sort.LoopGhostIn
import Derived.Laws.EntriesVeiled
/- Variables and their sorts: pure. -/
namespace Go.Hw
open Tm
set_option linter.unusedVariables false
set_option linter.unusedSimpArgs false
/-- the order of strings -/
def blt (a b : By) : Bool := decide (a.data.toList < b.data.toList)
theorem by_ext {a b : By} (h : a.data.toList = b.data.toList) : a = b := by
  cases a; cases b
  simp only [ByteArray.mk.injEq]
  exact Array.toList_inj.1 h
theorem blt_irrefl (a : By) : blt a a = false := by unfold blt; simp
theorem blt_trans {a b c : By} (h1 : blt a b = true) (h2 : blt b c = true) : blt a c = true := by
  unfold blt at *
  rw [decide_eq_true_eq] at *
  exact List.lt_trans h1 h2
theorem blt_tri (a b : By) (h : a ≠ b) : blt a b = true ∨ blt b a = true := by
  unfold blt
  rw [decide_eq_true_eq, decide_eq_true_eq]
  by_cases h1 : a.data.toList < b.data.toList
  · exact .inl h1
  · refine .inr ?_
    have h2 := List.not_lt.1 h1
    rcases List.le_iff_lt_or_eq.1 h2 with h3 | h3
    · exact h3
    · exact absurd (by_ext h3.symm) h
theorem blt_asymm {a b : By} (h : blt a b = true) : blt b a = false := by
  rw [Bool.eq_false_iff]
  intro h2
  have := blt_trans h h2
  rw [blt_irrefl] at this
  cases this
abbrev Vd := By × By
def fget (m : List Vd) (n : By) : Option By := (m.find? fun p => decide (p.1 = n)).map (·.2)
theorem fget_cons (p : Vd) (m : List Vd) (n : By) : fget (p :: m) n = if p.1 = n then some p.2 else fget m n := by
  unfold fget
  rw [List.find?_cons]
  by_cases h : p.1 = n
  · rw [if_pos h, decide_eq_true h]; rfl
  · rw [if_neg h, decide_eq_false h]
theorem fget_snoc (m : List Vd) (p : Vd) (n : By) : fget (m ++ [p]) n = (fget m n).or (if p.1 = n then some p.2 else none) := by
  induction m with
  | nil => rw [List.nil_append, fget_cons]; unfold fget; simp
  | cons a m ih =>
    rw [List.cons_append, fget_cons, fget_cons, ih]
    by_cases h : a.1 = n
    · rw [if_pos h, if_pos h]; rfl
    · rw [if_neg h, if_neg h]
theorem fget_some {m : List Vd} {n s : By} (h : fget m n = some s) : (n, s) ∈ m := by
  induction m with
  | nil => cases h
  | cons a m ih =>
    rw [fget_cons] at h
    by_cases h1 : a.1 = n
    · rw [if_pos h1] at h
      injection h with h
      subst h1 h
      exact List.mem_cons_self ..
    · rw [if_neg h1] at h
      exact List.mem_cons_of_mem _ (ih h)
theorem fget_none {m : List Vd} {n : By} (h : fget m n = none) : ∀ p ∈ m, p.1 ≠ n := by
  induction m with
  | nil => intro p hp; cases hp
  | cons a m ih =>
    rw [fget_cons] at h
    by_cases h1 : a.1 = n
    · rw [if_pos h1] at h; cases h
    · rw [if_neg h1] at h
      intro p hp
      rcases List.mem_cons.1 hp with e | hp
      · rw [e]; exact h1
      · exact ih h p hp
/-- the variables of nodes -/
def vl (l : List Tm) : List Vd := l.filterMap fun x => if x.sort = nul then none else some (x.name, x.sort)
theorem vl_append (l m : List Tm) : vl (l ++ m) = vl l ++ vl m := List.filterMap_append
/-- as the program gathers them: a table -/
def sFold : List Vd → List Vd → Option (List Vd)
  | m, [] => some m
  | m, f :: fs => match fget m f.1 with
    | none => sFold (m ++ [f]) fs
    | some s => if s = f.2 then sFold m fs else none
theorem sFold_append (fs gs : List Vd) : ∀ m, sFold m (fs ++ gs) = (sFold m fs).bind fun m' => sFold m' gs := by
  induction fs with
  | nil => intro m; rfl
  | cons f fs ih =>
    intro m
    simp only [List.cons_append, sFold]
    cases fget m f.1 with
    | none => exact ih _
    | some s =>
      simp only
      split
      · exact ih _
      · rfl
/-- one sort for each name -/
def Cons (fs : List Vd) : Prop := ∀ f ∈ fs, ∀ g ∈ fs, f.1 = g.1 → f.2 = g.2
theorem sFold_spec (fs : List Vd) : ∀ (m : List Vd), Cons m → (∀ m', sFold m fs = some m' → Cons m' ∧ (∀ f, f ∈ m' ↔ f ∈ m ∨ f ∈ fs) ∧ (m.Pairwise (fun p q => p.1 ≠ q.1) → m'.Pairwise (fun p q => p.1 ≠ q.1))) ∧ (sFold m fs = none → ¬ Cons (m ++ fs)) := by
  induction fs with
  | nil =>
    intro m hm
    refine ⟨fun m' h => ?_, fun h => by cases h⟩
    injection h with h
    subst h
    exact ⟨hm, fun f => by simp, fun h => h⟩
  | cons f fs ih =>
    intro m hm
    unfold sFold
    cases hg : fget m f.1 with
    | none =>
      have hn := fget_none hg
      have hm2 : Cons (m ++ [f]) := by
        intro x hx y hy e
        rw [List.mem_append, List.mem_singleton] at hx hy
        rcases hx with hx | hx <;> rcases hy with hy | hy
        · exact hm x hx y hy e
        · subst hy; exact absurd e (hn x hx)
        · subst hx; exact absurd e.symm (hn y hy)
        · rw [hx, hy]
      obtain ⟨h1, h2⟩ := ih (m ++ [f]) hm2
      refine ⟨fun m' h => ?_, fun h => ?_⟩
      · obtain ⟨a, b, c⟩ := h1 m' h
        refine ⟨a, fun x => ?_, fun hp => c ?_⟩
        · rw [b x, List.mem_append, List.mem_singleton, List.mem_cons, or_assoc]
        · rw [List.pairwise_append]
          refine ⟨hp, List.pairwise_singleton _ _, fun x hx y hy => ?_⟩
          rw [List.mem_singleton] at hy
          rw [hy]
          exact hn x hx
      · have := h2 h
        rwa [List.append_assoc] at this
    | some s =>
      have hs := fget_some hg
      simp only
      by_cases h : s = f.2
      · rw [if_pos h]
        obtain ⟨h1, h2⟩ := ih m hm
        have hfm : f ∈ m := by
          have : (f.1, s) = f := by rw [h]
          rwa [this] at hs
        refine ⟨fun m' h => ?_, fun h3 hc => ?_⟩
        · obtain ⟨a, b, c⟩ := h1 m' h
          refine ⟨a, fun x => ?_, c⟩
          rw [b x, List.mem_cons]
          constructor
          · rintro (h | h)
            · exact .inl h
            · exact .inr (.inr h)
          · rintro (h | h | h)
            · exact .inl h
            · rw [h]; exact .inl hfm
            · exact .inr h
        · refine h2 h3 (fun x hx y hy e => ?_)
          have hin : ∀ z, z ∈ m ++ fs → z ∈ m ++ f :: fs := fun z hz => by
            rw [List.mem_append] at hz ⊢
            rcases hz with hz | hz
            · exact .inl hz
            · exact .inr (List.mem_cons_of_mem _ hz)
          exact hc x (hin x hx) y (hin y hy) e
      · rw [if_neg h]
        refine ⟨fun m' h => (by cases h), fun _ hc => h ?_⟩
        exact hc (f.1, s) (List.mem_append_left _ hs) f (List.mem_append_right _ (List.mem_cons_self ..)) rfl
/-- as the reference gathers them: ascending -/
def vadd : List Vd → Vd → List Vd × Bool
  | [], f => ([f], true)
  | g :: l, f => if blt g.1 f.1 = true then (g :: (vadd l f).1, (vadd l f).2) else if g.1 = f.1 then (g :: l, decide (g.2 = f.2)) else (f :: g :: l, true)
def vFold : List Vd → List Vd → List Vd × Bool
  | l, [] => (l, true)
  | l, f :: fs => if (vadd l f).2 = true then vFold (vadd l f).1 fs else (l, false)
def Asc (l : List Vd) : Prop := l.Pairwise fun p q => blt p.1 q.1 = true
theorem asc_get_none {l : List Vd} {f g : Vd} (h : Asc (g :: l)) (h1 : blt f.1 g.1 = true) : fget (g :: l) f.1 = none := by
  have h2 : ∀ p ∈ g :: l, p.1 ≠ f.1 := by
    intro p hp e
    rcases List.mem_cons.1 hp with h3 | h3
    · rw [h3] at e; rw [e, blt_irrefl] at h1; cases h1
    · have h4 := (List.pairwise_cons.1 h).1 p h3
      have := blt_trans h1 h4
      rw [e, blt_irrefl] at this
      cases this
  cases hc : fget (g :: l) f.1 with
  | none => rfl
  | some s => exact absurd rfl (h2 (f.1, s) (fget_some hc))
theorem vadd_spec (f : Vd) : ∀ (l : List Vd), Asc l →
    (vadd l f).2 = (match fget l f.1 with | none => true | some s => decide (s = f.2)) ∧
    ((vadd l f).2 = true → Asc (vadd l f).1 ∧ (∀ g, g ∈ (vadd l f).1 ↔ g ∈ l ∨ g = f) ∧ ∀ n, fget (vadd l f).1 n = (fget l n).or (if f.1 = n then some f.2 else none)) ∧ ((vadd l f).2 = false → (vadd l f).1 = l)
  | [], _ => by
    refine ⟨rfl, fun _ => ⟨List.pairwise_singleton _ _, fun g => by simp [vadd], fun n => ?_⟩, fun h => by cases h⟩
    show fget [f] n = _
    rw [fget_cons]
    unfold fget
    simp
  | g :: l, h => by
    obtain ⟨h1, h2⟩ := List.pairwise_cons.1 h
    obtain ⟨e1, e2, e3⟩ := vadd_spec f l h2
    unfold vadd
    by_cases hlt : blt g.1 f.1 = true
    · have hne : g.1 ≠ f.1 := fun e => by rw [e, blt_irrefl] at hlt; cases hlt
      rw [if_pos hlt, fget_cons, if_neg hne]
      refine ⟨e1, fun hq => ?_, fun hq => by show g :: (vadd l f).1 = _; rw [e3 hq]⟩
      obtain ⟨a, b, c⟩ := e2 hq
      refine ⟨List.pairwise_cons.2 ⟨fun p hp => ?_, a⟩, fun p => ?_, fun n => ?_⟩
      · rcases (b p).1 hp with hp | hp
        · exact h1 p hp
        · rw [hp]; exact hlt
      · show p ∈ g :: (vadd l f).1 ↔ _
        rw [List.mem_cons, b p, List.mem_cons, or_assoc]
      · show fget (g :: (vadd l f).1) n = _
        rw [fget_cons, fget_cons, c n]
        by_cases hn : g.1 = n
        · rw [if_pos hn, if_pos hn]; rfl
        · rw [if_neg hn, if_neg hn]
    · rw [if_neg hlt]
      by_cases heq : g.1 = f.1
      · rw [if_pos heq, fget_cons, if_pos heq]
        refine ⟨rfl, fun hq => ?_, fun _ => rfl⟩
        have hgf : g = f := by
          have := of_decide_eq_true hq
          exact Prod.ext heq this
        refine ⟨h, fun p => ?_, fun n => ?_⟩
        · constructor
          · exact fun h => .inl h
          · rintro (h | h)
            · exact h
            · rw [h, ← hgf]; exact List.mem_cons_self ..
        · show fget (g :: l) n = _
          rw [fget_cons]
          by_cases hn : g.1 = n
          · rw [if_pos hn]; rfl
          · rw [if_neg hn, if_neg (fun e => hn (by rw [heq, e]))]
            simp
      · rw [if_neg heq]
        have hfg : blt f.1 g.1 = true := by
          rcases blt_tri g.1 f.1 heq with h3 | h3
          · exact absurd h3 hlt
          · exact h3
        rw [asc_get_none h hfg]
        refine ⟨rfl, fun _ => ⟨List.pairwise_cons.2 ⟨fun p hp => ?_, h⟩, fun p => ?_, fun n => ?_⟩, fun h => by cases h⟩
        · rcases List.mem_cons.1 hp with hp | hp
          · rw [hp]; exact hfg
          · exact blt_trans hfg (h1 p hp)
        · show p ∈ f :: g :: l ↔ _
          rw [List.mem_cons]
          exact or_comm
        · show fget (f :: g :: l) n = _
          rw [fget_cons]
          by_cases hn : f.1 = n
          · rw [if_pos hn]
            have := asc_get_none h hfg
            rw [hn] at this
            rw [this, if_pos hn]; rfl
          · rw [if_neg hn, if_neg hn]
            cases fget (g :: l) n <;> rfl
/-- both agree -/
theorem vFold_spec (fs : List Vd) : ∀ (l m : List Vd), Asc l → (∀ n, fget l n = fget m n) → (∀ f, f ∈ l ↔ f ∈ m) →
    ((vFold l fs).2 = (sFold m fs).isSome) ∧ ∀ m', sFold m fs = some m' → Asc (vFold l fs).1 ∧ (∀ n, fget (vFold l fs).1 n = fget m' n) ∧ ∀ f, f ∈ (vFold l fs).1 ↔ f ∈ m' := by
  induction fs with
  | nil =>
    intro l m hl hg hmem
    refine ⟨rfl, fun m' h => ?_⟩
    injection h with h
    subst h
    exact ⟨hl, hg, hmem⟩
  | cons f fs ih =>
    intro l m hl hg hmem
    obtain ⟨e1, e2, e3⟩ := vadd_spec f l hl
    unfold vFold sFold
    rw [hg] at e1
    cases hc : fget m f.1 with
    | none =>
      rw [hc] at e1
      rw [if_pos e1]
      obtain ⟨a, b, c⟩ := e2 e1
      refine ih _ _ a (fun n => ?_) (fun x => ?_)
      · rw [c n, fget_snoc, hg]
      · rw [b x, hmem, List.mem_append, List.mem_singleton]
    | some s =>
      rw [hc] at e1
      simp only at e1 ⊢
      by_cases hs : s = f.2
      · rw [decide_eq_true hs] at e1
        rw [if_pos e1, if_pos hs]
        obtain ⟨a, b, c⟩ := e2 e1
        have hfm : f ∈ m := by
          have h4 := fget_some hc
          rw [hs] at h4
          exact h4
        refine ih _ _ a (fun n => ?_) (fun x => ?_)
        · rw [c n, hg]
          by_cases hn : f.1 = n
          · rw [← hn, hc, hs]; rfl
          · rw [if_neg hn]; simp
        · rw [b x, hmem]
          constructor
          · rintro (h | h)
            · exact h
            · rw [h]; exact hfm
          · exact fun h => .inl h
      · rw [decide_eq_false hs] at e1
        rw [if_neg (by rw [e1]; decide), if_neg hs]
        exact ⟨rfl, fun m' h => by cases h⟩
/-- the table of a term's variables -/
def sortsT (t : Tm) : Option (List Vd) := sFold [] (vl (sbts t))
theorem sortsT_iff (t : Tm) : (sortsT t).isSome = true ↔ Cons (vl (sbts t)) := by
  have hnil : Cons [] := fun f hf => by cases hf
  obtain ⟨h1, h2⟩ := sFold_spec (vl (sbts t)) [] hnil
  unfold sortsT
  cases hc : sFold [] (vl (sbts t)) with
  | none => exact ⟨fun h => (by cases h), fun h => absurd h (h2 hc)⟩
  | some m =>
    obtain ⟨a, b, _⟩ := h1 m hc
    refine ⟨fun _ x hx y hy e => a x ((b x).2 (.inr hx)) y ((b y).2 (.inr hy)) e, fun _ => rfl⟩
/-- the variables, ascending -/
def varsT (t : Tm) : List Vd := (vFold [] (vl (sbts t))).1
theorem varsT_ok (t : Tm) : (vFold [] (vl (sbts t))).2 = (sortsT t).isSome := (vFold_spec (vl (sbts t)) [] [] List.Pairwise.nil (fun _ => rfl) (fun _ => Iff.rfl)).1
/-- well-formed -/
def wf (nm : By → Bool) (t : Tm) : Bool := formed nm t && (sortsT t).isSome
end Go.Hw

/- Precedences, operations of terms, and the search for a precedence: pure. -/
namespace Go.Hw
open Tm
set_option linter.unusedVariables false
set_option linter.unusedSimpArgs false
instance byMem (s : By) (l : List By) : Decidable (s ∈ l) := decidable_of_iff (l.any (fun x => decide (x = s)) = true) (by
  rw [List.any_eq_true]
  exact ⟨fun ⟨x, hx, h⟩ => of_decide_eq_true h ▸ hx, fun h => ⟨s, h, decide_eq_true rfl⟩⟩)
/-- the index of a name; the length where it is not there -/
def ixF (l : List By) (s : By) : Nat := l.findIdx fun x => decide (x = s)
theorem ixF_le (l : List By) (s : By) : ixF l s ≤ l.length := List.findIdx_le_length
theorem ixF_lt {l : List By} {s : By} (h : s ∈ l) : ixF l s < l.length := List.findIdx_lt_length_of_exists ⟨s, h, by simp⟩
theorem ixF_mem {l : List By} {s : By} (h : ixF l s < l.length) : s ∈ l := by
  have := List.findIdx_getElem (w := h)
  rw [decide_eq_true_eq] at this
  rw [← this]
  exact List.getElem_mem h
theorem ixF_at {l : List By} {s : By} (h : s ∈ l) : l.getD (ixF l s) nul = s := by
  have h1 := ixF_lt h
  have := List.findIdx_getElem (w := h1)
  rw [decide_eq_true_eq] at this
  rw [List.getD_eq_getElem?_getD, List.getElem?_eq_getElem h1]
  exact this
theorem ixF_not {l : List By} {s : By} {j : Nat} (h : j < ixF l s) : l.getD j nul ≠ s := by
  have h1 : j < l.length := Nat.lt_of_lt_of_le h (ixF_le l s)
  have := List.not_of_lt_findIdx h
  simp only [decide_eq_false_iff_not] at this
  rw [List.getD_eq_getElem?_getD, List.getElem?_eq_getElem h1]
  simpa using this
theorem ixF_of {l : List By} {s : By} {k : Nat} (hk : k < l.length) (h1 : ∀ j, j < k → l.getD j nul ≠ s) (h2 : l.getD k nul = s) : ixF l s = k := by
  have hm : s ∈ l := by
    rw [← h2, List.getD_eq_getElem?_getD, List.getElem?_eq_getElem hk]
    exact List.getElem_mem hk
  rcases Nat.lt_trichotomy (ixF l s) k with h | h | h
  · exact absurd (ixF_at hm) (h1 _ h)
  · exact h
  · exact absurd h2 (ixF_not h)
theorem ixF_none {l : List By} {s : By} (h : ∀ j, j < l.length → l.getD j nul ≠ s) : ixF l s = l.length := by
  rcases Nat.lt_or_eq_of_le (ixF_le l s) with h1 | h1
  · exact absurd (ixF_at (ixF_mem h1)) (h _ h1)
  · exact h1
theorem ixF_inj {l : List By} {a b : By} (ha : a ∈ l) (hb : b ∈ l) (h : ixF l a = ixF l b) : a = b := by rw [← ixF_at ha, h, ixF_at hb]
theorem mem_ix {l : List By} {s : By} : s ∈ l ↔ ixF l s < l.length := ⟨ixF_lt, ixF_mem⟩
/-- all different -/
def Dif (l : List By) : Prop := l.Pairwise (· ≠ ·)
theorem Dif.ix {l : List By} (h : Dif l) {k : Nat} (hk : k < l.length) : ixF l (l.getD k nul) = k := by
  refine ixF_of hk (fun j hj => ?_) rfl
  rw [List.getD_eq_getElem?_getD, List.getD_eq_getElem?_getD, List.getElem?_eq_getElem hk, List.getElem?_eq_getElem (Nat.lt_trans hj hk)]
  exact List.pairwise_iff_getElem.1 h j k (Nat.lt_trans hj hk) hk hj
/-- a precedence -/
def precP (nm : By → Bool) (ops : List By) : Bool := decide (ops.length ≤ 100) && (List.range ops.length).all fun i => nm (ops.getD i nul) && !decide (ops.getD i nul ∈ ops.take i)
theorem precP_iff (nm : By → Bool) (ops : List By) : precP nm ops = true ↔ ops.length ≤ 100 ∧ (∀ s ∈ ops, nm s = true) ∧ Dif ops := by
  unfold precP
  rw [Bool.and_eq_true, decide_eq_true_eq, List.all_eq_true]
  refine and_congr_right fun _ => ?_
  have hget : ∀ i, (h : i < ops.length) → ops.getD i nul = ops[i] := fun i h => by rw [List.getD_eq_getElem?_getD, List.getElem?_eq_getElem h]; rfl
  constructor
  · intro h
    have h' : ∀ i, (hi : i < ops.length) → nm ops[i] = true ∧ ops[i] ∉ ops.take i := fun i hi => by
      have := h i (List.mem_range.2 hi)
      rw [Bool.and_eq_true, Bool.not_eq_true', decide_eq_false_iff_not, hget i hi] at this
      exact this
    refine ⟨fun s hs => ?_, List.pairwise_iff_getElem.2 fun i j hi hj hij e => ?_⟩
    · obtain ⟨i, hi, rfl⟩ := List.mem_iff_getElem.1 hs
      exact (h' i hi).1
    · refine (h' j hj).2 ?_
      rw [← e, List.mem_take_iff_getElem]
      exact ⟨i, by omega, rfl⟩
  · rintro ⟨h1, h2⟩ i hi
    have hi := List.mem_range.1 hi
    rw [Bool.and_eq_true, Bool.not_eq_true', decide_eq_false_iff_not, hget i hi]
    refine ⟨h1 _ (List.getElem_mem hi), fun hm => ?_⟩
    obtain ⟨j, hj, e⟩ := List.mem_take_iff_getElem.1 hm
    exact List.pairwise_iff_getElem.1 h2 j i (by omega) hi (by omega) e
theorem precP_stop {nm : By → Bool} {ops : List By} {k : Nat} (hk : k < ops.length) (h : nm (ops.getD k nul) = false ∨ ops.getD k nul ∈ ops.take k) : precP nm ops = false := by
  rw [Bool.eq_false_iff]
  intro h2
  obtain ⟨_, h3, h4⟩ := (precP_iff nm ops).1 h2
  rw [List.getD_eq_getElem?_getD, List.getElem?_eq_getElem hk] at h
  rcases h with h | h
  · rw [Option.getD_some, h3 _ (List.getElem_mem hk)] at h; cases h
  · obtain ⟨j, hj, e⟩ := List.mem_take_iff_getElem.1 h
    exact List.pairwise_iff_getElem.1 h4 j k (by omega) hk (by omega) e
/-! ### operations -/
def opN (t : Tm) : List By := (sbts t).filterMap fun x => if x.sort = nul then some x.name else none
theorem opN_mk (n s : By) (L : List Tm) : opN (.mk n s L) = (if s = nul then [n] else []) ++ L.flatMap opN := by
  unfold opN
  rw [sbts_eq, List.filterMap_cons]
  have h : ∀ M : List Tm, (M.flatMap sbts).filterMap (fun x => if x.sort = nul then some x.name else none) = M.flatMap (fun t => (sbts t).filterMap fun x => if x.sort = nul then some x.name else none) := by
    intro M
    induction M with
    | nil => rfl
    | cons a M ih => rw [List.flatMap_cons, List.filterMap_append, ih, List.flatMap_cons]
  have h2 : (Tm.mk n s L).kids.flatMap sbts = L.flatMap sbts := rfl
  rw [h2, h]
  by_cases hs : s = nul
  · have h3 : (Tm.mk n s L).sort = nul := hs
    rw [if_pos h3, if_pos hs]; rfl
  · have h3 : ¬ (Tm.mk n s L).sort = nul := hs
    rw [if_neg h3, if_neg hs]; rfl
theorem opN_len (t : Tm) : (opN t).length ≤ t.size := by
  have h1 : (opN t).length ≤ (sbts t).length := List.length_filterMap_le _ _
  have h2 : (sbts t).length = t.size := by rw [sbts, List.length_map, nodesD_len]
  omega
theorem mem_opN {t : Tm} {s : By} : s ∈ opN t ↔ ∃ x ∈ sbts t, x.sort = nul ∧ x.name = s := by
  unfold opN
  rw [List.mem_filterMap]
  constructor
  · rintro ⟨x, hx, h⟩
    split at h
    · injection h with h
      exact ⟨x, hx, by assumption, h⟩
    · cases h
  · rintro ⟨x, hx, h1, h2⟩
    exact ⟨x, hx, by rw [if_pos h1, h2]⟩
def knowsP (ops : List By) (t : Tm) : Bool := (opN t).all fun s => decide (s ∈ ops)
theorem knowsP_iff {ops : List By} {t : Tm} : knowsP ops t = true ↔ ∀ s ∈ opN t, s ∈ ops := by
  unfold knowsP
  rw [List.all_eq_true]
  exact ⟨fun h s hs => of_decide_eq_true (h s hs), fun h s hs => decide_eq_true (h s hs)⟩
/-- as the reference gathers them -/
def aIns (l : List By) (s : By) : List By := if s ∈ l then l else l ++ [s]
def aFold (l ss : List By) : List By := ss.foldl aIns l
theorem aFold_append (l a b : List By) : aFold l (a ++ b) = aFold (aFold l a) b := by unfold aFold; rw [List.foldl_append]
theorem mem_aIns {l : List By} {s x : By} : x ∈ aIns l s ↔ x ∈ l ∨ x = s := by
  unfold aIns
  by_cases h : s ∈ l
  · rw [if_pos h]
    exact ⟨.inl, fun h2 => h2.elim id (fun e => e ▸ h)⟩
  · rw [if_neg h, List.mem_append, List.mem_singleton]
theorem mem_aFold {x : By} : ∀ {ss l : List By}, x ∈ aFold l ss ↔ x ∈ l ∨ x ∈ ss
  | [], l => by simp [aFold]
  | s :: ss, l => by
    have ih := mem_aFold (x := x) (ss := ss) (l := aIns l s)
    unfold aFold at ih ⊢
    rw [List.foldl_cons, ih, mem_aIns, List.mem_cons, or_assoc]
theorem aIns_dif {l : List By} {s : By} (h : Dif l) : Dif (aIns l s) := by
  unfold aIns
  by_cases hs : s ∈ l
  · rw [if_pos hs]; exact h
  · rw [if_neg hs]
    exact List.pairwise_append.2 ⟨h, List.pairwise_singleton _ _, fun a ha b hb e => hs (by rw [List.mem_singleton] at hb; rw [← hb, ← e]; exact ha)⟩
theorem aFold_dif : ∀ {ss l : List By}, Dif l → Dif (aFold l ss)
  | [], l, h => h
  | s :: ss, l, h => aFold_dif (ss := ss) (aIns_dif h)
theorem aIns_len (l : List By) (s : By) : (aIns l s).length ≤ l.length + 1 := by
  unfold aIns
  split
  · omega
  · simp
theorem aFold_len : ∀ (ss l : List By), (aFold l ss).length ≤ l.length + ss.length
  | [], l => by simp [aFold]
  | s :: ss, l => by
    have ih := aFold_len ss (aIns l s)
    have h1 := aIns_len l s
    unfold aFold at ih ⊢
    rw [List.foldl_cons, List.length_cons]
    omega
/-- as the program gathers them: ascending -/
abbrev Ris (l : List By) : Prop := l.Pairwise fun a b => blt a b = true
def lowF (l : List By) (s : By) : Nat := l.findIdx fun x => !blt x s
def sIns (l : List By) (s : By) : List By := if s ∈ l then l else l.take (lowF l s) ++ s :: l.drop (lowF l s)
theorem mem_sIns {l : List By} {s x : By} : x ∈ sIns l s ↔ x ∈ l ∨ x = s := by
  unfold sIns
  by_cases h : s ∈ l
  · rw [if_pos h]
    exact ⟨.inl, fun h2 => h2.elim id (fun e => e ▸ h)⟩
  · rw [if_neg h, List.mem_append, List.mem_cons]
    have h1 : x ∈ l ↔ x ∈ l.take (lowF l s) ∨ x ∈ l.drop (lowF l s) := by rw [← List.mem_append, List.take_append_drop]
    rw [h1]
    constructor
    · rintro (h | h | h)
      · exact .inl (.inl h)
      · exact .inr h
      · exact .inl (.inr h)
    · rintro ((h | h) | h)
      · exact .inl h
      · exact .inr (.inr h)
      · exact .inr (.inl h)
theorem low_take {l : List By} {s x : By} (h : x ∈ l.take (lowF l s)) : blt x s = true := by
  obtain ⟨j, hj, rfl⟩ := List.mem_take_iff_getElem.1 h
  have := List.not_of_lt_findIdx (show j < lowF l s by omega)
  simpa using this
theorem low_drop {l : List By} {s x : By} (hl : Ris l) (hs : s ∉ l) (h : x ∈ l.drop (lowF l s)) : blt s x = true := by
  obtain ⟨j, hj, rfl⟩ := List.mem_drop_iff_getElem.1 h
  have h0 : lowF l s < l.length := by omega
  have h1 : (!blt l[lowF l s] s) = true := List.findIdx_getElem (p := fun x => !blt x s) (w := h0)
  have h2 : blt l[lowF l s] s = false := by simpa using h1
  have h3 : blt s l[lowF l s] = true := by
    rcases blt_tri s l[lowF l s] (fun e => hs (by rw [e]; exact List.getElem_mem h0)) with h | h
    · exact h
    · rw [h2] at h; cases h
  rcases Nat.eq_zero_or_pos j with rfl | hp
  · simpa using h3
  · have h5 := List.pairwise_iff_getElem.1 hl (lowF l s) (j + lowF l s) h0 (by omega) (by omega)
    have h6 : l[lowF l s + j]'(by omega) = l[j + lowF l s]'(by omega) := by congr 1; omega
    first
      | exact blt_trans h3 h5
      | (rw [h6]; exact blt_trans h3 h5)
theorem sIns_ris {l : List By} {s : By} (h : Ris l) : Ris (sIns l s) := by
  unfold sIns
  by_cases hs : s ∈ l
  · rw [if_pos hs]; exact h
  · rw [if_neg hs]
    refine List.pairwise_append.2 ⟨List.Pairwise.sublist (List.take_sublist _ _) h, List.pairwise_cons.2 ⟨fun x hx => low_drop h hs hx, List.Pairwise.sublist (List.drop_sublist _ _) h⟩, fun a ha b hb => ?_⟩
    have h1 := low_take ha
    rcases List.mem_cons.1 hb with rfl | hb
    · exact h1
    · exact blt_trans h1 (low_drop h hs hb)
def sFoldO (l ss : List By) : List By := ss.foldl sIns l
theorem sFoldO_append (l a b : List By) : sFoldO l (a ++ b) = sFoldO (sFoldO l a) b := by unfold sFoldO; rw [List.foldl_append]
theorem mem_sFoldO {x : By} : ∀ {ss l : List By}, x ∈ sFoldO l ss ↔ x ∈ l ∨ x ∈ ss
  | [], l => by simp [sFoldO]
  | s :: ss, l => by
    have ih := mem_sFoldO (x := x) (ss := ss) (l := sIns l s)
    unfold sFoldO at ih ⊢
    rw [List.foldl_cons, ih, mem_sIns, List.mem_cons, or_assoc]
theorem sFoldO_ris : ∀ {ss l : List By}, Ris l → Ris (sFoldO l ss)
  | [], l, h => h
  | s :: ss, l, h => sFoldO_ris (ss := ss) (sIns_ris h)
theorem sIns_len (l : List By) (s : By) : (sIns l s).length ≤ l.length + 1 := by
  unfold sIns
  split
  · omega
  · rw [List.length_append, List.length_cons, List.length_take, List.length_drop]; omega
theorem sFoldO_len : ∀ (ss l : List By), (sFoldO l ss).length ≤ l.length + ss.length
  | [], l => by simp [sFoldO]
  | s :: ss, l => by
    have ih := sFoldO_len ss (sIns l s)
    have h1 := sIns_len l s
    unfold sFoldO at ih ⊢
    rw [List.foldl_cons, List.length_cons]
    omega
theorem ris_ext : ∀ {l m : List By}, Ris l → Ris m → (∀ x, x ∈ l ↔ x ∈ m) → l = m
  | [], [], _, _, _ => rfl
  | [], b :: m, _, _, h => absurd ((h b).2 (List.mem_cons_self ..)) (by simp)
  | a :: l, [], _, _, h => absurd ((h a).1 (List.mem_cons_self ..)) (by simp)
  | a :: l, b :: m, h1, h2, h => by
    obtain ⟨a1, a2⟩ := List.pairwise_cons.1 h1
    obtain ⟨b1, b2⟩ := List.pairwise_cons.1 h2
    have e : a = b := by
      rcases List.mem_cons.1 ((h a).1 (List.mem_cons_self ..)) with e | e
      · exact e
      · rcases List.mem_cons.1 ((h b).2 (List.mem_cons_self ..)) with e2 | e2
        · exact e2.symm
        · have h3 := blt_trans (a1 b e2) (b1 a e)
          rw [blt_irrefl] at h3; cases h3
    subst e
    rw [ris_ext a2 b2 (fun x => ?_)]
    have hx := h x
    rw [List.mem_cons, List.mem_cons] at hx
    constructor
    · intro hl
      rcases hx.1 (.inr hl) with e | e
      · have := a1 x hl
        rw [e, blt_irrefl] at this; cases this
      · exact e
    · intro hl
      rcases hx.2 (.inr hl) with e | e
      · have := b1 x hl
        rw [e, blt_irrefl] at this; cases this
      · exact e
theorem Ris.dif {l : List By} (h : Ris l) : Dif l := List.Pairwise.imp (fun {a b} hab e => by rw [e, blt_irrefl] at hab; cases hab) h
/-! ### rules -/
abbrev Rl := Tm × Tm
def decP (ops : List By) (r : Rl) : Bool := gt (ixF ops) r.1 r.2
/-- the first rule that does not decrease -/
def firstP (ops : List By) (l : List Rl) : Nat := l.findIdx fun r => !decP ops r
def allDec (ops : List By) (l : List Rl) : Bool := l.all (decP ops)
theorem firstP_all (ops : List By) (l : List Rl) : decide (firstP ops l < l.length) = !allDec ops l := by
  rw [Bool.eq_iff_iff, decide_eq_true_eq, Bool.not_eq_true', Bool.eq_false_iff, ne_eq]
  unfold firstP allDec
  rw [List.findIdx_lt_length, List.all_eq_true]
  constructor
  · rintro ⟨x, hx, h⟩ h2
    rw [h2 x hx] at h; cases h
  · intro h
    refine Classical.byContradiction fun h2 => h fun x hx => ?_
    cases h3 : decP ops x
    · exact absurd ⟨x, hx, by rw [h3]; rfl⟩ h2
    · rfl
/-- the first order of the rest of some names after a beginning -/
def searchP (l : List Rl) : Nat → List By → List By → Option (List By)
  | 0, b, _ => if allDec b l = true then some b else none
  | n + 1, b, rest => (List.range (n + 1)).findSome? fun i => searchP l n (b ++ [rest.getD i nul]) (rest.eraseIdx i)
theorem erase_perm {α : Type} : ∀ (l : List α) (i : Nat) (h : i < l.length), (([l[i]] ++ l.eraseIdx i)).Perm l
  | a :: l, 0, _ => List.Perm.refl _
  | a :: l, i + 1, h => by
    have ih := erase_perm l i (by simpa using h)
    simp only [List.getElem_cons_succ, List.eraseIdx_cons_succ, List.singleton_append] at ih ⊢
    exact (List.Perm.swap _ _ _).trans (ih.cons a)
theorem searchP_some {l : List Rl} : ∀ {n : Nat} {b rest out : List By}, rest.length = n → searchP l n b rest = some out → allDec out l = true ∧ out.Perm (b ++ rest)
  | 0, b, rest, out, hn, h => by
    unfold searchP at h
    have : rest = [] := List.eq_nil_of_length_eq_zero hn
    subst this
    split at h
    · rename_i h2
      injection h with h
      subst h
      exact ⟨h2, by rw [List.append_nil]⟩
    · cases h
  | n + 1, b, rest, out, hn, h => by
    unfold searchP at h
    obtain ⟨i, hi, h⟩ := List.exists_of_findSome?_eq_some h
    have hi := List.mem_range.1 hi
    have hir : i < rest.length := by omega
    obtain ⟨h1, h2⟩ := searchP_some (by rw [List.length_eraseIdx_of_lt hir, hn]; rfl) h
    refine ⟨h1, h2.trans ?_⟩
    rw [List.append_assoc]
    refine List.Perm.append_left b ?_
    have : rest.getD i nul = rest[i] := by rw [List.getD_eq_getElem?_getD, List.getElem?_eq_getElem hir]; rfl
    rw [this]
    exact erase_perm rest i hir
end Go.Hw

/- The order in memory: numbered nodes, and the maps of names, keys and answers. -/
namespace Go.Hw
open Go.RowKit Tm
set_option linter.unusedVariables false
set_option linter.unusedSimpArgs false
abbrev strV (s : By) : Value := .string s
abbrev keyN (x : Nt) : By := keyK x.1.name x.1.sort x.2
/-- the cells of nodes: the name, is it a variable, the numbers of the parts -/
def nCells : List Nt → List Value → List Value
  | [], _ => []
  | x :: N, us => .string x.1.name :: .bool (!decide (x.1.sort = nul)) :: us.headD nilS :: nCells N us.tail
theorem nCells_len : ∀ (N : List Nt) (us : List Value), (nCells N us).length = N.length * 3
  | [], _ => rfl
  | x :: N, us => by simp [nCells, nCells_len N us.tail]; omega
theorem nCells_at : ∀ (N : List Nt) (us : List Value) (i : Nat), i < N.length →
    (nCells N us)[i * 3]? = some (.string (ng N i).1.name) ∧ (nCells N us)[i * 3 + 1]? = some (.bool (!decide ((ng N i).1.sort = nul))) ∧ (nCells N us)[i * 3 + 2]? = some (ug us i)
  | x :: N, us, 0, _ => by
    refine ⟨rfl, rfl, ?_⟩
    cases us <;> rfl
  | x :: N, us, i + 1, h => by
    obtain ⟨h0, h1, h2⟩ := nCells_at N us.tail i (by simpa using h)
    have e : ∀ k, (nCells (x :: N) us)[(i + 1) * 3 + k]? = (nCells N us.tail)[i * 3 + k]? := fun k => by
      rw [show (i + 1) * 3 + k = i * 3 + k + 1 + 1 + 1 by omega]
      rfl
    refine ⟨by rw [← Nat.add_zero ((i + 1) * 3), e]; exact h0, by rw [e]; exact h1, ?_⟩
    rw [e, h2]
    cases us <;> rfl
theorem nCells_snoc : ∀ (N : List Nt) (us : List Value) (x : Nt) (u : Value), us.length = N.length → nCells (N ++ [x]) (us ++ [u]) = nCells N us ++ [.string x.1.name, .bool (!decide (x.1.sort = nul)), u]
  | [], [], x, u, _ => rfl
  | a :: N, b :: us, x, u, h => by
    have := nCells_snoc N us x u (by simpa using h)
    simp only [List.cons_append, nCells, List.headD_cons, List.tail_cons, this]
/-- the order: B the blocks that turn, R blocks of others; tn, to: the types of nodes and of the order -/
structure OrdX (tn to : TypeId) (ops : List By) (R B : Nat → Prop) (base : Nat) (w : World) (b : Nat) (N : List Nt) (nv : Value) (br bk bd : Nat) (us : List Value) (G : Nat → Prop) (rl kl : List (By × Value)) (dl : List ((Nat × Nat) × Value)) : Prop where
  box : w.heap[b]? = some (.cells #[.map (some br), nv, .map (some bk), .map (some bd)] to (0, 0))
  rank : MpR strV w br rl
  ranks : ∀ s ∈ ops, afind rl s = some (natV (ixF ops s))
  len : us.length = N.length
  own : w.ownsRow base tn 3 nv N.length (nCells N us)
  kid : ∀ i, i < N.length → SlR G w 1 (ug us i) (ng N i).2.length ((ng N i).2.map natV)
  gs : ∀ k, G k → base ≤ k ∧ k < w.heap.size ∧ ¬ B k ∧ ¬ R k
  known : MpR strV w bk kl
  key : ∀ k v, afind kl k = some v ↔ ∃ i, i < N.length ∧ k = keyN (ng N i) ∧ v = natV i
  done : MpR pairV w bd dl
  ans : ∀ p v, afind dl p = some v → p.1 < N.length ∧ p.2 < N.length ∧ v = .bool (gt (ixF ops) (ng N p.1).1 (ng N p.2).1)
  num : Num N
  uniq : Uniq N
  ncs : ∀ i, i < N.length → NoCS (ng N i).1.name ∧ NoCS (ng N i).1.sort
  nin : ∀ i, i < N.length → (ng N i).1.sort = nul → (ng N i).1.name ∈ ops
  kb : ∀ i, i < N.length → (ng N i).2.length ≤ 1000000
  bb : B b ∧ B br ∧ B bk ∧ B bd
  bn : ∀ k, nv.ownBlock = some k → B k
  dis : b ≠ br ∧ b ≠ bk ∧ b ≠ bd ∧ br ≠ bk ∧ br ≠ bd ∧ bk ≠ bd
  dn : nv.ownBlock ≠ some b ∧ nv.ownBlock ≠ some br ∧ nv.ownBlock ≠ some bk ∧ nv.ownBlock ≠ some bd
  lt : ∀ k, B k → base ≤ k ∧ k < w.heap.size ∧ ¬ R k
def OrdR (tn to : TypeId) (ops : List By) (R B : Nat → Prop) (base : Nat) (w : World) (b : Nat) (N : List Nt) : Prop := ∃ nv br bk bd us G rl kl dl, OrdX tn to ops R B base w b N nv br bk bd us G rl kl dl
section
variable {tn to : TypeId} {ops : List By} {R R' B F : Nat → Prop} {base b : Nat} {w w' : World} {N : List Nt} {nv nv' : Value} {br bk bd : Nat} {us : List Value} {G : Nat → Prop} {rl kl : List (By × Value)} {dl : List ((Nat × Nat) × Value)}
theorem OrdX.upd (h : OrdX tn to ops R B base w b N nv br bk bd us G rl kl dl) (hu : Upd F w w') (hF : ∀ k, F k → R k) : OrdX tn to ops R B base w' b N nv br bk bd us G rl kl dl := by
  have hB : ∀ k, B k → ¬ F k := fun k hk hf => (h.lt k hk).2.2 (hF k hf)
  exact ⟨hu.heap h.box (hB _ h.bb.1), h.rank.kept hu (hB _ h.bb.2.1), h.ranks, h.len, own_kept h.own hu (fun k hk => hB _ (h.bn k hk)), fun i hi => (h.kid i hi).kept hu (fun k hk hf => (h.gs k hk).2.2.2 (hF k hf)),
    fun k hk => ⟨(h.gs k hk).1, Nat.lt_of_lt_of_le (h.gs k hk).2.1 hu.size, (h.gs k hk).2.2⟩, h.known.kept hu (hB _ h.bb.2.2.1), h.key, h.done.kept hu (hB _ h.bb.2.2.2), h.ans, h.num, h.uniq, h.ncs, h.nin, h.kb, h.bb, h.bn, h.dis, h.dn,
    fun k hk => ⟨(h.lt k hk).1, Nat.lt_of_lt_of_le (h.lt k hk).2.1 hu.size, (h.lt k hk).2.2⟩⟩
theorem OrdR.upd (h : OrdR tn to ops R B base w b N) (hu : Upd F w w') (hF : ∀ k, F k → R k) : OrdR tn to ops R B base w' b N := by
  obtain ⟨nv, br, bk, bd, us, G, rl, kl, dl, h⟩ := h
  exact ⟨nv, br, bk, bd, us, G, rl, kl, dl, h.upd hu hF⟩
theorem OrdX.ext (h : OrdX tn to ops R B base w b N nv br bk bd us G rl kl dl) (hu : Ext w w') : OrdX tn to ops R B base w' b N nv br bk bd us G rl kl dl := h.upd hu (fun _ hf => hf.elim)
theorem OrdR.ext (h : OrdR tn to ops R B base w b N) (hu : Ext w w') : OrdR tn to ops R B base w' b N := h.upd hu (fun _ hf => hf.elim)
/-- what is new is of others -/
theorem OrdX.reserve (h : OrdX tn to ops R B base w b N nv br bk bd us G rl kl dl) : OrdX tn to ops (fun k => R k ∨ w.heap.size ≤ k) B base w b N nv br bk bd us G rl kl dl :=
  ⟨h.box, h.rank, h.ranks, h.len, h.own, h.kid, fun k hk => ⟨(h.gs k hk).1, (h.gs k hk).2.1, (h.gs k hk).2.2.1, fun hr => hr.elim (h.gs k hk).2.2.2 (fun hr => by have := (h.gs k hk).2.1; omega)⟩, h.known, h.key, h.done, h.ans, h.num, h.uniq, h.ncs, h.nin, h.kb, h.bb, h.bn, h.dis, h.dn,
    fun k hk => ⟨(h.lt k hk).1, (h.lt k hk).2.1, fun hr => hr.elim (h.lt k hk).2.2 (fun hr => by have := (h.lt k hk).2.1; omega)⟩⟩
theorem OrdX.weaken (h : OrdX tn to ops R B base w b N nv br bk bd us G rl kl dl) (hr : ∀ k, R' k → R k) : OrdX tn to ops R' B base w b N nv br bk bd us G rl kl dl :=
  ⟨h.box, h.rank, h.ranks, h.len, h.own, h.kid, fun k hk => ⟨(h.gs k hk).1, (h.gs k hk).2.1, (h.gs k hk).2.2.1, fun hx => (h.gs k hk).2.2.2 (hr k hx)⟩, h.known, h.key, h.done, h.ans, h.num, h.uniq, h.ncs, h.nin, h.kb, h.bb, h.bn, h.dis, h.dn,
    fun k hk => ⟨(h.lt k hk).1, (h.lt k hk).2.1, fun hx => (h.lt k hk).2.2 (hr k hx)⟩⟩
theorem OrdR.reserve (h : OrdR tn to ops R B base w b N) : OrdR tn to ops (fun k => R k ∨ w.heap.size ≤ k) B base w b N := by
  obtain ⟨nv, br, bk, bd, us, G, rl, kl, dl, h⟩ := h
  exact ⟨nv, br, bk, bd, us, G, rl, kl, dl, h.reserve⟩
theorem OrdR.weaken (h : OrdR tn to ops R B base w b N) (hr : ∀ k, R' k → R k) : OrdR tn to ops R' B base w b N := by
  obtain ⟨nv, br, bk, bd, us, G, rl, kl, dl, h⟩ := h
  exact ⟨nv, br, bk, bd, us, G, rl, kl, dl, h.weaken hr⟩
/-- an answer is kept -/
theorem OrdX.put (h : OrdX tn to ops R B base w b N nv br bk bd us G rl kl dl) {i j : Nat} (hi : i < N.length) (hj : j < N.length) {v : Value} (hv : v = .bool (gt (ixF ops) (ng N i).1 (ng N j).1)) (hu : Upd (fun k => k = bd) w w') (hm : MpR pairV w' bd (aput dl (i, j) v)) :
    OrdX tn to ops R B base w' b N nv br bk bd us G rl kl (aput dl (i, j) v) := by
  refine ⟨hu.heap h.box h.dis.2.2.1, h.rank.kept hu h.dis.2.2.2.2.1, h.ranks, h.len, own_kept h.own hu (fun k hk e => h.dn.2.2.2 (by rw [hk, e])), fun i hi => (h.kid i hi).kept hu (fun k hk e => (h.gs k hk).2.2.1 (by rw [e]; exact h.bb.2.2.2)),
    fun k hk => ⟨(h.gs k hk).1, Nat.lt_of_lt_of_le (h.gs k hk).2.1 hu.size, (h.gs k hk).2.2⟩, h.known.kept hu h.dis.2.2.2.2.2, h.key, hm, fun p u hp => ?_, h.num, h.uniq, h.ncs, h.nin, h.kb, h.bb, h.bn, h.dis, h.dn,
    fun k hk => ⟨(h.lt k hk).1, Nat.lt_of_lt_of_le (h.lt k hk).2.1 hu.size, (h.lt k hk).2.2⟩⟩
  rw [afind_put] at hp
  split at hp
  · rename_i e
    injection hp with hp
    subst e
    exact ⟨hi, hj, by rw [← hp, hv]⟩
  · exact h.ans p u hp
/-- no term with this key is numbered -/
theorem OrdX.fresh (h : OrdX tn to ops R B base w b N nv br bk bd us G rl kl dl) {t : Tm} {ks : List Nat} (hl : ∀ k ∈ ks, k < N.length) (hm : ks.map (fun k => (ng N k).1) = t.kids) (hf : afind kl (keyN (t, ks)) = none) : ∀ i, i < N.length → (ng N i).1 ≠ t := by
  intro i hi e
  have h1 : (ng N i).2 = ks := by
    have h2 : (ng N i).2.map (fun k => (ng N k).1) = ks.map (fun k => (ng N k).1) := by rw [h.num.map i hi, e, hm]
    have hkl := h.num.kid i hi
    generalize (ng N i).2 = js at *
    refine List.ext_getElem (by have := congrArg List.length h2; simpa using this) (fun j h3 h4 => ?_)
    have h5 : (js.map (fun k => (ng N k).1))[j]'(by simpa using h3) = (ks.map (fun k => (ng N k).1))[j]'(by simpa using h4) := by simp only [h2]
    rw [List.getElem_map, List.getElem_map] at h5
    exact h.uniq _ _ (by have := hkl _ (List.getElem_mem h3); omega) (hl _ (List.getElem_mem h4)) h5
  have h2 := (h.key (keyN (t, ks)) (natV i)).2 ⟨i, hi, by unfold keyN; rw [e, h1], rfl⟩
  rw [hf] at h2
  cases h2
theorem OrdX.found (h : OrdX tn to ops R B base w b N nv br bk bd us G rl kl dl) {t : Tm} {ks : List Nat} (hm : ks.map (fun k => (ng N k).1) = t.kids) (hn : NoCS t.name ∧ NoCS t.sort) {v : Value} (hf : afind kl (keyN (t, ks)) = some v) : ∃ i, i < N.length ∧ v = natV i ∧ (ng N i).1 = t := by
  obtain ⟨i, hi, h1, h2⟩ := (h.key _ _).1 hf
  refine ⟨i, hi, h2, ?_⟩
  obtain ⟨e1, e2, e3⟩ := keyK_inj hn.1 hn.2 (h.ncs i hi).1 (h.ncs i hi).2 h1
  have h3 := h.num.map i hi
  simp only at e1 e2 e3
  rw [← e3, hm] at h3
  rw [← eta (ng N i).1, ← e1, ← e2, ← h3, eta]
/-- a new node -/
theorem OrdX.push (h : OrdX tn to ops R B base w b N nv br bk bd us G rl kl dl) {t : Tm} {ks : List Nat} {u : Value} {V R0 : Nat → Prop} (hl : ∀ k ∈ ks, k < N.length) (hm : ks.map (fun k => (ng N k).1) = t.kids) (hf : afind kl (keyN (t, ks)) = none)
    (hn : NoCS t.name ∧ NoCS t.sort) (hin : t.sort = nul → t.name ∈ ops) (hkb : ks.length ≤ 1000000)
    (hw : Upd (fun k => B k ∨ R k ∧ base ≤ k ∧ ¬ V k) w w') (hbox : w'.heap[b]? = some (.cells #[.map (some br), nv', .map (some bk), .map (some bd)] to (0, 0)))
    (hrank : MpR strV w' br rl) (hdone : MpR pairV w' bd dl) (hknown : MpR strV w' bk (aput kl (keyN (t, ks)) (natV N.length)))
    (hown : w'.ownsRow base tn 3 nv' (N.length + 1) (nCells N us ++ [.string t.name, .bool (!decide (t.sort = nul)), u])) (hbn : ∀ k, nv'.ownBlock = some k → nv.ownBlock = some k ∨ w.heap.size ≤ k ∧ k < w'.heap.size)
    (hb : base ≤ w.heap.size) (hv : SlR V w 1 u ks.length (ks.map natV)) (hV : ∀ k, V k → R k ∧ base ≤ k ∧ k < w.heap.size) (hR0 : ∀ k, R0 k → R k ∧ k < w.heap.size ∧ ¬ V k) :
    OrdX tn to ops R0 (fun k => B k ∨ w.heap.size ≤ k ∧ nv'.ownBlock = some k) base w' b (N ++ [(t, ks)]) nv' br bk bd (us ++ [u]) (fun k => G k ∨ V k) rl (aput kl (keyN (t, ks)) (natV N.length)) dl := by
  have hlen : (N ++ [(t, ks)]).length = N.length + 1 := by simp
  have hne : ∀ i, i < (N ++ [(t, ks)]).length → i < N.length ∨ i = N.length := fun i hi => by rw [hlen] at hi; omega
  have hul : ∀ {i : Nat}, i < us.length → ug (us ++ [u]) i = ug us i := fun {i} hi => by
    unfold ug
    rw [List.getD_eq_getElem?_getD, List.getD_eq_getElem?_getD, List.getElem?_append_left hi]
  have hue : ug (us ++ [u]) us.length = u := by
    unfold ug
    rw [List.getD_eq_getElem?_getD, List.getElem?_concat_length]
    rfl
  have hlt : ∀ k, B k → k < w.heap.size := fun k hk => (h.lt k hk).2.1
  have hbl := h.bb
  refine ⟨hbox, hrank, h.ranks, by simp [h.len], ?_, fun i hi => ?_, fun k hk => ?_, hknown, fun k v => ?_, hdone, fun p v hp => ?_, h.num.snoc t ks hl hm, h.uniq.snoc t ks (h.fresh hl hm hf), fun i hi => ?_, fun i hi hs => ?_, fun i hi => ?_, ⟨.inl hbl.1, .inl hbl.2.1, .inl hbl.2.2.1, .inl hbl.2.2.2⟩, fun k hk => ?_, h.dis, ?_, fun k hk => ?_⟩
  · rw [hlen, nCells_snoc N us (t, ks) u h.len]
    exact hown
  · rcases hne i hi with hi | rfl
    · rw [ng_left _ hi, hul (by rw [h.len]; exact hi)]
      exact ((h.kid i hi).kept hw (fun k hk hx => by
        rcases hx with hx | hx
        · exact (h.gs k hk).2.2.1 hx
        · exact (h.gs k hk).2.2.2 hx.1)).weaken (fun k hk => .inl hk)
    · rw [ng_last, ← h.len, hue]
      exact (hv.kept hw (fun k hk hx => by
        rcases hx with hx | hx
        · exact (h.lt k hx).2.2 (hV k hk).1
        · exact hx.2.2 hk)).weaken (fun k hk => .inr hk)
  · have hlt2 : base ≤ k ∧ k < w.heap.size ∧ ¬ B k ∧ (R k → V k) := by
      rcases hk with hk | hk
      · exact ⟨(h.gs k hk).1, (h.gs k hk).2.1, (h.gs k hk).2.2.1, fun hr => absurd hr (h.gs k hk).2.2.2⟩
      · exact ⟨(hV k hk).2.1, (hV k hk).2.2, fun hx => (h.lt k hx).2.2 (hV k hk).1, fun _ => hk⟩
    refine ⟨hlt2.1, Nat.lt_of_lt_of_le hlt2.2.1 hw.size, fun hx => ?_, fun hx => (hR0 k hx).2.2 (hlt2.2.2.2 (hR0 k hx).1)⟩
    rcases hx with hx | hx
    · exact hlt2.2.2.1 hx
    · omega
  · rw [afind_put]
    split
    · rename_i e
      subst e
      constructor
      · intro e
        injection e with e
        exact ⟨N.length, by rw [hlen]; omega, by rw [ng_last], e.symm⟩
      · rintro ⟨i, hi, e1, e2⟩
        rcases hne i hi with hi | rfl
        · rw [ng_left _ hi] at e1
          have h9 := (h.key _ (natV i)).2 ⟨i, hi, e1, rfl⟩
          rw [hf] at h9
          cases h9
        · rw [e2]
    · rename_i e
      rw [h.key]
      constructor
      · rintro ⟨i, hi, e1, e2⟩
        exact ⟨i, by rw [hlen]; omega, by rw [ng_left _ hi]; exact e1, e2⟩
      · rintro ⟨i, hi, e1, e2⟩
        rcases hne i hi with hi | rfl
        · exact ⟨i, hi, by rw [ng_left _ hi] at e1; exact e1, e2⟩
        · rw [ng_last] at e1
          exact absurd e1 e
  · obtain ⟨h1, h2, h3⟩ := h.ans p v hp
    exact ⟨by rw [hlen]; omega, by rw [hlen]; omega, by rw [ng_left _ h1, ng_left _ h2]; exact h3⟩
  · rcases hne i hi with hi | rfl
    · rw [ng_left _ hi]; exact h.ncs i hi
    · rw [ng_last]; exact hn
  · rcases hne i hi with hi | rfl
    · rw [ng_left _ hi] at hs ⊢; exact h.nin i hi hs
    · rw [ng_last] at hs ⊢; exact hin hs
  · rcases hne i hi with hi | rfl
    · rw [ng_left _ hi]; exact h.kb i hi
    · rw [ng_last]; exact hkb
  · rcases hbn k hk with h8 | h8
    · exact .inl (h.bn k h8)
    · exact .inr ⟨h8.1, hk⟩
  · have hx : ∀ c, B c → nv.ownBlock ≠ some c → nv'.ownBlock ≠ some c := fun c hc h1 e => by
      rcases hbn c e with h8 | h8
      · exact h1 h8
      · have := hlt c hc; omega
    exact ⟨hx _ hbl.1 h.dn.1, hx _ hbl.2.1 h.dn.2.1, hx _ hbl.2.2.1 h.dn.2.2.1, hx _ hbl.2.2.2 h.dn.2.2.2⟩
  · rcases hk with hk | ⟨hk, hk2⟩
    · exact ⟨(h.lt k hk).1, Nat.lt_of_lt_of_le (h.lt k hk).2.1 hw.size, fun hx => (h.lt k hk).2.2 (hR0 k hx).1⟩
    · refine ⟨by omega, ?_, fun hx => by have := (hR0 k hx).2.1; omega⟩
      rcases hbn k hk2 with h8 | h8
      · have := hlt k (h.bn k h8); omega
      · exact h8.2
/-- the node i, in its cells -/
theorem OrdX.at_ (h : OrdX tn to ops R B base w b N nv br bk bd us G rl kl dl) (hN : 0 < N.length) : ∃ g cap, nv = .slice (some ⟨g, 0, none⟩) N.length cap ∧ g ≠ bd ∧ B g ∧ ∀ i, i < N.length → ∃ a c,
    w.cell? ⟨g, 0 + i * 3, none⟩ = some (.string (ng N i).1.name) ∧ w.cell? ⟨g, 0 + (i * 3 + 1), none⟩ = some (.bool (!decide ((ng N i).1.sort = nul))) ∧ w.cell? ⟨g, 0 + (i * 3 + 2), none⟩ = some (.slice a (ng N i).2.length c) ∧ SlR G w 1 (.slice a (ng N i).2.length c) (ng N i).2.length ((ng N i).2.map natV) := by
  obtain ⟨g, cap, rfl⟩ := own_some h.own hN
  have hs := SlR.of_own h.own
  obtain ⟨g', off, c, e, _, hS, hj⟩ := hs.pos hN
  injection e with e1 e2 e3
  injection e1 with e1
  injection e1 with e1 e4
  subst e1; subst e4
  refine ⟨g, cap, rfl, fun e => h.dn.2.2.2 (by rw [← e]; rfl), h.bn g rfl, fun i hi => ?_⟩
  obtain ⟨h0, h1, h2⟩ := nCells_at N us i hi
  have hk := h.kid i hi
  obtain ⟨a, c', e'⟩ := hk.shape
  rw [e'] at hk h2
  exact ⟨a, c', by rw [hj _ (by omega), h0], by rw [hj _ (by omega), h1], by rw [hj _ (by omega), h2], hk⟩
end
end Go.Hw

/- The order by numbers: what its parts ask. -/
namespace Go.Hw
open Go.RowKit Tm
set_option linter.unusedVariables false
set_option linter.unusedSimpArgs false
theorem cov_any {r : By → Nat} {N : List Nt} (hN : Num N) (hU : Uniq N) {i j : Nat} (hi : i < N.length) (hj : j < N.length) : ((ng N i).2.any fun k => decide (k = j) || gt r (ng N k).1 (ng N j).1) = true ↔ Cov r (ng N i).1 (ng N j).1 := by
  rw [List.any_eq_true]
  unfold Cov
  rw [← hN.map i hi]
  constructor
  · rintro ⟨k, hk, h⟩
    refine ⟨(ng N k).1, List.mem_map.2 ⟨k, hk, rfl⟩, ?_⟩
    rw [Bool.or_eq_true, decide_eq_true_eq] at h
    rcases h with rfl | h
    · exact .inl rfl
    · exact .inr h
  · rintro ⟨t, ht, h⟩
    obtain ⟨k, hk, rfl⟩ := List.mem_map.1 ht
    refine ⟨k, hk, ?_⟩
    rw [Bool.or_eq_true, decide_eq_true_eq]
    rcases h with h | h
    · exact .inl (hU k j (by have := hN.kid i hi k hk; omega) hj h)
    · exact .inr h
theorem par_any {r : By → Nat} {N : List Nt} (hN : Num N) {s : Tm} {j : Nat} (hj : j < N.length) : ((ng N j).2.any fun k => !gt r s (ng N k).1) = true ↔ ∃ k ∈ (ng N j).1.kids, gt r s k = false := by
  rw [List.any_eq_true, ← hN.map j hj]
  constructor
  · rintro ⟨k, hk, h⟩
    exact ⟨(ng N k).1, List.mem_map.2 ⟨k, hk, rfl⟩, by simpa using h⟩
  · rintro ⟨t, ht, h⟩
    obtain ⟨k, hk, rfl⟩ := List.mem_map.1 ht
    exact ⟨k, hk, by rw [h]; rfl⟩
/-- names by their places -/
theorem rank_step {ops : List By} {rl : List (By × Value)} {k : Nat} (hd : Dif ops) (hk : k < ops.length) (h : ∀ s ∈ ops.take k, afind rl s = some (natV (ixF ops s))) : ∀ s ∈ ops.take (k + 1), afind (aput rl (ops.getD k nul) (natV k)) s = some (natV (ixF ops s)) := by
  intro s hs
  rw [afind_put]
  split
  · rename_i e
    rw [e, hd.ix hk]
  · rename_i e
    refine h s ?_
    rw [List.take_add_one, List.mem_append] at hs
    rcases hs with hs | hs
    · exact hs
    · rw [List.getElem?_eq_getElem hk] at hs
      simp only [Option.toList_some, List.mem_singleton] at hs
      exact absurd (by rw [hs, List.getD_eq_getElem?_getD, List.getElem?_eq_getElem hk]; rfl) e
/-- an order without nodes -/
theorem OrdX.new {tn to : TypeId} {ops : List By} {base b br bk bd : Nat} {w : World} {rl : List (By × Value)} (R : Nat → Prop) (hb : w.heap[b]? = some (.cells #[.map (some br), nilS, .map (some bk), .map (some bd)] to (0, 0))) (hr : MpR strV w br rl) (hrs : ∀ s ∈ ops, afind rl s = some (natV (ixF ops s)))
    (hk : MpR strV w bk []) (hd : MpR pairV w bd []) (h1 : base ≤ b ∧ base ≤ br ∧ base ≤ bk ∧ base ≤ bd) (h2 : b ≠ br ∧ b ≠ bk ∧ b ≠ bd ∧ br ≠ bk ∧ br ≠ bd ∧ bk ≠ bd) (h3 : ¬ R b ∧ ¬ R br ∧ ¬ R bk ∧ ¬ R bd) :
    OrdX tn to ops R (fun k => k = b ∨ k = br ∨ k = bk ∨ k = bd) base w b [] nilS br bk bd [] (fun _ => False) rl [] [] := by
  refine ⟨hb, hr, hrs, rfl, ⟨rfl, .inl ⟨rfl, rfl⟩⟩, fun i hi => absurd hi (Nat.not_lt_zero _), fun k hk => hk.elim, hk, fun k v => ⟨fun h => by simp [afind] at h, fun ⟨i, hi, _⟩ => absurd hi (Nat.not_lt_zero _)⟩, hd, fun p v h => by simp [afind] at h, Num.nil, Uniq.nil, fun i hi => absurd hi (Nat.not_lt_zero _), fun i hi => absurd hi (Nat.not_lt_zero _), fun i hi => absurd hi (Nat.not_lt_zero _),
    ⟨.inl rfl, .inr (.inl rfl), .inr (.inr (.inl rfl)), .inr (.inr (.inr rfl))⟩, fun k hk => by simp [Value.ownBlock] at hk, h2, ⟨by simp [Value.ownBlock], by simp [Value.ownBlock], by simp [Value.ownBlock], by simp [Value.ownBlock]⟩, fun k hx => ?_⟩
  have hb' := (Array.getElem?_eq_some_iff.1 hb).1
  have hr' := hr.lt
  have hk' := hk.lt
  have hd' := hd.lt
  rcases hx with rfl | rfl | rfl | rfl
  · exact ⟨h1.1, hb', h3.1⟩
  · exact ⟨h1.2.1, hr', h3.2.1⟩
  · exact ⟨h1.2.2.1, hk', h3.2.2.1⟩
  · exact ⟨h1.2.2.2, hd', h3.2.2.2⟩
end Go.Hw

/- Small laws of the prover's own, over any program, the second part: what is made, what is stored. -/
namespace Go.Hw
open Go.RowKit
set_option linter.unusedVariables false
set_option linter.unusedSimpArgs false

/-- the cells of a row that is made of one-cell elements -/
theorem made_get (z : Value) (n j : Nat) (h : j < n) : (madeCells #[z] n)[j]? = some z := by
  unfold madeCells
  simp [h, Nat.mod_one]
theorem made_one (P : Program) (t e : TypeId) (i : TypeInfo) (z : Value) (ht : P.underlying t = some (.slice e)) (hi : P.info? e = some i) (hz : i.zero = some z) (hs : i.size = 1) (hc : z.cells = #[z])
    (hb : i.bytes ≤ 1000) (n : Nat) (hn : n ≤ 100000000) (w : World) :
    (Instr.makeSlice t (.int .i64 (n : Int)) (.int .i64 (n : Int))).run P w = .ok (.slice (some ⟨w.heap.size, 0, none⟩) n n) (w.alloc (.cells (madeCells #[z] n) e)) := by
  have h0 : i.bytes * n ≤ 1000 * 100000000 := Nat.mul_le_mul hb hn
  have hb2 : (i.bytes : Int) * (n : Int) ≤ 281474976710656 := by
    have h : ((i.bytes * n : Nat) : Int) ≤ 281474976710656 := by omega
    rwa [Int.natCast_mul] at h
  have hr := run_make (P := P) w t e i z ht hi hz .i64 .i64 n n (by omega) (by omega) hb2 (by omega)
  simp only [Int.toNat_natCast, hs, hc, Nat.mul_one] at hr
  exact hr

theorem upd_grown_new {w wr w' : World} {row : Option Nat} (h : Upd (fun _ => False) w wr) (hg : wr.grownBy w' row) (hr : ∀ k, row = some k → w.heap.size ≤ k) : Upd (fun _ => False) w w' :=
  ⟨hg.os.trans h.os, hg.tape.trans h.tape, hg.output.trans h.output, Nat.le_trans h.size hg.size,
   fun i hi _ => (hg.block i (Nat.lt_of_lt_of_le hi h.size) (fun e => by have := hr i e.symm; omega)).trans (h.block i hi (fun x => x))⟩
/-- where an own row lies, and its cells -/
theorem ownAt {w : World} {base : Nat} {e : TypeId} {size : Nat} {v : Value} {n : Nat} {xs : List Value} (h : w.ownsRow base e size v n xs) (hn : 0 < n) :
    ∃ g cap, v = .slice (some ⟨g, 0, none⟩) n cap ∧ base ≤ g ∧ g < w.heap.size ∧ n ≤ cap ∧ (∀ j, j < n * size → w.cell? ⟨g, j, none⟩ = xs[j]?) ∧ ∀ j, w.frozen? ⟨g, j, none⟩ = false := by
  rcases h.2 with ⟨_, h2⟩ | ⟨g, cap, cur, rfl, hb, hg, hc, hm, hs, ht⟩
  · omega
  · refine ⟨g, cap, rfl, hb, (Array.getElem?_eq_some_iff.1 hg).1, hc, fun j hj => ?_, fun j => frozen_of_row w g j cur e hg⟩
    rw [cell_of_row w g j cur e _ hg, ← ht, List.getElem?_take_of_lt hj]
    simp
/-- a store into a block that is known whole -/
theorem setBlock {w : World} {g : Nat} {cs : Array Value} {t : TypeId} (h : w.heap[g]? = some (.cells cs t (0, 0))) (j : Nat) (u : Value) :
    (w.setCell ⟨g, j, none⟩ u).heap[g]? = some (.cells (cs.setIfInBounds j u) t (0, 0)) := by
  simp [World.setCell, Array.getElem?_modify, h]
/-- what is still known of a world: Ext behind a store into a new block -/
theorem Upd.setNew {a w : World} (h : Upd (fun _ => False) a w) {g j : Nat} (hg : a.heap.size ≤ g) (u : Value) : Upd (fun _ => False) a (w.setCell ⟨g, j, none⟩ u) := h.setCell (.inr hg) u

/-- a later world: what was there is as it was -/
structure XW (w : World) where
  val : World
  ext : Upd (fun _ => False) w val
instance (w : World) : Nonempty (XW w) := ⟨⟨w, Upd.refl _ w⟩⟩
/-- A drawn region whose operations only read, and whose calls leave what was there and hand back one value, whatever was made before: one walk. -/
theorem wp_region_ext {P : Program} {id : Nat} {Q : Exit → Act → World → Prop} {a : Act} {w : World} {l : List Oper} (w0 : World) (h0 : Upd (fun _ => False) w0 w)
    (hm : P.follows .mixedOrders = true) (hB : Region.lexB .any l.toArray = true)
    (h : wpQuiet P l.toArray (fun w' => ∃ x : XW w0, w' = x.val) (fun a' => ∀ w', (∃ x : XW w0, w' = x.val) → Q .normal a' w') l a) : (Code.region id l.toArray true).wp P Q a w :=
  wp_region_quiet (C := fun w' => ∃ x : XW w0, w' = x.val) hm hB ⟨⟨{ w with drawn := w.drawn + 1 }, ⟨h0.os, h0.tape, h0.output, h0.size, h0.block⟩⟩, rfl⟩ (by simpa using h)
theorem XW.call {P : Program} {f : FuncId} {args : Array Value} {w0 : World} {x : XW w0} {v : Value} (h : Calls P f args x.val fun e w' => e = .returned v ∧ Upd (fun _ => False) x.val w') :
    Calls P f args x.val fun e w'' => e = .returned v ∧ ∃ y : XW w0, w'' = y.val :=
  h.mono fun _ _ ⟨he, hx⟩ => ⟨he, ⟨_, x.ext.trans hx⟩, rfl⟩
end Go.Hw

/- Functions asked of a list of numbers. -/
namespace Go.Proofs.YtiimccogojkldaaGreatDoor
open Go.RowKit Go.Hw Go
set_option linter.unusedVariables false
set_option linter.unusedSimpArgs false

open Tm
set_option maxRecDepth 100000 in
set_option maxHeartbeats 2000000 in
theorem idx124_x (c1 c2 : Value) (p : Nat → Bool) (J : World → Prop) (hJ : ∀ W W', J W → Ext W W' → J W') (S : Nat → Prop) (v : Value) (ks : List Nat) (w : World) (hw : J w) (hl : ks.length ≤ 1000000)
    (hR : ∀ W, J W → SlR S W 1 v ks.length (ks.map natV)) (hf : ∀ k ∈ ks, ∀ W, J W → Calls Tryz.prog 124 #[natV k, c1, c2] W fun e W' => e = .returned (.bool (p k)) ∧ J W') :
    Calls Tryz.prog 137 #[v, .func (.func 124) #[] #[c1, c2]] w fun e w' => ∃ r : Int, e = .returned (.int .i64 r) ∧ decide (0 ≤ r) = ks.any p ∧ J w' := by
  obtain ⟨a, cap, rfl⟩ := (hR w hw).shape
  have HW := Lib.hid hw
  have HR := Lib.hid hR
  have HJ := Lib.hid hJ
  have HF := Lib.hid hf
  clear hw hR hf hJ
  go_enter Tryz.func137, Tryz.ntmps137
  go_wp2_with fail
  go_loopg [8] ks.length (fun gk iv wr => ∃ k : Nat, iv = .int .i64 (k : Int) ∧ gk = ks.length - k ∧ k ≤ ks.length ∧ Hid (J wr) ∧ Hid ((ks.take k).any p = false))
  case atStart => exact ⟨0, rfl, rfl, Nat.zero_le _, HW, Lib.hid rfl⟩
  case round =>
    obtain ⟨k, rfl, rfl, hk, HK, HM⟩ := hrel
    by_cases hlt : k < ks.length
    · obtain ⟨g, off, hga, _, hat⟩ := SlR.one_at (d := 0) (HR.out wr HK.out) (by omega)
      subst hga
      have q0 := hat k hlt
      have z0 : (0 : Int) ≤ (k : Int) := by omega
      have z1 : (k : Int) < (ks.length : Int) := by omega
      have z2 : decide ((k : Int) < (ks.length : Int)) = true := decide_eq_true z1
      have hmem : ks.getD k 0 ∈ ks := by rw [List.getD_eq_getElem?_getD, List.getElem?_eq_getElem hlt]; exact List.getElem_mem hlt
      have HFX := Lib.hid (HF.out _ hmem wr HK.out)
      have HN : Hid (p (ks.getD k 0) = false → (ks.take (k + 1)).any p = false) := Lib.hid (fun h => by
        rw [List.take_add_one, List.any_append, HM.out, List.getElem?_eq_getElem hlt]
        rw [List.getD_eq_getElem?_getD, List.getElem?_eq_getElem hlt] at h
        simpa using h)
      have HY : Hid (p (ks.getD k 0) = true → ks.any p = true) := Lib.hid (fun h => List.any_eq_true.2 ⟨_, hmem, h⟩)
      obtain ⟨x, hx⟩ : ∃ x, ks.getD k 0 = x := ⟨_, rfl⟩
      rw [hx] at q0 HFX HN HY
      obtain ⟨b, hb⟩ : ∃ b, p x = b := ⟨_, rfl⟩
      rw [hb] at HFX HN HY
      clear hat hmem hx hb HM
      go_wp2_with fail
      refine HFX.out.mono ?_
      rintro e w4 ⟨rfl, hw4⟩
      have H4 := Lib.hid hw4
      clear hw4 q0 HFX HK
      cases b
      · have HN2 := Lib.hid (HN.out rfl)
        clear HN HY
        go_wp2_with fail
        go_roundg (ks.length - (k + 1))
        case measure => omega
        case rel => exact ⟨k + 1, by go_num, rfl, by omega, H4, HN2⟩
      · have HY2 := Lib.hid (HY.out rfl)
        clear HN HY
        go_wp2_with fail
        go_ret
        exact ⟨_, rfl, by rw [HY2.out]; exact decide_eq_true z0, H4.out⟩
    · obtain rfl : k = ks.length := by omega
      have z2 : decide ((ks.length : Int) < (ks.length : Int)) = false := decide_eq_false (by omega)
      have HM2 := HM.out
      rw [List.take_length] at HM2
      have HM3 := Lib.hid HM2
      clear HM2
      go_wp2_with fail
      go_ret
      exact ⟨_, rfl, by rw [HM3.out]; rfl, HK.out⟩
set_option maxRecDepth 100000 in
set_option maxHeartbeats 2000000 in
theorem con124_x (c1 c2 : Value) (p : Nat → Bool) (J : World → Prop) (hJ : ∀ W W', J W → Ext W W' → J W') (S : Nat → Prop) (v : Value) (ks : List Nat) (w : World) (hw : J w) (hl : ks.length ≤ 1000000)
    (hR : ∀ W, J W → SlR S W 1 v ks.length (ks.map natV)) (hf : ∀ k ∈ ks, ∀ W, J W → Calls Tryz.prog 124 #[natV k, c1, c2] W fun e W' => e = .returned (.bool (p k)) ∧ J W') :
    Calls Tryz.prog 123 #[v, .func (.func 124) #[] #[c1, c2]] w fun e w' => e = .returned (.bool (ks.any p)) ∧ J w' := by
  have HI := Lib.hid (idx124_x c1 c2 p J hJ S v ks w hw hl hR hf)
  clear hw hR hf hJ
  go_enter Tryz.func123, Tryz.ntmps123
  go_wp2_with fail
  refine HI.out.mono ?_
  rintro e w4 ⟨r, rfl, hr, hw4⟩
  have H4 := Lib.hid hw4
  have HRR := Lib.hid hr
  clear hw4 hr
  go_wp2_with fail
  go_ret
  rw [← HRR.out]
  exact ⟨rfl, H4.out⟩

set_option maxRecDepth 100000 in
set_option maxHeartbeats 2000000 in
theorem idx125_x (c1 c2 : Value) (p : Nat → Bool) (J : World → Prop) (hJ : ∀ W W', J W → Ext W W' → J W') (S : Nat → Prop) (v : Value) (ks : List Nat) (w : World) (hw : J w) (hl : ks.length ≤ 1000000)
    (hR : ∀ W, J W → SlR S W 1 v ks.length (ks.map natV)) (hf : ∀ k ∈ ks, ∀ W, J W → Calls Tryz.prog 125 #[natV k, c1, c2] W fun e W' => e = .returned (.bool (p k)) ∧ J W') :
    Calls Tryz.prog 137 #[v, .func (.func 125) #[] #[c1, c2]] w fun e w' => ∃ r : Int, e = .returned (.int .i64 r) ∧ decide (0 ≤ r) = ks.any p ∧ J w' := by
  obtain ⟨a, cap, rfl⟩ := (hR w hw).shape
  have HW := Lib.hid hw
  have HR := Lib.hid hR
  have HJ := Lib.hid hJ
  have HF := Lib.hid hf
  clear hw hR hf hJ
  go_enter Tryz.func137, Tryz.ntmps137
  go_wp2_with fail
  go_loopg [8] ks.length (fun gk iv wr => ∃ k : Nat, iv = .int .i64 (k : Int) ∧ gk = ks.length - k ∧ k ≤ ks.length ∧ Hid (J wr) ∧ Hid ((ks.take k).any p = false))
  case atStart => exact ⟨0, rfl, rfl, Nat.zero_le _, HW, Lib.hid rfl⟩
  case round =>
    obtain ⟨k, rfl, rfl, hk, HK, HM⟩ := hrel
    by_cases hlt : k < ks.length
    · obtain ⟨g, off, hga, _, hat⟩ := SlR.one_at (d := 0) (HR.out wr HK.out) (by omega)
      subst hga
      have q0 := hat k hlt
      have z0 : (0 : Int) ≤ (k : Int) := by omega
      have z1 : (k : Int) < (ks.length : Int) := by omega
      have z2 : decide ((k : Int) < (ks.length : Int)) = true := decide_eq_true z1
      have hmem : ks.getD k 0 ∈ ks := by rw [List.getD_eq_getElem?_getD, List.getElem?_eq_getElem hlt]; exact List.getElem_mem hlt
      have HFX := Lib.hid (HF.out _ hmem wr HK.out)
      have HN : Hid (p (ks.getD k 0) = false → (ks.take (k + 1)).any p = false) := Lib.hid (fun h => by
        rw [List.take_add_one, List.any_append, HM.out, List.getElem?_eq_getElem hlt]
        rw [List.getD_eq_getElem?_getD, List.getElem?_eq_getElem hlt] at h
        simpa using h)
      have HY : Hid (p (ks.getD k 0) = true → ks.any p = true) := Lib.hid (fun h => List.any_eq_true.2 ⟨_, hmem, h⟩)
      obtain ⟨x, hx⟩ : ∃ x, ks.getD k 0 = x := ⟨_, rfl⟩
      rw [hx] at q0 HFX HN HY
      obtain ⟨b, hb⟩ : ∃ b, p x = b := ⟨_, rfl⟩
      rw [hb] at HFX HN HY
      clear hat hmem hx hb HM
      go_wp2_with fail
      refine HFX.out.mono ?_
      rintro e w4 ⟨rfl, hw4⟩
      have H4 := Lib.hid hw4
      clear hw4 q0 HFX HK
      cases b
      · have HN2 := Lib.hid (HN.out rfl)
        clear HN HY
        go_wp2_with fail
        go_roundg (ks.length - (k + 1))
        case measure => omega
        case rel => exact ⟨k + 1, by go_num, rfl, by omega, H4, HN2⟩
      · have HY2 := Lib.hid (HY.out rfl)
        clear HN HY
        go_wp2_with fail
        go_ret
        exact ⟨_, rfl, by rw [HY2.out]; exact decide_eq_true z0, H4.out⟩
    · obtain rfl : k = ks.length := by omega
      have z2 : decide ((ks.length : Int) < (ks.length : Int)) = false := decide_eq_false (by omega)
      have HM2 := HM.out
      rw [List.take_length] at HM2
      have HM3 := Lib.hid HM2
      clear HM2
      go_wp2_with fail
      go_ret
      exact ⟨_, rfl, by rw [HM3.out]; rfl, HK.out⟩
set_option maxRecDepth 100000 in
set_option maxHeartbeats 2000000 in
theorem con125_x (c1 c2 : Value) (p : Nat → Bool) (J : World → Prop) (hJ : ∀ W W', J W → Ext W W' → J W') (S : Nat → Prop) (v : Value) (ks : List Nat) (w : World) (hw : J w) (hl : ks.length ≤ 1000000)
    (hR : ∀ W, J W → SlR S W 1 v ks.length (ks.map natV)) (hf : ∀ k ∈ ks, ∀ W, J W → Calls Tryz.prog 125 #[natV k, c1, c2] W fun e W' => e = .returned (.bool (p k)) ∧ J W') :
    Calls Tryz.prog 123 #[v, .func (.func 125) #[] #[c1, c2]] w fun e w' => e = .returned (.bool (ks.any p)) ∧ J w' := by
  have HI := Lib.hid (idx125_x c1 c2 p J hJ S v ks w hw hl hR hf)
  clear hw hR hf hJ
  go_enter Tryz.func123, Tryz.ntmps123
  go_wp2_with fail
  refine HI.out.mono ?_
  rintro e w4 ⟨r, rfl, hr, hw4⟩
  have H4 := Lib.hid hw4
  have HRR := Lib.hid hr
  clear hw4 hr
  go_wp2_with fail
  go_ret
  rw [← HRR.out]
  exact ⟨rfl, H4.out⟩

set_option maxRecDepth 100000 in
set_option maxHeartbeats 2000000 in
theorem clo1_x (k j b c1 c2 : Nat) (G : Bool) (Q : World → Prop) (w : World) (h1 : w.heap[c1]? = some (.cells #[natV j] 3 (0, 0))) (h2 : w.heap[c2]? = some (.cells #[.pointer (some ⟨b, 0, none⟩)] 81 (0, 0))) (hQ : Q w) (hb : k ≤ 1000000000 ∧ j ≤ 1000000000)
    (hg : Calls Tryz.prog 76 #[.pointer (some ⟨b, 0, none⟩), natV k, natV j] w fun e W' => e = .returned (.bool G) ∧ Q W') :
    Calls Tryz.prog 124 #[natV k, .pointer (some ⟨c1, 0, none⟩), .pointer (some ⟨c2, 0, none⟩)] w fun e W' => e = .returned (.bool (decide (k = j) || G)) ∧ Q W' := by
  have HG := Lib.hid hg
  have HQ := Lib.hid hQ
  have q1 := cellRow h1 0 (natV j) rfl
  have q2 := cellRow h2 0 (.pointer (some ⟨b, 0, none⟩)) rfl
  clear hg hQ h1 h2
  by_cases hkj : k = j
  · subst hkj
    have t0 : ((k : Int) == (k : Int)) = true := by simp
    have t1 : decide (k = k) = true := by simp
    rw [t1, Bool.true_or]
    go_enter Tryz.func124, Tryz.ntmps124
    go_wp2_with fail
    go_ret
    exact ⟨rfl, HQ.out⟩
  · have t0 : ((k : Int) == (j : Int)) = false := by simp; omega
    have t2 : ¬ ((k : Int) = (j : Int)) := by omega
    have t1 : decide (k = j) = false := decide_eq_false hkj
    rw [t1, Bool.false_or]
    go_enter Tryz.func124, Tryz.ntmps124
    go_wp2_with fail
    refine HG.out.mono ?_
    rintro e w4 ⟨rfl, hw4⟩
    have H4 := Lib.hid hw4
    clear hw4 q1 q2
    go_wp2_with fail
    go_ret
    exact ⟨rfl, H4.out⟩
set_option maxRecDepth 100000 in
set_option maxHeartbeats 2000000 in
theorem clo2_x (k i b c1 c2 : Nat) (G : Bool) (Q : World → Prop) (w : World) (h1 : w.heap[c1]? = some (.cells #[.pointer (some ⟨b, 0, none⟩)] 81 (0, 0))) (h2 : w.heap[c2]? = some (.cells #[natV i] 3 (0, 0))) (hb : k ≤ 1000000000 ∧ i ≤ 1000000000)
    (hg : Calls Tryz.prog 76 #[.pointer (some ⟨b, 0, none⟩), natV i, natV k] w fun e W' => e = .returned (.bool G) ∧ Q W') :
    Calls Tryz.prog 125 #[natV k, .pointer (some ⟨c1, 0, none⟩), .pointer (some ⟨c2, 0, none⟩)] w fun e W' => e = .returned (.bool (!G)) ∧ Q W' := by
  have HG := Lib.hid hg
  have q1 := cellRow h1 0 (.pointer (some ⟨b, 0, none⟩)) rfl
  have q2 := cellRow h2 0 (natV i) rfl
  clear hg h1 h2
  go_enter Tryz.func125, Tryz.ntmps125
  go_wp2_with fail
  refine HG.out.mono ?_
  rintro e w4 ⟨rfl, hw4⟩
  have H4 := Lib.hid hw4
  clear hw4 q1 q2
  go_wp2_with fail
  go_ret
  exact ⟨rfl, H4.out⟩

end Go.Proofs.YtiimccogojkldaaGreatDoor

/- The order: covers. -/
namespace Go.Proofs.YtiimccogojkldaaGreatDoor
open Go.RowKit Go.Hw Go
set_option linter.unusedVariables false
set_option linter.unusedSimpArgs false

open Tm
theorem ord_n {ops : List By} {R B : Nat → Prop} {base b : Nat} {w : World} {N : List Nt} (h : OrdR 144 114 ops R B base w b N) : ∀ k, B k → k < w.heap.size := by
  obtain ⟨nv, br, bk, bd, us, G, rl, kl, dl, h⟩ := h
  exact fun k hk => (h.lt k hk).2.1
theorem ord_cells {ops : List By} {R B : Nat → Prop} {base b : Nat} {w : World} {N : List Nt} (h : OrdR 144 114 ops R B base w b N) (hN : 0 < N.length) : ∃ br g off cap bk bd, w.heap[b]? = some (.cells #[.map (some br), .slice (some ⟨g, off, none⟩) N.length cap, .map (some bk), .map (some bd)] 114 (0, 0)) ∧ B bd ∧
    (∃ rl, MpR strV w br rl ∧ ∀ s ∈ ops, afind rl s = some (natV (ixF ops s))) ∧
    ∀ i, i < N.length → ∃ a c, w.cell? ⟨g, off + i * 3, none⟩ = some (.string (ng N i).1.name) ∧ w.cell? ⟨g, off + i * 3 + 1, none⟩ = some (.bool (!decide ((ng N i).1.sort = nul))) ∧ w.cell? ⟨g, off + i * 3 + 2, none⟩ = some (.slice a (ng N i).2.length c) ∧
      ∀ W, OrdR 144 114 ops R B base W b N → Upd B w W → SlR (fun k => ¬ B k) W 1 (.slice a (ng N i).2.length c) (ng N i).2.length ((ng N i).2.map natV) := by
  obtain ⟨nv, br, bk, bd, us, G, rl, kl, dl, h⟩ := h
  obtain ⟨g, cap, rfl, _, hg, hat⟩ := h.at_ hN
  refine ⟨br, g, 0, cap, bk, bd, h.box, h.bb.2.2.2, ⟨rl, h.rank, h.ranks⟩, fun i hi => ?_⟩
  obtain ⟨a, c, h0, h1, h2, h3⟩ := hat i hi
  refine ⟨a, c, h0, by rw [Nat.add_assoc]; exact h1, by rw [Nat.add_assoc]; exact h2, fun W _ hu => ?_⟩
  exact (h3.kept hu (fun k hk hb => (h.gs k hk).2.2.1 hb)).weaken (fun k hk => (h.gs k hk).2.2.1)
set_option maxRecDepth 100000 in
set_option maxHeartbeats 2000000 in
theorem covers_x (ops : List By) (R B : Nat → Prop) (base b : Nat) (N : List Nt) (hNl : N.length ≤ 100000) (m : Nat) (hg : ∀ (i j : Nat), i + j < m → i < N.length → j < N.length → ∀ W, OrdR 144 114 ops R B base W b N → Calls Tryz.prog 76 #[.pointer (some ⟨b, 0, none⟩), natV i, natV j] W fun e W' => e = .returned (.bool (gt (ixF ops) (ng N i).1 (ng N j).1)) ∧ OrdR 144 114 ops R B base W' b N ∧ Upd B W W') (i j : Nat) (hm : i + j ≤ m) (hi : i < N.length) (hj : j < N.length) (w : World) (hO : OrdR 144 114 ops R B base w b N) (hks : (ng N i).2.length ≤ 1000000) (hkl : ∀ k ∈ (ng N i).2, k < i) :
    Calls Tryz.prog 101 #[.pointer (some ⟨b, 0, none⟩), natV i, natV j] w fun e W' => e = .returned (.bool ((ng N i).2.any fun k => decide (k = j) || gt (ixF ops) (ng N k).1 (ng N j).1)) ∧ OrdR 144 114 ops R B base W' b N ∧ Upd B w W' := by
  obtain ⟨br, g, off, cap, bk, bd, hbox, _, _, hat⟩ := ord_cells hO (by omega)
  obtain ⟨a, c, _, _, q2, hsl⟩ := hat i hi
  have HZ : Hid (Ext w ((w.alloc (.cells #[.pointer (some ⟨b, 0, none⟩)] 81)).alloc (.cells #[natV j] 3))) := Lib.hid (((Upd.refl (fun _ => False) w).alloc _).alloc _)
  have HB1 : Hid (((w.alloc (.cells #[.pointer (some ⟨b, 0, none⟩)] 81)).alloc (.cells #[natV j] 3)).heap[w.heap.size]? = some (.cells #[.pointer (some ⟨b, 0, none⟩)] 81 (0, 0))) := Lib.hid (allocOld (alloc0 w (.cells #[.pointer (some ⟨b, 0, none⟩)] 81)) (.cells #[natV j] 3))
  have HB2 : Hid (((w.alloc (.cells #[.pointer (some ⟨b, 0, none⟩)] 81)).alloc (.cells #[natV j] 3)).heap[w.heap.size + 1]? = some (.cells #[natV j] 3 (0, 0))) := Lib.hid (alloc_at (w.alloc (.cells #[.pointer (some ⟨b, 0, none⟩)] 81)) (.cells #[natV j] 3) (n := w.heap.size + 1) (by simp))
  have hlt := ord_n hO
  have HC := Lib.hid (con124_x (.pointer (some ⟨w.heap.size + 1, 0, none⟩)) (.pointer (some ⟨w.heap.size, 0, none⟩)) (fun k => decide (k = j) || gt (ixF ops) (ng N k).1 (ng N j).1) (fun W => OrdR 144 114 ops R B base W b N ∧ Upd B ((w.alloc (.cells #[.pointer (some ⟨b, 0, none⟩)] 81)).alloc (.cells #[natV j] 3)) W) (fun W W' h hE => ⟨h.1.ext hE, h.2.ext hE⟩) (fun k => ¬ B k) (.slice a (ng N i).2.length c) (ng N i).2 ((w.alloc (.cells #[.pointer (some ⟨b, 0, none⟩)] 81)).alloc (.cells #[natV j] 3)) ⟨hO.ext HZ.out, Upd.refl _ _⟩ hks
    (fun W h => hsl W h.1 ((HZ.out.mono (fun _ _ x => x.elim)).trans h.2)) (fun k hk W h => by
      have hki := hkl k hk
      exact clo1_x k j b (w.heap.size + 1) w.heap.size _ (fun W => OrdR 144 114 ops R B base W b N ∧ Upd B ((w.alloc (.cells #[.pointer (some ⟨b, 0, none⟩)] 81)).alloc (.cells #[natV j] 3)) W) W (h.2.heap HB2.out (fun hb => by have := hlt _ hb; omega)) (h.2.heap HB1.out (fun hb => by have := hlt _ hb; omega)) h ⟨by omega, by omega⟩
        ((hg k j (by omega) (by omega) hj W h.1).mono (fun e W' ⟨h1, h2, h3⟩ => ⟨h1, h2, h.2.trans h3⟩))))
  have hbox2 := HZ.out.heap hbox (fun h => h)
  have o1 := cellRow hbox2 1 (.slice (some ⟨g, off, none⟩) N.length cap) rfl
  have q2' := HZ.out.cell q2 (fun h => h)
  have b1 := cellRow HB1.out 0 (.pointer (some ⟨b, 0, none⟩)) rfl
  have z0 : (0 : Int) ≤ (i : Int) := by omega
  have z1 : (i : Int) < (N.length : Int) := by omega
  clear hbox hbox2 hat q2 hsl hg hkl hlt hO
  generalize ((ng N i).2.any fun k => decide (k = j) || gt (ixF ops) (ng N k).1 (ng N j).1) = V at *
  generalize (ng N i).2 = K at *
  go_enter Tryz.func101, Tryz.ntmps101
  go_wp2_with fail
  refine HC.out.mono ?_
  rintro e w4 ⟨rfl, hw4, hu4⟩
  have H4 := Lib.hid (And.intro hw4 hu4)
  clear hw4 hu4 q2' o1 b1
  go_wp2_with fail
  go_ret
  exact ⟨rfl, H4.out.1, (HZ.out.mono (fun _ _ x => x.elim)).trans H4.out.2⟩

end Go.Proofs.YtiimccogojkldaaGreatDoor

/- The order of terms: pure. -/
namespace Go.Hw
open Tm
set_option linter.unusedVariables false
set_option linter.unusedSimpArgs false
def bcmp (a b : By) : Int := if blt a b = true then -1 else if blt b a = true then 1 else 0
theorem bcmp_zero (a b : By) : bcmp a b = 0 ↔ a = b := by
  unfold bcmp
  constructor
  · intro h
    by_cases e : a = b
    · exact e
    · rcases blt_tri a b e with h1 | h1
      · rw [if_pos h1] at h; omega
      · rw [if_neg (by rw [blt_asymm h1]; decide), if_pos h1] at h; omega
  · intro h
    rw [h, blt_irrefl]
    rfl
mutual
def cmpT : Tm → Tm → Int
  | .mk n s L, .mk m r M => if decide (s ≠ nul) ≠ decide (r ≠ nul) then (if s ≠ nul then -1 else 1) else if bcmp n m ≠ 0 then bcmp n m else if bcmp s r ≠ 0 then bcmp s r else if L.length ≠ M.length then (if L.length < M.length then -1 else 1) else cmps L M
def cmps : List Tm → List Tm → Int
  | a :: L, b :: M => if cmpT a b ≠ 0 then cmpT a b else cmps L M
  | _, _ => 0
end
theorem cmpT_zero : ∀ a b : Tm, cmpT a b = 0 ↔ a = b := by
  refine ind (fun n s L ih b => ?_)
  obtain ⟨m, r, M⟩ := b
  have hL : ∀ (L M : List Tm), (∀ x ∈ L, ∀ y, cmpT x y = 0 ↔ x = y) → L.length = M.length → (cmps L M = 0 ↔ L = M) := by
    intro L
    induction L with
    | nil => intro M _ h; cases M with
      | nil => simp [cmps]
      | cons b M => simp at h
    | cons a L ihL =>
      intro M h hl
      cases M with
      | nil => simp at hl
      | cons b M =>
        unfold cmps
        have h1 := h a (List.mem_cons_self ..) b
        by_cases hz : cmpT a b = 0
        · rw [if_neg (by simp [hz]), ihL M (fun x hx => h x (List.mem_cons_of_mem _ hx)) (by simpa using hl), h1.1 hz]
          simp
        · rw [if_pos hz]
          constructor
          · intro h2; exact absurd h2 hz
          · intro h2; injection h2 with h2 h3; exact absurd (h1.2 h2) hz
  unfold cmpT
  constructor
  · intro h
    by_cases h1 : decide (s ≠ nul) ≠ decide (r ≠ nul)
    · rw [if_pos h1] at h
      split at h <;> omega
    rw [if_neg h1] at h
    by_cases h2 : bcmp n m = 0
    · rw [if_neg (by simp [h2])] at h
      by_cases h3 : bcmp s r = 0
      · rw [if_neg (by simp [h3])] at h
        by_cases h4 : L.length = M.length
        · rw [if_neg (by simp [h4])] at h
          rw [(bcmp_zero n m).1 h2, (bcmp_zero s r).1 h3, (hL L M ih h4).1 h]
        · rw [if_pos h4] at h
          split at h <;> omega
      · rw [if_pos h3] at h; exact absurd h h3
    · rw [if_pos h2] at h; exact absurd h h2
  · intro h
    injection h with h1 h2 h3
    subst h1 h2 h3
    rw [if_neg (by simp), if_neg (by simp [(bcmp_zero n n).2 rfl]), if_neg (by simp [(bcmp_zero s s).2 rfl]), if_neg (by simp)]
    exact (hL L L ih rfl).2 rfl
theorem cmps_of : ∀ (L M : List Tm) (k : Nat), L.length = M.length → k < L.length → (∀ j, j < k → cmpT (L.getD j default) (M.getD j default) = 0) → cmpT (L.getD k default) (M.getD k default) ≠ 0 → cmps L M = cmpT (L.getD k default) (M.getD k default)
  | [], _, k, _, h, _, _ => by simp at h
  | a :: L, [], k, h, _, _, _ => by simp at h
  | a :: L, b :: M, 0, _, _, _, h => by
    unfold cmps
    exact if_pos h
  | a :: L, b :: M, k + 1, hl, hk, h1, h2 => by
    unfold cmps
    have h0 : cmpT a b = 0 := h1 0 (by omega)
    rw [if_neg (by simp [h0])]
    exact cmps_of L M k (by simpa using hl) (by simpa using hk) (fun j hj => h1 (j + 1) (by omega)) h2
theorem cmps_all : ∀ (L M : List Tm), L.length = M.length → (∀ j, j < L.length → cmpT (L.getD j default) (M.getD j default) = 0) → cmps L M = 0
  | [], [], _, _ => by simp [cmps]
  | [], b :: M, h, _ => by simp at h
  | a :: L, [], h, _ => by simp at h
  | a :: L, b :: M, hl, h1 => by
    unfold cmps
    have h0 : cmpT a b = 0 := h1 0 (by simp)
    rw [if_neg (by simp [h0])]
    exact cmps_all L M (by simpa using hl) (fun j hj => h1 (j + 1) (by simpa using hj))
theorem cmpT_eq (n s : By) (L : List Tm) (m r : By) (M : List Tm) : cmpT (.mk n s L) (.mk m r M) = if decide (s ≠ nul) ≠ decide (r ≠ nul) then (if s ≠ nul then -1 else 1) else if bcmp n m ≠ 0 then bcmp n m else if bcmp s r ≠ 0 then bcmp s r else if L.length ≠ M.length then (if L.length < M.length then -1 else 1) else cmps L M := by
  unfold cmpT
  rfl
end Go.Hw

/- What a round of an iterator keeps: rows of cells outside its own boxes. -/
namespace Go.Hw
open Go.RowKit Tm
set_option linter.unusedVariables false
set_option linter.unusedSimpArgs false
structure KpG (G : Nat → Prop) (A B : World) : Prop where
  size : A.heap.size ≤ B.heap.size
  cells : ∀ k cs ty m, ¬ G k → A.heap[k]? = some (.cells cs ty m) → B.heap[k]? = some (.cells cs ty m)
theorem KpG.refl (G : Nat → Prop) (A : World) : KpG G A A := ⟨Nat.le_refl _, fun _ _ _ _ _ h => h⟩
theorem KpG.trans {G : Nat → Prop} {A B C : World} (h : KpG G A B) (k : KpG G B C) : KpG G A C := ⟨Nat.le_trans h.size k.size, fun i cs ty m hG hc => k.cells i cs ty m hG (h.cells i cs ty m hG hc)⟩
theorem KpG.of_upd {F G : Nat → Prop} {A B : World} (h : Upd F A B) (hF : ∀ k, k < A.heap.size → F k → G k) : KpG G A B :=
  ⟨h.size, fun k cs ty m hG hc => (h.block k (Array.getElem?_eq_some_iff.1 hc).1 (fun hf => hG (hF k (Array.getElem?_eq_some_iff.1 hc).1 hf))).trans hc⟩
theorem KpG.of_ext {G : Nat → Prop} {A B : World} (h : Ext A B) : KpG G A B := KpG.of_upd h (fun _ _ h => h.elim)
theorem KpG.putObj {G : Nat → Prop} (W : World) (l : Nat) (o o' : Obj) (h : W.heap[l]? = some o) (hc : o.isCells = false) : KpG G W (W.putObj l o') := by
  refine ⟨by simp [World.putObj], fun k cs ty m hG hk => ?_⟩
  have hne : l ≠ k := by
    intro e
    rw [e, hk] at h
    injection h with h
    rw [← h] at hc
    cases hc
  simp only [World.putObj]
  rw [Array.getElem?_setIfInBounds_ne hne]
  exact hk
theorem KpG.cell {G : Nat → Prop} {A B : World} (h : KpG G A B) {p : Addr} {v : Value} (hp : ¬ G p.block) (hs : p.spot = none) (hc : A.cell? p = some v) : B.cell? p = some v := by
  cases hb : A.heap[p.block]? with
  | none => simp [World.cell?, hb] at hc
  | some o =>
    cases o with
    | cells cs ty m =>
      have h2 := h.cells _ _ _ _ hp hb
      simp only [World.cell?, hb] at hc
      simp only [World.cell?, h2]
      exact hc
    | _ => simp [World.cell?, hb] at hc
theorem SlR.keptK {G S : Nat → Prop} {A B : World} {size n : Nat} {v : Value} {cs : List Value} (h : SlR S A size v n cs) (hk : KpG G A B) (hS : ∀ k, S k → ¬ G k) : SlR S B size v n cs := by
  refine ⟨h.1, ?_⟩
  rcases h.2 with h2 | ⟨a, cap, e, hc, hs, hj⟩
  · exact .inl h2
  · refine .inr ⟨a, cap, e, hc, hs, fun j hjn => ?_⟩
    have hn : 0 < n := pos_of_lt hjn
    have h3 := hj j hjn
    have hlen : j < cs.length := by rw [h.1]; exact hjn
    rw [List.getElem?_eq_getElem hlen] at h3 ⊢
    exact hk.cell (hS _ (hs hn).2) (by rfl) h3
theorem TlR.keptK {G S : Nat → Prop} {A B : World} {L : List Tm} {v : Value} (h : TlR S A L v) (hk : KpG G A B) (hS : ∀ k, S k → ¬ G k) : TlR S B L v := by
  induction h with
  | mk L us v hl h hkk ih => exact ⟨L, us, v, hl, h.keptK hk hS, ih⟩
end Go.Hw

/- The nodes of a term, one after the other. -/
namespace Go.Proofs.YtiimccogojkldaaGreatDoor
open Go.RowKit Go.Hw Go
set_option linter.unusedVariables false
set_option linter.unusedSimpArgs false

open Go.Shelf Tm
attribute [local go_sem] Oper.semAt_some
theorem room_of_none {F : Fence} (hd : F.depth = none) (k : Nat) : F.room k := fun d h => by rw [hd] at h; cases h
theorem RoundIn.anyDepth {F : Fence} (hd : F.depth = none) {m m' : Nat} {P : Program} {l : Nat} {f : FuncId} {tmps : Array Value} {assign body : Code} {w : World} {R : Ending → World → Prop}
    (h : RoundIn F m P l f tmps assign body w R) : RoundIn F m' P l f tmps assign body w R := ⟨h.1, fun c cs _ => h.2 c cs (room_of_none hd _)⟩
theorem YieldAt.anyDepth {F : Fence} (hd : F.depth = none) {m : Nat} (m' : Nat) {P : Program} {l : Nat} {args : Array Value} {W : World} {R : Ending → World → Prop} (h : YieldAt F m P l args W R) : YieldAt F m' P l args W R := by
  obtain ⟨fn, tmps, assign, body, hy, hR⟩ := h
  exact ⟨fn, tmps, assign, body, hy, RoundIn.anyDepth hd hR⟩
/-- a node that comes: the term, where its parts lie, its depth -/
structure Nd where
  t : Tm
  a : Option Addr
  cap : Nat
  d : Nat
def Nd.encs (x : Nd) : Array Value := #[tV x.t (.slice x.a x.t.kids.length x.cap), .int .i64 (x.d : Int)]
def Nd.pr (x : Nd) : Tm × Nat := (x.t, x.d)
theorem abides_alloc {J : List Nd → World → Prop} {B : Nat} (h : AbidesFrom B J) {pre : List Nd} {W : World} (o : Obj) (hj : J pre W) : J pre (W.alloc o) := h pre W _ none hj (World.grownBy_alloc W o none) (fun r e => by cases e)
set_option maxRecDepth 100000 in
set_option maxHeartbeats 4000000 in
theorem visit_in (F : Fence) (hd : F.depth = none) (hf : ∀ k, F.fn k) (hro : F.round = none) (l Bv n₁ N B0 : Nat) (G S : Nat → Prop) (hS : ∀ k, S k → ¬ G k) (hBv : ¬ G Bv) (hG : ∀ k, G k → k < n₁) (J Jx : List Nd → World → Prop) (hJ : AbidesFrom B0 J)
    (hY : ∀ m pre x W, J pre W → pre.length < N → YieldAt F m Tryz.prog l x.encs W fun e W' => (e = .returned (.bool true) ∧ J (pre ++ [x]) W' ∧ KpG G W W') ∨ (e = .returned (.bool false) ∧ Jx (pre ++ [x]) W')) :
    ∀ (t : Tm) (n : Nat) (a : Option Addr) (cap d : Nat) (pre : List Nd) (W : World), TlR S W t.kids (.slice a t.kids.length cap) → W.heap[Bv]? = some (.cells #[(.func (.func 112) #[] #[.pointer (some ⟨Bv, 0, none⟩)])] 152 (0, 0)) → J pre W → n₁ ≤ W.heap.size → pre.length + t.size ≤ N → ((d + t.size : Nat) : Int) ≤ 4611686018427387904 →
      CallsIn F n Tryz.prog 112 #[tV t (.slice a t.kids.length cap), .int .i64 (d : Int), .func (.yield l) #[] #[], .pointer (some ⟨Bv, 0, none⟩)] W fun e W' =>
        (e = .returned (.bool true) ∧ ∃ xs : List Nd, xs.map Nd.pr = nodesD d t ∧ J (pre ++ xs) W' ∧ KpG G W W') ∨ (e = .returned (.bool false) ∧ ∃ q : List Nd, q.map Nd.pr <+: nodesD d t ∧ Jx (pre ++ q) W') := by
  have hdd : ∀ k : Nat, (F.depth.isSome = true → 1 ≤ k) := fun k h => by rw [hd] at h; cases h
  refine Tm.ind (fun nm so L ih => ?_)
  intro n a cap d pre W hR hV hJ0 hn1 hN hdb
  have hsz := size_eq (.mk nm so L)
  dsimp only [tV, Tm.name, Tm.sort, Tm.kids] at hR hsz ⊢
  rw [hsz] at hN hdb
  have hb := alloc0 W (.cells #[.string nm, .string so, .slice a L.length cap] 25)
  have c0 := cellRow hb 0 (.string nm) rfl
  have c1 := cellRow hb 1 (.string so) rfl
  have c2 := cellRow hb 2 (.slice a L.length cap) rfl
  have hU0 : KpG G W (W.alloc (.cells #[.string nm, .string so, .slice a L.length cap] 25)) := KpG.of_ext ((Upd.refl _ W).alloc _)
  have hGB : ¬ G W.heap.size := fun h => by have := hG _ h; omega
  obtain ⟨fn, tmps, assign, body, hy, hR1⟩ := hY (n - 1) pre ⟨.mk nm so L, a, cap, d⟩ (W.alloc (.cells #[.string nm, .string so, .slice a L.length cap] 25)) (abides_alloc hJ _ hJ0) (by omega)
  dsimp only [Nd.encs, tV, Tm.name, Tm.sort, Tm.kids] at hy
  refine callsIn_of_wp Tryz.func112 rfl (hf 112) ?_ hro
  simp only [Tryz.ntmps112, List.size_toArray, List.length_cons, List.length_nil, Nat.reduceAdd, Nat.reduceSub, Array.replicate_succ, Array.replicate_zero, List.push_toArray, List.append_toArray, List.nil_append, List.cons_append]
  gi_wp2
  refine hR1.mono ?_
  clear hR1
  rintro e W1 (⟨rfl, hJ1, hk1⟩ | ⟨rfl, hx1⟩)
  · have hb1 := hk1.cells _ _ _ _ hGB hb
    have d2 := cellRow hb1 2 (.slice a L.length cap) rfl
    gi_wp2
    gi_loopg [18] (L.length) (fun gk iv wr => ∃ (k : Nat) (xs : List Nd), iv = .int .i64 (k : Int) ∧ gk = L.length - k ∧ k ≤ L.length ∧ xs.map Nd.pr = nodesDs (d + 1) (L.take k) ∧ J (pre ++ [⟨.mk nm so L, a, cap, d⟩] ++ xs) wr ∧ KpG G W wr)
    case atStart => exact ⟨0, [], rfl, rfl, Nat.zero_le _, rfl, by simpa using hJ1, hU0.trans hk1⟩
    case round =>
      obtain ⟨k, xs, rfl, rfl, hk, hxs, hJr, hkr⟩ := hrel
      by_cases hlt : k < L.length
      · obtain ⟨g, off, rfl, _, hat⟩ := (hR.keptK hkr hS).at_ (by omega)
        obtain ⟨a', cap', q0, q1, q2, hkid⟩ := hat k hlt
        have z0 : (0 : Int) ≤ (k : Int) := by omega
        have z1 : (k : Int) < (L.length : Int) := by omega
        have z2 : decide ((k : Int) < (L.length : Int)) = true := decide_eq_true z1
        have hv := hkr.cells _ _ _ _ hBv hV
        have hmem : tg L k ∈ L := by unfold tg; rw [List.getD_eq_getElem?_getD, List.getElem?_eq_getElem hlt]; exact List.getElem_mem hlt
        have hsz2 : sizes (L.take k) + (tg L k).size ≤ sizes L := by
          have h1 : L = L.take k ++ tg L k :: L.drop (k + 1) := by
            unfold tg; rw [List.getD_eq_getElem?_getD, List.getElem?_eq_getElem hlt]; simp
          have h2 := congrArg sizes h1
          rw [sizes_append] at h2
          simp only [sizes] at h2
          omega
        have hxl : xs.length = sizes (L.take k) := by have := congrArg List.length hxs; rw [List.length_map, nodesDs_len] at this; exact this
        obtain ⟨x, hx⟩ : ∃ x, tg L k = x := ⟨_, rfl⟩
        rw [hx] at q0 q1 q2 hkid hmem hsz2
        rw [← Nat.add_assoc] at q1 q2
        have hb4 := alloc0 wr (.cells #[.string x.name, .string x.sort, .slice a' x.kids.length cap'] 25)
        have e0 := cellRow hb4 0 (.string x.name) rfl
        have e1 := cellRow hb4 1 (.string x.sort) rfl
        have e2 := cellRow hb4 2 (.slice a' x.kids.length cap') rfl
        have e3 := cellRow (allocOld hv (.cells #[.string x.name, .string x.sort, .slice a' x.kids.length cap'] 25)) 0 (.func (.func 112) #[] #[.pointer (some ⟨Bv, 0, none⟩)]) rfl
        have hk4 : KpG G wr (wr.alloc (.cells #[.string x.name, .string x.sort, .slice a' x.kids.length cap'] 25)) := KpG.of_ext ((Upd.refl _ wr).alloc _)
        have hlen : (L.length : Int) ≤ 4611686018427387904 := by have := length_le_sizes L; omega
        have ihk := ih x hmem (n - 1) a' cap' (d + 1) _ _ (hkid.keptK hk4 hS) (allocOld hv (.cells #[.string x.name, .string x.sort, .slice a' x.kids.length cap'] 25)) (abides_alloc hJ _ hJr) (by have h1 := hkr.size; have h2 := hk4.size; omega) (by simp only [List.length_append, List.length_singleton]; omega) (by omega)
        have hw1 : IntKind.i64.wrap ((d : Int) + 1) = (d : Int) + 1 := IntWalk.i64_in _ (by omega)
        have hw2 : wrap64 ((d : Int) + 1) = (d : Int) + 1 := IntWalk.wrap64_in _ (by omega)
        rw [show (((d + 1 : Nat)) : Int) = (d : Int) + 1 by omega] at ihk
        dsimp only [tV] at ihk
        gi_wp2_with (gi_at_call 112; refine ihk.mono ?_; clear ihk; rintro e W4 (⟨rfl, ys, hys, hJ4, hk5⟩ | ⟨rfl, q, hq, hx4⟩))
        · gi_roundg (L.length - (k + 1))
          case measure => omega
          case rel => 
            refine ⟨k + 1, xs ++ ys, by go_num, rfl, by omega, ?_, by rw [← List.append_assoc]; exact hJ4, (hkr.trans hk4).trans hk5⟩
            rw [List.map_append, hxs, hys, List.take_add_one, nodesDs_append]
            have : L[k]?.toList = [x] := by rw [← hx]; unfold tg; rw [List.getD_eq_getElem?_getD, List.getElem?_eq_getElem hlt]; rfl
            rw [this]
            simp [nodesDs]
        · go_ret
          refine .inr ⟨rfl, ⟨.mk nm so L, some ⟨g, off, none⟩, cap, d⟩ :: (xs ++ q), ?_, by simpa using hx4⟩
          obtain ⟨r, hr⟩ := hq
          refine ⟨r ++ nodesDs (d + 1) (L.drop (k + 1)), ?_⟩
          rw [nodesD_eq]
          simp only [Tm.kids, List.map_cons, List.map_append, hxs, List.cons_append, List.append_assoc]
          rw [← List.append_assoc (List.map Nd.pr q) r, hr]
          have h1 : L = L.take k ++ x :: L.drop (k + 1) := by
            rw [← hx]; unfold tg; rw [List.getD_eq_getElem?_getD, List.getElem?_eq_getElem hlt]; simp
          have h2 := congrArg (nodesDs (d + 1)) h1
          rw [nodesDs_append] at h2
          simp only [nodesDs] at h2
          rw [h2]
          rfl
      · obtain rfl : k = L.length := by omega
        gi_wp2
        go_ret
        refine .inl ⟨rfl, ⟨.mk nm so L, a, cap, d⟩ :: xs, ?_, by simpa using hJr, hkr⟩
        rw [List.map_cons, hxs, List.take_length, nodesD_eq]
        rfl
  · gi_wp2
    go_ret
    exact .inr ⟨rfl, [⟨.mk nm so L, a, cap, d⟩], ⟨nodesDs (d + 1) L, by rw [nodesD_eq]; rfl⟩, hx1⟩

set_option maxHeartbeats 1000000 in
theorem nodes1_in (F : Fence) (hd : F.depth = none) (n : Nat) (hf : ∀ k, F.fn k) (hro : F.round = none) (l Bv Bt n₁ B0 : Nat) (G S : Nat → Prop) (hS : ∀ k, S k → ¬ G k) (hBv : ¬ G Bv) (hG : ∀ k, G k → k < n₁) (J Jx : List Nd → World → Prop) (hJ : AbidesFrom B0 J)
    (t : Tm) (a : Option Addr) (cap : Nat)
    (hY : ∀ pre x W, J pre W → pre.length < t.size → YieldAt F (n - 1) Tryz.prog l x.encs W fun e W' => (e = .returned (.bool true) ∧ J (pre ++ [x]) W' ∧ KpG G W W') ∨ (e = .returned (.bool false) ∧ Jx (pre ++ [x]) W'))
    (W : World) (hR : TlR S W t.kids (.slice a t.kids.length cap)) (hV : W.heap[Bv]? = some (.cells #[(.func (.func 112) #[] #[.pointer (some ⟨Bv, 0, none⟩)])] 152 (0, 0))) (hT : W.heap[Bt]? = some (.cells #[.string t.name, .string t.sort, .slice a t.kids.length cap] 25 (0, 0))) (h0 : J [] W) (hnW : n₁ ≤ W.heap.size) (hsz : ((1 + t.size : Nat) : Int) ≤ 4611686018427387904) :
    CallsIn F n Tryz.prog 113 #[.func (.yield l) #[] #[], .pointer (some ⟨Bv, 0, none⟩), .pointer (some ⟨Bt, 0, none⟩)] W fun e W' => (∃ v, e = .returned v) ∧ ((∃ xs : List Nd, xs.map Nd.pr = nodesD 1 t ∧ J xs W') ∨ (∃ pre : List Nd, pre.map Nd.pr <+: nodesD 1 t ∧ Jx pre W')) := by
  have hdd : ∀ k : Nat, (F.depth.isSome = true → 1 ≤ k) := fun k h => by rw [hd] at h; cases h
  have hp := visit_in F hd hf hro l Bv n₁ t.size B0 G S hS hBv hG J Jx hJ (fun m pre x W hj hl => YieldAt.anyDepth hd m (hY pre x W hj hl)) t (n - 1) a cap 1 [] W hR hV h0 hnW (by simp) hsz
  have c0 := cellRow hT 0 (.string t.name) rfl
  have c1 := cellRow hT 1 (.string t.sort) rfl
  have c2 := cellRow hT 2 (.slice a t.kids.length cap) rfl
  have v0 := cellRow hV 0 (.func (.func 112) #[] #[.pointer (some ⟨Bv, 0, none⟩)]) rfl
  dsimp only [tV] at hp
  refine callsIn_of_wp Tryz.func113 rfl (hf 113) ?_ hro
  simp only [Tryz.ntmps113, List.size_toArray, List.length_cons, List.length_nil, Nat.reduceAdd, Nat.reduceSub, Array.replicate_succ, Array.replicate_zero, List.push_toArray, List.append_toArray, List.nil_append, List.cons_append]
  gi_wp2_with (gi_at_call 112; refine hp.mono ?_; clear hp; rintro e W1 (⟨rfl, xs, hxs, hJ1, _⟩ | ⟨rfl, q, hq, hx⟩))
  · go_end0
    exact ⟨⟨_, rfl⟩, .inl ⟨xs, hxs, by simpa using hJ1⟩⟩
  · go_end0
    exact ⟨⟨_, rfl⟩, .inr ⟨q, hq, by simpa using hx⟩⟩
set_option maxHeartbeats 1000000 in
theorem nodes_x (t : Tm) (u : Value) (w : World) (hu : ∃ a k c, u = .slice a k c) :
    Calls Tryz.prog 89 #[tV t u] w fun e w' => e = .returned (.func (.func 113) #[] #[.pointer (some ⟨w.heap.size + 1, 0, none⟩), .pointer (some ⟨w.heap.size, 0, none⟩)]) ∧ Ext w w' ∧ w'.heap.size = w.heap.size + 2 ∧
      w'.heap[w.heap.size]? = some (.cells #[.string t.name, .string t.sort, u] 25 (0, 0)) ∧ w'.heap[w.heap.size + 1]? = some (.cells #[.func (.func 112) #[] #[.pointer (some ⟨w.heap.size + 1, 0, none⟩)]] 152 (0, 0)) := by
  obtain ⟨a, k, c, rfl⟩ := hu
  dsimp only [tV]
  have hb := alloc_at (w.alloc (.cells #[.string t.name, .string t.sort, .slice a k c] 25)) (.cells #[.nilFunc] 152) (n := w.heap.size + 1) (by simp)
  have v0 := cellRow hb 0 .nilFunc rfl
  have f0 := frozenRow hb 0
  go_enter Tryz.func89, Tryz.ntmps89
  go_wp2_with fail
  go_ret
  exact ⟨rfl, ((Upd.refl (fun _ => False) w).alloc _).alloc _, by simp, allocOld (alloc0 _ _) _, alloc_at _ _ (by simp)⟩

/-- what 'nodes' hands back, as a sequence -/
theorem nodes_stops (F : Fence) (hd : F.depth = none) (n : Nat) (hf : ∀ k, F.fn k) (hro : F.round = none) (Bv Bt : Nat) (G S : Nat → Prop) (w : World) (hS : ∀ k, S k → ¬ G k) (hBv : ¬ G Bv) (hG : ∀ k, G k → k < w.heap.size) (hSw : ∀ k, S k → k < w.heap.size) (t : Tm) (a : Option Addr) (cap : Nat)
    (hR : TlR S w t.kids (.slice a t.kids.length cap)) (hV : w.heap[Bv]? = some (.cells #[(.func (.func 112) #[] #[.pointer (some ⟨Bv, 0, none⟩)])] 152 (0, 0))) (hT : w.heap[Bt]? = some (.cells #[.string t.name, .string t.sort, .slice a t.kids.length cap] 25 (0, 0))) (hsz : ((1 + t.size : Nat) : Int) ≤ 4611686018427387904) :
    SeqStopsK F n Tryz.prog 113 #[.pointer (some ⟨Bv, 0, none⟩), .pointer (some ⟨Bt, 0, none⟩)] Nd.encs (KpG G) (fun xs => xs.map Nd.pr = nodesD 1 t) (fun pre => pre.map Nd.pr <+: nodesD 1 t) t.size w := fun l J Jx W hW hJ _ hY h0 =>
  have hE : Ext w W := ⟨hW.os, hW.tape, hW.output, hW.size, fun k hk _ => hW.block k hk⟩
  nodes1_in F hd n hf hro l Bv Bt w.heap.size W.heap.size G S hS hBv hG J Jx hJ t a cap hY W (hR.ext hE) (hE.heap hV (fun h => h)) (hE.heap hT (fun h => h)) h0 hW.size hsz

end Go.Proofs.YtiimccogojkldaaGreatDoor
