/- The texts PP TX TQ MQ TR TS TI TU TY TZ TYK L6, one behind the other. -/
import Derived.Test.YtlkcjmaiahnodaaGreatDoorYAB
import Derived.Test.YtlkcjmaiahnodaaGreatDoorYAA
import Derived.Laws.IdiomCopy
/- Precedences, operations of terms, and the search for a precedence: pure. -/
namespace Go.Hw
open Tm
set_option linter.unusedVariables false
set_option linter.unusedSimpArgs false
instance byMem (s : By) (l : List By) : Decidable (s ∈ l) := decidable_of_iff (l.any (fun x => decide (x = s)) = true) (by
  rw [List.any_eq_true]
  exact ⟨fun ⟨x, hx, h⟩ => of_decide_eq_true h ▸ hx, fun h => ⟨s, h, decide_eq_true rfl⟩⟩)
/-- the index of a name; the length where it is not there -/
def ixF (l : List By) (s : By) : Nat := l.findIdx fun x => decide (x = s)
theorem ixF_le (l : List By) (s : By) : ixF l s ≤ l.length := List.findIdx_le_length
theorem ixF_lt {l : List By} {s : By} (h : s ∈ l) : ixF l s < l.length := List.findIdx_lt_length_of_exists ⟨s, h, by simp⟩
theorem ixF_mem {l : List By} {s : By} (h : ixF l s < l.length) : s ∈ l := by
  have := List.findIdx_getElem (w := h)
  rw [decide_eq_true_eq] at this
  rw [← this]
  exact List.getElem_mem h
theorem ixF_at {l : List By} {s : By} (h : s ∈ l) : l.getD (ixF l s) nul = s := by
  have h1 := ixF_lt h
  have := List.findIdx_getElem (w := h1)
  rw [decide_eq_true_eq] at this
  rw [List.getD_eq_getElem?_getD, List.getElem?_eq_getElem h1]
  exact this
theorem ixF_not {l : List By} {s : By} {j : Nat} (h : j < ixF l s) : l.getD j nul ≠ s := by
  have h1 : j < l.length := Nat.lt_of_lt_of_le h (ixF_le l s)
  have := List.not_of_lt_findIdx h
  simp only [decide_eq_false_iff_not] at this
  rw [List.getD_eq_getElem?_getD, List.getElem?_eq_getElem h1]
  simpa using this
theorem ixF_of {l : List By} {s : By} {k : Nat} (hk : k < l.length) (h1 : ∀ j, j < k → l.getD j nul ≠ s) (h2 : l.getD k nul = s) : ixF l s = k := by
  have hm : s ∈ l := by
    rw [← h2, List.getD_eq_getElem?_getD, List.getElem?_eq_getElem hk]
    exact List.getElem_mem hk
  rcases Nat.lt_trichotomy (ixF l s) k with h | h | h
  · exact absurd (ixF_at hm) (h1 _ h)
  · exact h
  · exact absurd h2 (ixF_not h)
theorem ixF_none {l : List By} {s : By} (h : ∀ j, j < l.length → l.getD j nul ≠ s) : ixF l s = l.length := by
  rcases Nat.lt_or_eq_of_le (ixF_le l s) with h1 | h1
  · exact absurd (ixF_at (ixF_mem h1)) (h _ h1)
  · exact h1
theorem ixF_inj {l : List By} {a b : By} (ha : a ∈ l) (hb : b ∈ l) (h : ixF l a = ixF l b) : a = b := by rw [← ixF_at ha, h, ixF_at hb]
theorem mem_ix {l : List By} {s : By} : s ∈ l ↔ ixF l s < l.length := ⟨ixF_lt, ixF_mem⟩
/-- all different -/
def Dif (l : List By) : Prop := l.Pairwise (· ≠ ·)
theorem Dif.ix {l : List By} (h : Dif l) {k : Nat} (hk : k < l.length) : ixF l (l.getD k nul) = k := by
  refine ixF_of hk (fun j hj => ?_) rfl
  rw [List.getD_eq_getElem?_getD, List.getD_eq_getElem?_getD, List.getElem?_eq_getElem hk, List.getElem?_eq_getElem (Nat.lt_trans hj hk)]
  exact List.pairwise_iff_getElem.1 h j k (Nat.lt_trans hj hk) hk hj
/-- a precedence -/
def precP (nm : By → Bool) (ops : List By) : Bool := decide (ops.length ≤ 100) && (List.range ops.length).all fun i => nm (ops.getD i nul) && !decide (ops.getD i nul ∈ ops.take i)
theorem precP_iff (nm : By → Bool) (ops : List By) : precP nm ops = true ↔ ops.length ≤ 100 ∧ (∀ s ∈ ops, nm s = true) ∧ Dif ops := by
  unfold precP
  rw [Bool.and_eq_true, decide_eq_true_eq, List.all_eq_true]
  refine and_congr_right fun _ => ?_
  have hget : ∀ i, (h : i < ops.length) → ops.getD i nul = ops[i] := fun i h => by rw [List.getD_eq_getElem?_getD, List.getElem?_eq_getElem h]; rfl
  constructor
  · intro h
    have h' : ∀ i, (hi : i < ops.length) → nm ops[i] = true ∧ ops[i] ∉ ops.take i := fun i hi => by
      have := h i (List.mem_range.2 hi)
      rw [Bool.and_eq_true, Bool.not_eq_true', decide_eq_false_iff_not, hget i hi] at this
      exact this
    refine ⟨fun s hs => ?_, List.pairwise_iff_getElem.2 fun i j hi hj hij e => ?_⟩
    · obtain ⟨i, hi, rfl⟩ := List.mem_iff_getElem.1 hs
      exact (h' i hi).1
    · refine (h' j hj).2 ?_
      rw [← e, List.mem_take_iff_getElem]
      exact ⟨i, by omega, rfl⟩
  · rintro ⟨h1, h2⟩ i hi
    have hi := List.mem_range.1 hi
    rw [Bool.and_eq_true, Bool.not_eq_true', decide_eq_false_iff_not, hget i hi]
    refine ⟨h1 _ (List.getElem_mem hi), fun hm => ?_⟩
    obtain ⟨j, hj, e⟩ := List.mem_take_iff_getElem.1 hm
    exact List.pairwise_iff_getElem.1 h2 j i (by omega) hi (by omega) e
theorem precP_stop {nm : By → Bool} {ops : List By} {k : Nat} (hk : k < ops.length) (h : nm (ops.getD k nul) = false ∨ ops.getD k nul ∈ ops.take k) : precP nm ops = false := by
  rw [Bool.eq_false_iff]
  intro h2
  obtain ⟨_, h3, h4⟩ := (precP_iff nm ops).1 h2
  rw [List.getD_eq_getElem?_getD, List.getElem?_eq_getElem hk] at h
  rcases h with h | h
  · rw [Option.getD_some, h3 _ (List.getElem_mem hk)] at h; cases h
  · obtain ⟨j, hj, e⟩ := List.mem_take_iff_getElem.1 h
    exact List.pairwise_iff_getElem.1 h4 j k (by omega) hk (by omega) e
/-! ### operations -/
def opN (t : Tm) : List By := (sbts t).filterMap fun x => if x.sort = nul then some x.name else none
theorem opN_mk (n s : By) (L : List Tm) : opN (.mk n s L) = (if s = nul then [n] else []) ++ L.flatMap opN := by
  unfold opN
  rw [sbts_eq, List.filterMap_cons]
  have h : ∀ M : List Tm, (M.flatMap sbts).filterMap (fun x => if x.sort = nul then some x.name else none) = M.flatMap (fun t => (sbts t).filterMap fun x => if x.sort = nul then some x.name else none) := by
    intro M
    induction M with
    | nil => rfl
    | cons a M ih => rw [List.flatMap_cons, List.filterMap_append, ih, List.flatMap_cons]
  have h2 : (Tm.mk n s L).kids.flatMap sbts = L.flatMap sbts := rfl
  rw [h2, h]
  by_cases hs : s = nul
  · have h3 : (Tm.mk n s L).sort = nul := hs
    rw [if_pos h3, if_pos hs]; rfl
  · have h3 : ¬ (Tm.mk n s L).sort = nul := hs
    rw [if_neg h3, if_neg hs]; rfl
theorem opN_len (t : Tm) : (opN t).length ≤ t.size := by
  have h1 : (opN t).length ≤ (sbts t).length := List.length_filterMap_le _ _
  have h2 : (sbts t).length = t.size := by rw [sbts, List.length_map, nodesD_len]
  omega
theorem mem_opN {t : Tm} {s : By} : s ∈ opN t ↔ ∃ x ∈ sbts t, x.sort = nul ∧ x.name = s := by
  unfold opN
  rw [List.mem_filterMap]
  constructor
  · rintro ⟨x, hx, h⟩
    split at h
    · injection h with h
      exact ⟨x, hx, by assumption, h⟩
    · cases h
  · rintro ⟨x, hx, h1, h2⟩
    exact ⟨x, hx, by rw [if_pos h1, h2]⟩
def knowsP (ops : List By) (t : Tm) : Bool := (opN t).all fun s => decide (s ∈ ops)
theorem knowsP_iff {ops : List By} {t : Tm} : knowsP ops t = true ↔ ∀ s ∈ opN t, s ∈ ops := by
  unfold knowsP
  rw [List.all_eq_true]
  exact ⟨fun h s hs => of_decide_eq_true (h s hs), fun h s hs => decide_eq_true (h s hs)⟩
/-- as the reference gathers them -/
def aIns (l : List By) (s : By) : List By := if s ∈ l then l else l ++ [s]
def aFold (l ss : List By) : List By := ss.foldl aIns l
theorem aFold_append (l a b : List By) : aFold l (a ++ b) = aFold (aFold l a) b := by unfold aFold; rw [List.foldl_append]
theorem mem_aIns {l : List By} {s x : By} : x ∈ aIns l s ↔ x ∈ l ∨ x = s := by
  unfold aIns
  by_cases h : s ∈ l
  · rw [if_pos h]
    exact ⟨.inl, fun h2 => h2.elim id (fun e => e ▸ h)⟩
  · rw [if_neg h, List.mem_append, List.mem_singleton]
theorem mem_aFold {x : By} : ∀ {ss l : List By}, x ∈ aFold l ss ↔ x ∈ l ∨ x ∈ ss
  | [], l => by simp [aFold]
  | s :: ss, l => by
    have ih := mem_aFold (x := x) (ss := ss) (l := aIns l s)
    unfold aFold at ih ⊢
    rw [List.foldl_cons, ih, mem_aIns, List.mem_cons, or_assoc]
theorem aIns_dif {l : List By} {s : By} (h : Dif l) : Dif (aIns l s) := by
  unfold aIns
  by_cases hs : s ∈ l
  · rw [if_pos hs]; exact h
  · rw [if_neg hs]
    exact List.pairwise_append.2 ⟨h, List.pairwise_singleton _ _, fun a ha b hb e => hs (by rw [List.mem_singleton] at hb; rw [← hb, ← e]; exact ha)⟩
theorem aFold_dif : ∀ {ss l : List By}, Dif l → Dif (aFold l ss)
  | [], l, h => h
  | s :: ss, l, h => aFold_dif (ss := ss) (aIns_dif h)
theorem aIns_len (l : List By) (s : By) : (aIns l s).length ≤ l.length + 1 := by
  unfold aIns
  split
  · omega
  · simp
theorem aFold_len : ∀ (ss l : List By), (aFold l ss).length ≤ l.length + ss.length
  | [], l => by simp [aFold]
  | s :: ss, l => by
    have ih := aFold_len ss (aIns l s)
    have h1 := aIns_len l s
    unfold aFold at ih ⊢
    rw [List.foldl_cons, List.length_cons]
    omega
/-- as the program gathers them: ascending -/
abbrev Ris (l : List By) : Prop := l.Pairwise fun a b => blt a b = true
def lowF (l : List By) (s : By) : Nat := l.findIdx fun x => !blt x s
def sIns (l : List By) (s : By) : List By := if s ∈ l then l else l.take (lowF l s) ++ s :: l.drop (lowF l s)
theorem mem_sIns {l : List By} {s x : By} : x ∈ sIns l s ↔ x ∈ l ∨ x = s := by
  unfold sIns
  by_cases h : s ∈ l
  · rw [if_pos h]
    exact ⟨.inl, fun h2 => h2.elim id (fun e => e ▸ h)⟩
  · rw [if_neg h, List.mem_append, List.mem_cons]
    have h1 : x ∈ l ↔ x ∈ l.take (lowF l s) ∨ x ∈ l.drop (lowF l s) := by rw [← List.mem_append, List.take_append_drop]
    rw [h1]
    constructor
    · rintro (h | h | h)
      · exact .inl (.inl h)
      · exact .inr h
      · exact .inl (.inr h)
    · rintro ((h | h) | h)
      · exact .inl h
      · exact .inr (.inr h)
      · exact .inr (.inl h)
theorem low_take {l : List By} {s x : By} (h : x ∈ l.take (lowF l s)) : blt x s = true := by
  obtain ⟨j, hj, rfl⟩ := List.mem_take_iff_getElem.1 h
  have := List.not_of_lt_findIdx (show j < lowF l s by omega)
  simpa using this
theorem low_drop {l : List By} {s x : By} (hl : Ris l) (hs : s ∉ l) (h : x ∈ l.drop (lowF l s)) : blt s x = true := by
  obtain ⟨j, hj, rfl⟩ := List.mem_drop_iff_getElem.1 h
  have h0 : lowF l s < l.length := by omega
  have h1 : (!blt l[lowF l s] s) = true := List.findIdx_getElem (p := fun x => !blt x s) (w := h0)
  have h2 : blt l[lowF l s] s = false := by simpa using h1
  have h3 : blt s l[lowF l s] = true := by
    rcases blt_tri s l[lowF l s] (fun e => hs (by rw [e]; exact List.getElem_mem h0)) with h | h
    · exact h
    · rw [h2] at h; cases h
  rcases Nat.eq_zero_or_pos j with rfl | hp
  · simpa using h3
  · have h5 := List.pairwise_iff_getElem.1 hl (lowF l s) (j + lowF l s) h0 (by omega) (by omega)
    have h6 : l[lowF l s + j]'(by omega) = l[j + lowF l s]'(by omega) := by congr 1; omega
    first
      | exact blt_trans h3 h5
      | (rw [h6]; exact blt_trans h3 h5)
theorem sIns_ris {l : List By} {s : By} (h : Ris l) : Ris (sIns l s) := by
  unfold sIns
  by_cases hs : s ∈ l
  · rw [if_pos hs]; exact h
  · rw [if_neg hs]
    refine List.pairwise_append.2 ⟨List.Pairwise.sublist (List.take_sublist _ _) h, List.pairwise_cons.2 ⟨fun x hx => low_drop h hs hx, List.Pairwise.sublist (List.drop_sublist _ _) h⟩, fun a ha b hb => ?_⟩
    have h1 := low_take ha
    rcases List.mem_cons.1 hb with rfl | hb
    · exact h1
    · exact blt_trans h1 (low_drop h hs hb)
def sFoldO (l ss : List By) : List By := ss.foldl sIns l
theorem sFoldO_append (l a b : List By) : sFoldO l (a ++ b) = sFoldO (sFoldO l a) b := by unfold sFoldO; rw [List.foldl_append]
theorem mem_sFoldO {x : By} : ∀ {ss l : List By}, x ∈ sFoldO l ss ↔ x ∈ l ∨ x ∈ ss
  | [], l => by simp [sFoldO]
  | s :: ss, l => by
    have ih := mem_sFoldO (x := x) (ss := ss) (l := sIns l s)
    unfold sFoldO at ih ⊢
    rw [List.foldl_cons, ih, mem_sIns, List.mem_cons, or_assoc]
theorem sFoldO_ris : ∀ {ss l : List By}, Ris l → Ris (sFoldO l ss)
  | [], l, h => h
  | s :: ss, l, h => sFoldO_ris (ss := ss) (sIns_ris h)
theorem sIns_len (l : List By) (s : By) : (sIns l s).length ≤ l.length + 1 := by
  unfold sIns
  split
  · omega
  · rw [List.length_append, List.length_cons, List.length_take, List.length_drop]; omega
theorem sFoldO_len : ∀ (ss l : List By), (sFoldO l ss).length ≤ l.length + ss.length
  | [], l => by simp [sFoldO]
  | s :: ss, l => by
    have ih := sFoldO_len ss (sIns l s)
    have h1 := sIns_len l s
    unfold sFoldO at ih ⊢
    rw [List.foldl_cons, List.length_cons]
    omega
theorem ris_ext : ∀ {l m : List By}, Ris l → Ris m → (∀ x, x ∈ l ↔ x ∈ m) → l = m
  | [], [], _, _, _ => rfl
  | [], b :: m, _, _, h => absurd ((h b).2 (List.mem_cons_self ..)) (by simp)
  | a :: l, [], _, _, h => absurd ((h a).1 (List.mem_cons_self ..)) (by simp)
  | a :: l, b :: m, h1, h2, h => by
    obtain ⟨a1, a2⟩ := List.pairwise_cons.1 h1
    obtain ⟨b1, b2⟩ := List.pairwise_cons.1 h2
    have e : a = b := by
      rcases List.mem_cons.1 ((h a).1 (List.mem_cons_self ..)) with e | e
      · exact e
      · rcases List.mem_cons.1 ((h b).2 (List.mem_cons_self ..)) with e2 | e2
        · exact e2.symm
        · have h3 := blt_trans (a1 b e2) (b1 a e)
          rw [blt_irrefl] at h3; cases h3
    subst e
    rw [ris_ext a2 b2 (fun x => ?_)]
    have hx := h x
    rw [List.mem_cons, List.mem_cons] at hx
    constructor
    · intro hl
      rcases hx.1 (.inr hl) with e | e
      · have := a1 x hl
        rw [e, blt_irrefl] at this; cases this
      · exact e
    · intro hl
      rcases hx.2 (.inr hl) with e | e
      · have := b1 x hl
        rw [e, blt_irrefl] at this; cases this
      · exact e
theorem Ris.dif {l : List By} (h : Ris l) : Dif l := List.Pairwise.imp (fun {a b} hab e => by rw [e, blt_irrefl] at hab; cases hab) h
/-! ### rules -/
abbrev Rl := Tm × Tm
def decP (ops : List By) (r : Rl) : Bool := gt (ixF ops) r.1 r.2
/-- the first rule that does not decrease -/
def firstP (ops : List By) (l : List Rl) : Nat := l.findIdx fun r => !decP ops r
def allDec (ops : List By) (l : List Rl) : Bool := l.all (decP ops)
theorem firstP_all (ops : List By) (l : List Rl) : decide (firstP ops l < l.length) = !allDec ops l := by
  rw [Bool.eq_iff_iff, decide_eq_true_eq, Bool.not_eq_true', Bool.eq_false_iff, ne_eq]
  unfold firstP allDec
  rw [List.findIdx_lt_length, List.all_eq_true]
  constructor
  · rintro ⟨x, hx, h⟩ h2
    rw [h2 x hx] at h; cases h
  · intro h
    refine Classical.byContradiction fun h2 => h fun x hx => ?_
    cases h3 : decP ops x
    · exact absurd ⟨x, hx, by rw [h3]; rfl⟩ h2
    · rfl
/-- the first order of the rest of some names after a beginning -/
def searchP (l : List Rl) : Nat → List By → List By → Option (List By)
  | 0, b, _ => if allDec b l = true then some b else none
  | n + 1, b, rest => (List.range (n + 1)).findSome? fun i => searchP l n (b ++ [rest.getD i nul]) (rest.eraseIdx i)
theorem erase_perm {α : Type} : ∀ (l : List α) (i : Nat) (h : i < l.length), (([l[i]] ++ l.eraseIdx i)).Perm l
  | a :: l, 0, _ => List.Perm.refl _
  | a :: l, i + 1, h => by
    have ih := erase_perm l i (by simpa using h)
    simp only [List.getElem_cons_succ, List.eraseIdx_cons_succ, List.singleton_append] at ih ⊢
    exact (List.Perm.swap _ _ _).trans (ih.cons a)
theorem searchP_some {l : List Rl} : ∀ {n : Nat} {b rest out : List By}, rest.length = n → searchP l n b rest = some out → allDec out l = true ∧ out.Perm (b ++ rest)
  | 0, b, rest, out, hn, h => by
    unfold searchP at h
    have : rest = [] := List.eq_nil_of_length_eq_zero hn
    subst this
    split at h
    · rename_i h2
      injection h with h
      subst h
      exact ⟨h2, by rw [List.append_nil]⟩
    · cases h
  | n + 1, b, rest, out, hn, h => by
    unfold searchP at h
    obtain ⟨i, hi, h⟩ := List.exists_of_findSome?_eq_some h
    have hi := List.mem_range.1 hi
    have hir : i < rest.length := by omega
    obtain ⟨h1, h2⟩ := searchP_some (by rw [List.length_eraseIdx_of_lt hir, hn]; rfl) h
    refine ⟨h1, h2.trans ?_⟩
    rw [List.append_assoc]
    refine List.Perm.append_left b ?_
    have : rest.getD i nul = rest[i] := by rw [List.getD_eq_getElem?_getD, List.getElem?_eq_getElem hir]; rfl
    rw [this]
    exact erase_perm rest i hir
end Go.Hw

/- Lists of lists in memory. -/
namespace Go.Hw
open Go.RowKit Tm
set_option linter.unusedVariables false
set_option linter.unusedSimpArgs false
abbrev natV (k : Nat) : Value := .int .i64 (k : Int)
theorem SlR.one_at {β : Type} {enc : β → Value} {d : β} {S : Nat → Prop} {w : World} {a : Option Addr} {n cap : Nat} {l : List β} (h : SlR S w 1 (.slice a n cap) l.length (l.map enc)) (hl : 0 < l.length) :
    ∃ g off, a = some ⟨g, off, none⟩ ∧ S g ∧ ∀ i, i < l.length → w.cell? ⟨g, off + i, none⟩ = some (enc (l.getD i d)) := by
  obtain ⟨g, off, c, e, _, hS, hj⟩ := SlR.pos h hl
  injection e with e1 e2 e3
  refine ⟨g, off, e1, hS, fun i hi => ?_⟩
  rw [hj i (by omega), List.getElem?_map, List.getElem?_eq_getElem hi, List.getD_eq_getElem?_getD, List.getElem?_eq_getElem hi]
  rfl
/-- a list of lists that is read -/
def LlR {β : Type} (enc : β → Value) (S : Nat → Prop) (w : World) (v : Value) (LL : List (List β)) : Prop :=
  ∃ us : List Value, us.length = LL.length ∧ SlR S w 1 v LL.length us ∧ ∀ i, i < LL.length → SlR S w 1 (ug us i) (LL.getD i []).length ((LL.getD i []).map enc)
section
variable {β : Type} {enc : β → Value} {S T F : Nat → Prop} {w w' : World} {v : Value} {LL : List (List β)}
theorem LlR.shape (h : LlR enc S w v LL) : ∃ a cap, v = .slice a LL.length cap := by
  obtain ⟨us, _, h, _⟩ := h
  exact h.shape
theorem LlR.kept (h : LlR enc S w v LL) (hu : Upd F w w') (hF : ∀ k, S k → ¬ F k) : LlR enc S w' v LL := by
  obtain ⟨us, h1, h2, h3⟩ := h
  exact ⟨us, h1, h2.kept hu hF, fun i hi => (h3 i hi).kept hu hF⟩
theorem LlR.ext (h : LlR enc S w v LL) (hu : Ext w w') : LlR enc S w' v LL := h.kept hu (fun _ _ h => h)
theorem LlR.weaken (h : LlR enc S w v LL) (hs : ∀ k, S k → T k) : LlR enc T w v LL := by
  obtain ⟨us, h1, h2, h3⟩ := h
  exact ⟨us, h1, h2.weaken hs, fun i hi => (h3 i hi).weaken hs⟩
theorem LlR.at_ {a : Option Addr} {n cap : Nat} (h : LlR enc S w (.slice a n cap) LL) (hl : 0 < LL.length) :
    ∃ g off, a = some ⟨g, off, none⟩ ∧ S g ∧ ∀ i, i < LL.length → ∃ a' cap', w.cell? ⟨g, off + i, none⟩ = some (.slice a' (LL.getD i []).length cap') ∧ SlR S w 1 (.slice a' (LL.getD i []).length cap') (LL.getD i []).length ((LL.getD i []).map enc) := by
  obtain ⟨us, h1, h2, h3⟩ := h
  obtain ⟨g, off, c, e, _, hS, hj⟩ := h2.pos hl
  injection e with e1 e2 e3
  refine ⟨g, off, e1, hS, fun i hi => ?_⟩
  have h4 := h3 i hi
  obtain ⟨a', cap', e'⟩ := h4.shape
  rw [e'] at h4
  refine ⟨a', cap', ?_, h4⟩
  rw [hj i (by omega), ← e']
  unfold ug
  rw [List.getD_eq_getElem?_getD, List.getElem?_eq_getElem (by omega)]
  rfl
end
theorem ng_map1 (N : List Nt) (i : Nat) (h : i < N.length) : tg (N.map (·.1)) i = (ng N i).1 := by
  unfold tg ng
  rw [List.getD_eq_getElem?_getD, List.getD_eq_getElem?_getD, List.getElem?_map, List.getElem?_eq_getElem h]
  rfl
theorem ng_map2 (N : List Nt) (i : Nat) (h : i < N.length) : (N.map (·.2)).getD i [] = (ng N i).2 := by
  unfold ng
  rw [List.getD_eq_getElem?_getD, List.getD_eq_getElem?_getD, List.getElem?_map, List.getElem?_eq_getElem h]
  rfl
/-- the parts by their numbers -/
theorem Num.part {N : List Nt} (h : Num N) {i : Nat} (hi : i < N.length) {k : Nat} (hk : k < (ng N i).2.length) : (ng N i).2.getD k 0 < i ∧ (ng N ((ng N i).2.getD k 0)).1 = tg (ng N i).1.kids k := by
  have h1 := h.map i hi
  have h2 := h.kid i hi
  generalize (ng N i).2 = ks at *
  generalize (ng N i).1.kids = L at *
  have hg : ks.getD k 0 = ks[k] := by rw [List.getD_eq_getElem?_getD, List.getElem?_eq_getElem hk]; rfl
  refine ⟨h2 _ (by rw [hg]; exact List.getElem_mem hk), ?_⟩
  rw [hg, ← h1]
  show _ = (ks.map (fun k => (ng N k).1)).getD k default
  rw [List.getD_eq_getElem?_getD, List.getElem?_map, List.getElem?_eq_getElem hk]
  rfl
theorem Num.len {N : List Nt} (h : Num N) {i : Nat} (hi : i < N.length) : (ng N i).2.length = (ng N i).1.kids.length := by rw [← h.map i hi, List.length_map]
theorem not_cov_of {r : By → Nat} {s t : Tm} (h : ∀ j, j < s.kids.length → ¬ (tg s.kids j = t ∨ gt r (tg s.kids j) t = true)) : ¬ Cov r s t := by
  rintro ⟨k, hk, h2⟩
  obtain ⟨i, hi, rfl⟩ := List.mem_iff_getElem.1 hk
  have h3 : tg s.kids i = s.kids[i] := by unfold tg; rw [List.getD_eq_getElem?_getD, List.getElem?_eq_getElem hi]; rfl
  exact h i hi (by rw [h3]; exact h2)
theorem all_of_tg {P : Tm → Prop} {L : List Tm} (h : ∀ j, j < L.length → P (tg L j)) : ∀ k ∈ L, P k := by
  intro k hk
  obtain ⟨i, hi, rfl⟩ := List.mem_iff_getElem.1 hk
  have h3 : tg L i = L[i] := by unfold tg; rw [List.getD_eq_getElem?_getD, List.getElem?_eq_getElem hi]; rfl
  rw [← h3]
  exact h i hi
theorem tg_in {L : List Tm} {k : Nat} (h : k < L.length) : tg L k ∈ L := by
  unfold tg; rw [List.getD_eq_getElem?_getD, List.getElem?_eq_getElem h]; exact List.getElem_mem h
abbrev bt (T : List (List Bool)) (p q : Nat) : Bool := (T.getD p []).getD q false
end Go.Hw

/- Terms in memory of one's own: no block stands twice in one. What a store at a path leaves. -/
namespace Go.Hw
open Go.RowKit Tm
set_option linter.unusedVariables false
set_option linter.unusedSimpArgs false
/-- a list of terms in blocks of its own -/
inductive TlO (te : TypeId) (w : World) : (Nat → Prop) → List Tm → Value → Prop
  | mk (B : Nat → Prop) (L : List Tm) (us : List Value) (v : Value) (Bk : Nat → Nat → Prop)
      (hl : us.length = L.length) (hown : w.ownsRow 0 te 3 v L.length (tCells L us))
      (hb : ∀ k, v.ownBlock = some k → B k) (hkb : ∀ i k, i < L.length → Bk i k → B k)
      (hrow : ∀ i k, i < L.length → Bk i k → v.ownBlock ≠ some k)
      (hdis : ∀ i j k, i < L.length → j < L.length → i ≠ j → Bk i k → ¬ Bk j k)
      (hk : ∀ i, i < L.length → TlO te w (Bk i) (tg L i).kids (ug us i)) : TlO te w B L v
section
variable {te : TypeId} {w w' : World} {B B' F S : Nat → Prop} {L : List Tm} {v : Value}
theorem TlO.nil (te : TypeId) (w : World) (B : Nat → Prop) : TlO te w B [] nilS :=
  ⟨B, [], [], nilS, fun _ _ => False, rfl, ⟨rfl, .inl ⟨rfl, rfl⟩⟩, fun k h => by simp [Value.ownBlock] at h, fun i k h => absurd h (Nat.not_lt_zero _), fun i k h => absurd h (Nat.not_lt_zero _), fun i j k h => absurd h (Nat.not_lt_zero _), fun i h => absurd h (Nat.not_lt_zero _)⟩
theorem TlO.weaken (h : TlO te w B L v) (hB : ∀ k, B k → B' k) : TlO te w B' L v := by
  cases h with
  | mk _ _ us _ Bk hl hown hb hkb hrow hdis hk => exact ⟨B', L, us, v, Bk, hl, hown, fun k h => hB k (hb k h), fun i k hi h => hB k (hkb i k hi h), hrow, hdis, hk⟩
theorem TlO.kept (h : TlO te w B L v) (hu : Upd F w w') (hF : ∀ k, B k → ¬ F k) : TlO te w' B L v := by
  induction h with
  | mk B L us v Bk hl hown hb hkb hrow hdis hk ih =>
    exact ⟨B, L, us, v, Bk, hl, own_kept hown hu (fun k hk => hF k (hb k hk)), hb, hkb, hrow, hdis, fun i hi => ih i hi (fun k hk2 => hF k (hkb i k hi hk2))⟩
theorem TlO.read (h : TlO te w B L v) : TlR B w L v := by
  induction h with
  | mk B L us v Bk hl hown hb hkb hrow hdis hk ih =>
    exact .mk L us v hl ((SlR.of_own hown).weaken hb) (fun i hi => (ih i hi).weaken (fun k hk2 => hkb i k hi hk2))
end
/-- where a path leads -/
def okP : Tm → List Nat → Prop
  | _, [] => True
  | t, i :: p => i < t.kids.length ∧ okP (tg t.kids i) p
def tmAt : Tm → List Nat → Tm
  | t, [] => t
  | t, i :: p => tmAt (tg t.kids i) p
theorem sub_of : ∀ (p : List Nat) (t : Tm), okP t p → subAt t p = some (tmAt t p)
  | [], t, _ => rfl
  | i :: p, t, h => by
    unfold subAt tmAt
    have e : t.kids[i]? = some (tg t.kids i) := by
      unfold tg
      rw [List.getD_eq_getElem?_getD, List.getElem?_eq_getElem h.1]
      rfl
    rw [e, Option.bind_some]
    exact sub_of p _ h.2
/-- the address at a path, from the address of a term -/
def AdrP (w : World) : List Nat → Nat × Nat → Nat × Nat → Prop
  | [], a, a' => a' = a
  | i :: p, a, a' => ∃ g off n c, w.cell? ⟨a.1, a.2 + 2, none⟩ = some (.slice (some ⟨g, off, none⟩) n c) ∧ AdrP w p (g, off + i * 3) a'
/-- a term stored at an address -/
def st3 (w : World) (a : Nat × Nat) (n s : By) (u : Value) : World := ((w.setCell ⟨a.1, a.2, none⟩ (.string n)).setCell ⟨a.1, a.2 + 1, none⟩ (.string s)).setCell ⟨a.1, a.2 + 2, none⟩ u
theorem st3_upd (w : World) (a : Nat × Nat) (n s : By) (u : Value) : Upd (fun k => k = a.1) w (st3 w a n s u) :=
  (((Upd.refl (fun k => k = a.1) w).setCell (p := ⟨a.1, a.2, none⟩) (.inl rfl) _).setCell (p := ⟨a.1, a.2 + 1, none⟩) (.inl rfl) _).setCell (p := ⟨a.1, a.2 + 2, none⟩) (.inl rfl) _
theorem own_setN {w : World} {b : Nat} {e : TypeId} {g cap n size : Nat} {xs : List Value} (h : w.ownsRow b e size (.slice (some ⟨g, 0, none⟩) n cap) n xs) (j : Nat) (u : Value) :
    (w.setCell ⟨g, j, none⟩ u).ownsRow b e size (.slice (some ⟨g, 0, none⟩) n cap) n (xs.set j u) := by
  obtain ⟨h1, ⟨e0, _⟩ | ⟨g', cap', cur, e0, h3, h4, h5, h6, h7, h8⟩⟩ := h
  · cases e0
  · injection e0 with e1 e2 e3
    injection e1 with e1
    injection e1 with e1
    subst e1; subst e3
    refine ⟨by rw [List.length_set]; exact h1, .inr ⟨g, cap, _, rfl, h3, setBlock h4 j u, h5, h6, by rw [Array.size_setIfInBounds]; exact h7, ?_⟩⟩
    rw [← h8, Array.toList_setIfInBounds, List.take_set]
theorem tCells_set : ∀ (L : List Tm) (us : List Value) (i : Nat) (y : Tm) (u : Value), us.length = L.length → i < L.length → (((tCells L us).set (i * 3) (.string y.name)).set (i * 3 + 1) (.string y.sort)).set (i * 3 + 2) u = tCells (L.set i y) (us.set i u)
  | t :: L, a :: us, 0, y, u, _, _ => rfl
  | t :: L, a :: us, i + 1, y, u, hl, hi => by
    have ih := tCells_set L us i y u (by simpa using hl) (by simpa using hi)
    rw [show (i + 1) * 3 = i * 3 + 1 + 1 + 1 by omega]
    simp only [tCells, List.headD_cons, List.tail_cons, List.set_cons_succ, ← ih]
theorem tCells_same : ∀ (L : List Tm) (us : List Value) (i : Nat) (y : Tm), y.name = (tg L i).name → y.sort = (tg L i).sort → tCells (L.set i y) us = tCells L us
  | [], _, _, _, _, _ => rfl
  | t :: L, us, 0, y, h1, h2 => by
    simp only [List.set_cons_zero, tCells]
    rw [show y.name = t.name from h1, show y.sort = t.sort from h2]
  | t :: L, us, i + 1, y, h1, h2 => by
    simp only [List.set_cons_succ, tCells]
    rw [tCells_same L us.tail i y h1 h2]
theorem tg_set (L : List Tm) (i j : Nat) (y : Tm) (hi : i < L.length) : tg (L.set i y) j = if i = j then y else tg L j := by
  unfold tg
  rw [List.getD_eq_getElem?_getD, List.getElem?_set]
  by_cases h : i = j
  · subst h
    rw [if_pos rfl, if_pos rfl, if_pos hi]; rfl
  · rw [if_neg h, if_neg h, List.getD_eq_getElem?_getD]
theorem ug_set (us : List Value) (i j : Nat) (u : Value) (hi : i < us.length) : ug (us.set i u) j = if i = j then u else ug us j := by
  unfold ug
  rw [List.getD_eq_getElem?_getD, List.getElem?_set]
  by_cases h : i = j
  · subst h
    rw [if_pos rfl, if_pos rfl, if_pos hi]; rfl
  · rw [if_neg h, if_neg h, List.getD_eq_getElem?_getD]
theorem own_row0 {w : World} {b : Nat} {e : TypeId} {size n : Nat} {v : Value} {xs : List Value} (h : w.ownsRow b e size v n xs) (hn : 0 < n) : ∃ g cap cur, v = .slice (some ⟨g, 0, none⟩) n cap ∧ w.heap[g]? = some (.cells cur e (0, 0)) ∧ n * size ≤ cur.size := by
  rcases h.2 with ⟨_, h2⟩ | ⟨g, cap, cur, rfl, hb, hg, hc, hm, hs, ht⟩
  · omega
  · exact ⟨g, cap, cur, rfl, hg, by rw [hs]; exact Nat.mul_le_mul_right _ hc⟩
theorem put_list {te : TypeId} {w : World} (y : Tm) (u : Value) (S : Nat → Prop) (hy : TlR S w y.kids u) : ∀ (p : List Nat) (i : Nat) (L : List Tm) (v : Value) (B : Nat → Prop) (g n c : Nat) (a : Nat × Nat), TlO te w B L v → (∀ k, S k → ¬ B k) → v = .slice (some ⟨g, 0, none⟩) n c → i < L.length → okP (tg L i) p → AdrP w p (g, i * 3) a →
    B a.1 ∧ (∃ cur, w.heap[a.1]? = some (.cells cur te (0, 0)) ∧ a.2 + 2 < cur.size) ∧ TlR (fun k => B k ∨ S k) (st3 w a y.name y.sort u) (L.set i (putAt (tg L i) p y)) v
  | [], i, L, v, B, g, n, c, a, h, hS, hv, hi, hp, ha => by
    have ha : a = (g, i * 3) := ha
    subst ha
    cases h with
    | mk _ _ us _ Bk hl hown hb hkb hrow hdis hk =>
      obtain ⟨g', cap, cur, hv', hg, hsz⟩ := own_row0 hown (by omega)
      rw [hv] at hv'
      injection hv' with e1 e2 e3
      injection e1 with e1
      injection e1 with e1
      subst e1
      have hBg : B g := hb g (by rw [hv]; rfl)
      refine ⟨hBg, ⟨cur, hg, by show i * 3 + 2 < _; omega⟩, ?_⟩
      have hU := st3_upd w (g, i * 3) y.name y.sort u
      have hown2 : (st3 w (g, i * 3) y.name y.sort u).ownsRow 0 te 3 v L.length (tCells (L.set i y) (us.set i u)) := by
        rw [← tCells_set L us i y u hl hi]
        rw [hv, e2] at hown ⊢
        exact own_setN (own_setN (own_setN hown _ _) _ _) _ _
      have e4 : putAt (tg L i) [] y = y := by cases tg L i; rfl
      rw [e4]
      refine .mk _ (us.set i u) v (by simp [hl]) (by rw [List.length_set]; exact (SlR.of_own hown2).weaken (fun k hk => .inl (hb k hk))) (fun j hj => ?_)
      rw [List.length_set] at hj
      rw [tg_set L i j y hi, ug_set us i j u (by omega)]
      by_cases hij : i = j
      · rw [if_pos hij, if_pos hij]
        exact (hy.kept hU (fun k hk e => hS k hk (by rw [show k = g from e]; exact hBg))).weaken (fun k hk => .inr hk)
      · rw [if_neg hij, if_neg hij]
        exact ((hk j hj).kept hU (fun k hk e => hrow j k hj hk (by rw [hv, show k = g from e]; rfl))).read.weaken (fun k hk => .inl (hkb j k hj hk))
  | i' :: p, i, L, v, B, g, n, c, a, h, hS, hv, hi, hp, ha => by
    cases h with
    | mk _ _ us _ Bk hl hown hb hkb hrow hdis hk =>
      obtain ⟨g', cap, cur, hv', hg, hsz⟩ := own_row0 hown (by omega)
      have hv2 := hv
      rw [hv] at hv'
      injection hv' with e1 e2 e3
      injection e1 with e1
      injection e1 with e1
      subst e1
      obtain ⟨g2, off2, n2, c2, hc2, ha2⟩ := ha
      have hcell : w.cell? ⟨g, i * 3 + 2, none⟩ = some (ug us i) := by
        have h1 := SlR.cellAt (SlR.of_own hown) (g := g) (off := 0) (by rw [hv]) (j := i * 3 + 2) (by omega)
        rw [Nat.zero_add] at h1
        rw [h1]
        exact (tCells_at L us i hi).2.2
      rw [hcell] at hc2
      injection hc2 with hc2
      have hki := hk i hi
      have hoff : off2 = 0 := by
        have h0 : 0 < (tg L i).kids.length := by have := hp.1; omega
        cases hki with
        | mk _ _ us2 _ _ _ hown2 _ _ _ _ _ =>
          obtain ⟨g3, c3, cur3, hv3, _, _⟩ := own_row0 hown2 h0
          rw [hc2] at hv3
          injection hv3 with e4 _ _
          injection e4 with e4
          injection e4
      subst hoff
      obtain ⟨h1, h2, h3⟩ := put_list y u S hy p i' (tg L i).kids (ug us i) (Bk i) g2 n2 c2 a hki (fun k hk hb2 => hS k hk (hkb i k hi hb2)) hc2 hp.1 hp.2 (by rw [Nat.zero_add] at ha2; exact ha2)
      have hU := st3_upd w a y.name y.sort u
      refine ⟨hkb i _ hi h1, h2, ?_⟩
      obtain ⟨nm, so, K, hK⟩ : ∃ nm so K, tg L i = .mk nm so K := ⟨_, _, _, (eta _).symm⟩
      have e5 : putAt (tg L i) (i' :: p) y = .mk nm so (K.set i' (putAt (tg K i') p y)) := by rw [hK]; rfl
      rw [hK] at h3
      simp only [Tm.kids] at h3
      rw [e5]
      refine .mk _ us v (by simp [hl]) ?_ (fun j hj => ?_)
      · rw [List.length_set, tCells_same L us i _ (by rw [hK]; rfl) (by rw [hK]; rfl)]
        exact (SlR.kept (SlR.of_own hown) hU (fun k hk e => hrow i k hi (by rw [show k = a.1 from e]; exact h1) hk)).weaken (fun k hk => .inl (hb k hk))
      · rw [List.length_set] at hj
        rw [tg_set L i j _ hi]
        by_cases hij : i = j
        · subst hij
          rw [if_pos rfl]
          simp only [Tm.kids]
          exact h3.weaken (fun k hk => hk.elim (fun hk => .inl (hkb i k hi hk)) .inr)
        · rw [if_neg hij]
          exact ((hk j hj).kept hU (fun k hk2 e => hdis i j k hi hj hij (by rw [show k = a.1 from e]; exact h1) hk2)).read.weaken (fun k hk2 => .inl (hkb j k hj hk2))
/-- a term in a box, of one's own: what a store at a path leaves -/
theorem put_box {te : TypeId} {w : World} {b : Nat} {B S : Nat → Prop} {t y : Tm} {u0 u : Value} {p : List Nat} {a : Nat × Nat} (hb : w.heap[b]? = some (.cells #[.string t.name, .string t.sort, u0] te (0, 0))) (h : TlO te w B t.kids u0) (hbb : ¬ B b) (hy : TlR S w y.kids u) (hS : ∀ k, S k → ¬ B k ∧ k ≠ b) (hp : okP t p) (ha : AdrP w p (b, 0) a) :
    (a.1 = b ∨ B a.1) ∧ (∃ cur, w.heap[a.1]? = some (.cells cur te (0, 0)) ∧ a.2 + 2 < cur.size) ∧ ∃ u', (st3 w a y.name y.sort u).heap[b]? = some (.cells #[.string (putAt t p y).name, .string (putAt t p y).sort, u'] te (0, 0)) ∧ TlR (fun k => B k ∨ S k) (st3 w a y.name y.sort u) (putAt t p y).kids u' := by
  cases p with
  | nil =>
    have ha : a = (b, 0) := ha
    subst ha
    have e4 : putAt t [] y = y := by cases t; rfl
    rw [e4]
    refine ⟨.inl rfl, ⟨_, hb, by simp⟩, u, ?_, (hy.kept (st3_upd w (b, 0) y.name y.sort u) (fun k hk e => (hS k hk).2 e)).weaken (fun k hk => .inr hk)⟩
    have := setBlock (setBlock (setBlock hb 0 (.string y.name)) 1 (.string y.sort)) 2 u
    simpa [st3] using this
  | cons i p =>
    obtain ⟨g, off, n, c, hc, ha⟩ := ha
    have hcell : w.cell? ⟨b, 0 + 2, none⟩ = some u0 := cellRow hb 2 u0 rfl
    rw [hcell] at hc
    injection hc with hc
    have hoff : off = 0 := by
      have h0 : 0 < t.kids.length := by have := hp.1; omega
      cases h with
      | mk _ _ us2 _ _ _ hown2 _ _ _ _ _ =>
        obtain ⟨g3, c3, cur3, hv3, _, _⟩ := own_row0 hown2 h0
        rw [hc] at hv3
        injection hv3 with e4 _ _
        injection e4 with e4
        injection e4
    subst hoff
    obtain ⟨h1, h2, h3⟩ := put_list y u S hy p i t.kids u0 B g n c a h (fun k hk => (hS k hk).1) hc hp.1 hp.2 (by rw [Nat.zero_add] at ha; exact ha)
    refine ⟨.inr h1, h2, u0, ?_, ?_⟩
    · have e : (putAt t (i :: p) y).name = t.name ∧ (putAt t (i :: p) y).sort = t.sort := by cases t; exact ⟨rfl, rfl⟩
      rw [e.1, e.2]
      exact (st3_upd w a y.name y.sort u).heap hb (fun e => hbb (by rw [show b = a.1 from e]; exact h1))
    · have e : (putAt t (i :: p) y).kids = t.kids.set i (putAt (tg t.kids i) p y) := by cases t; rfl
      rw [e]
      exact h3
end Go.Hw

/- Pairs of numbers as keys of a map. -/
namespace Go.Hw
open Go.RowKit
set_option linter.unusedVariables false
set_option linter.unusedSimpArgs false
abbrev pairV (p : Nat × Nat) : Value := .agg #[natV p.1, natV p.2]
section
variable {P : Program} {kt et : TypeId} {i : TypeInfo}
theorem part_int (hk : P.underlying et = some (.int .i64)) (xs : Array Value) (o : Nat) (v : Value) (W : World) (h : xs[o]? = some v) : (part et xs o).run P W = .ok v W :=
  run_part_plain W (by unfold Program.plainKey; rw [hk]) h
theorem int_eq (he : P.underlying et = some (.int .i64)) (d : Nat) (a c : Int) (W : World) : (Op.equalIn (d + 1) et (.int .i64 a) (.int .i64 c)).run P W = .ok (a == c) W := by
  rw [Op.equalIn]
  simp only [Sem.run_bind, run_underlying he, Result.andThen_ok, if_true, Sem.run_pure]
theorem pair_eq' (hk : P.underlying kt = some (.array 2 et)) (he : P.underlying et = some (.int .i64)) (hi : P.info? et = some i) (hc : P.cellsOf et = 1) (n : Nat) (a b c d : Int) (W : World) :
    (Op.equalIn (n + 1 + 1) kt (.agg #[.int .i64 a, .int .i64 b]) (.agg #[.int .i64 c, .int .i64 d])).run P W = .ok (a == c && b == d) W := by
  have h0 := fun x y => part_int (P := P) he #[x, y] 0 x W rfl
  have h1 := fun x y => part_int (P := P) he #[x, y] 1 y W rfl
  have h2 := fun a c => int_eq (P := P) he n a c W
  rw [Op.equalIn]
  simp only [Sem.run_bind, run_underlying hk, Result.andThen_ok, run_sizeOf W hi, hc]
  simp only [Std.Legacy.Range.forIn_eq_forIn_range', Std.Legacy.Range.size, Nat.sub_zero, Nat.add_one_sub_one, Nat.div_one]
  rw [show List.range' 0 2 = [0, 1] from rfl]
  simp only [List.forIn_cons, List.forIn_nil, Sem.run_bind, Nat.mul_one, h0, h1, h2, Result.andThen_ok, Sem.run_pure]
  by_cases e1 : a = c <;> by_cases e2 : b = d <;> simp [e1, e2, h0, h1, h2, Result.andThen]
theorem pair_eq (hk : P.underlying kt = some (.array 2 et)) (he : P.underlying et = some (.int .i64)) (hi : P.info? et = some i) (hc : P.cellsOf et = 1) (a b c d : Int) (W : World) :
    (Op.equal kt (.agg #[.int .i64 a, .int .i64 b]) (.agg #[.int .i64 c, .int .i64 d])).run P W = .ok (a == c && b == d) W := pair_eq' hk he hi hc 9998 a b c d W
theorem int_check (he : P.underlying et = some (.int .i64)) (em : Bool) (d : Nat) (a : Int) (W : World) : (Instr.checkKey em (d + 1) et (.int .i64 a)).run P W = .ok () W := by
  rw [Instr.checkKey]
  simp only [Sem.run_bind, run_underlying he, Result.andThen_ok, Sem.run_pure]
theorem pair_check' (hk : P.underlying kt = some (.array 2 et)) (he : P.underlying et = some (.int .i64)) (hi : P.info? et = some i) (hc : P.cellsOf et = 1) (em : Bool) (n : Nat) (a b : Int) (W : World) :
    (Instr.checkKey em (n + 1 + 1) kt (.agg #[.int .i64 a, .int .i64 b])).run P W = .ok () W := by
  have h0 := fun x y => part_int (P := P) he #[x, y] 0 x W rfl
  have h1 := fun x y => part_int (P := P) he #[x, y] 1 y W rfl
  have h2 := fun a => int_check (P := P) he em n a W
  rw [Instr.checkKey]
  simp only [Sem.run_bind, run_underlying hk, Result.andThen_ok, run_sizeOf W hi, hc]
  simp only [Std.Legacy.Range.forIn_eq_forIn_range', Std.Legacy.Range.size, Nat.sub_zero, Nat.add_one_sub_one, Nat.div_one]
  rw [show List.range' 0 2 = [0, 1] from rfl]
  simp only [List.forIn_cons, List.forIn_nil, Sem.run_bind, run_sizeOf W hi, hc, Nat.mul_one, h0, h1, h2, Result.andThen_ok, Sem.run_pure]
theorem pair_check (hk : P.underlying kt = some (.array 2 et)) (he : P.underlying et = some (.int .i64)) (hi : P.info? et = some i) (hc : P.cellsOf et = 1) (em : Bool) (a b : Int) (W : World) :
    (Instr.checkKey em 10000 kt (.agg #[.int .i64 a, .int .i64 b])).run P W = .ok () W := pair_check' hk he hi hc em 9998 a b W
theorem nat_eq_int (a b : Nat) : ((a : Int) == (b : Int)) = decide (a = b) := by
  rw [Bool.eq_iff_iff, beq_iff_eq, decide_eq_true_eq]
  omega
theorem pairKey (hk : P.underlying kt = some (.array 2 et)) (he : P.underlying et = some (.int .i64)) (hi : P.info? et = some i) (hc : P.cellsOf et = 1) : KeyEnc P kt pairV where
  check b x W := pair_check hk he hi hc b _ _ W
  same x := by
    show Instr.sameBits (9998 + 1 + 1) _ _ = true
    simp [Instr.sameBits]
  find x es l W h := by
    rw [run_findKey_eq W (by rw [hk])]
    have : ∀ (es : List MapEntry) (l : List ((Nat × Nat) × Value)) (i : Nat), es.map (fun e => (e.key, e.val)) = l.map (fun p => (pairV p.1, p.2)) →
        (Instr.findAsking kt (pairV x) es i).run P W = .ok ((l.findIdx? fun p => decide (p.1 = x)).map fun j => (i + j, ((l[j]?).map (·.2)).getD (.bool false))) W := by
      intro es
      induction es with
      | nil =>
        intro l i h
        have : l = [] := by cases l; rfl; simp at h
        subst this
        rfl
      | cons e es ih =>
        intro l i h
        cases l with
        | nil => simp at h
        | cons p l =>
          simp only [List.map_cons, List.cons.injEq, Prod.mk.injEq] at h
          obtain ⟨⟨h1, h2⟩, h3⟩ := h
          have hq := pair_eq hk he hi hc x.1 x.2 p.1.1 p.1.2 W
          rw [nat_eq_int, nat_eq_int] at hq
          unfold Instr.findAsking
          rw [h1, List.findIdx?_cons]
          simp only [Sem.run_bind, pairV, natV, hq, Result.andThen_ok]
          by_cases hx : p.1 = x
          · have hb : (decide (x.1 = p.1.1) && decide (x.2 = p.1.2)) = true := by rw [hx]; simp
            rw [hb, decide_eq_true hx]
            simp [h2]
          · have hb : (decide (x.1 = p.1.1) && decide (x.2 = p.1.2)) = false := by
              rw [Bool.eq_false_iff]
              intro e
              rw [Bool.and_eq_true, decide_eq_true_eq, decide_eq_true_eq] at e
              exact hx (Prod.ext e.1.symm e.2.symm)
            rw [hb, decide_eq_false hx]
            have h4 := ih l (i + 1) h3
            simp only [pairV, natV] at h4
            simp only [Bool.false_eq_true, if_false, h4]
            cases (l.findIdx? fun p => decide (p.1 = x)) with
            | none => rfl
            | some j => simp; omega
    have h2 := this es l 0 h
    simpa using h2
end
end Go.Hw

/- The order in memory: numbered nodes, and the maps of names, keys and answers. -/
namespace Go.Hw
open Go.RowKit Tm
set_option linter.unusedVariables false
set_option linter.unusedSimpArgs false
abbrev strV (s : By) : Value := .string s
abbrev keyN (x : Nt) : By := keyK x.1.name x.1.sort x.2
/-- the cells of nodes: the name, is it a variable, the numbers of the parts -/
def nCells : List Nt → List Value → List Value
  | [], _ => []
  | x :: N, us => .string x.1.name :: .bool (!decide (x.1.sort = nul)) :: us.headD nilS :: nCells N us.tail
theorem nCells_len : ∀ (N : List Nt) (us : List Value), (nCells N us).length = N.length * 3
  | [], _ => rfl
  | x :: N, us => by simp [nCells, nCells_len N us.tail]; omega
theorem nCells_at : ∀ (N : List Nt) (us : List Value) (i : Nat), i < N.length →
    (nCells N us)[i * 3]? = some (.string (ng N i).1.name) ∧ (nCells N us)[i * 3 + 1]? = some (.bool (!decide ((ng N i).1.sort = nul))) ∧ (nCells N us)[i * 3 + 2]? = some (ug us i)
  | x :: N, us, 0, _ => by
    refine ⟨rfl, rfl, ?_⟩
    cases us <;> rfl
  | x :: N, us, i + 1, h => by
    obtain ⟨h0, h1, h2⟩ := nCells_at N us.tail i (by simpa using h)
    have e : ∀ k, (nCells (x :: N) us)[(i + 1) * 3 + k]? = (nCells N us.tail)[i * 3 + k]? := fun k => by
      rw [show (i + 1) * 3 + k = i * 3 + k + 1 + 1 + 1 by omega]
      rfl
    refine ⟨by rw [← Nat.add_zero ((i + 1) * 3), e]; exact h0, by rw [e]; exact h1, ?_⟩
    rw [e, h2]
    cases us <;> rfl
theorem nCells_snoc : ∀ (N : List Nt) (us : List Value) (x : Nt) (u : Value), us.length = N.length → nCells (N ++ [x]) (us ++ [u]) = nCells N us ++ [.string x.1.name, .bool (!decide (x.1.sort = nul)), u]
  | [], [], x, u, _ => rfl
  | a :: N, b :: us, x, u, h => by
    have := nCells_snoc N us x u (by simpa using h)
    simp only [List.cons_append, nCells, List.headD_cons, List.tail_cons, this]
/-- the order: B the blocks that turn, R blocks of others; tn, to: the types of nodes and of the order -/
structure OrdX (tn to : TypeId) (ops : List By) (R B : Nat → Prop) (base : Nat) (w : World) (b : Nat) (N : List Nt) (nv : Value) (br bk bd : Nat) (us : List Value) (G : Nat → Prop) (rl kl : List (By × Value)) (dl : List ((Nat × Nat) × Value)) : Prop where
  box : w.heap[b]? = some (.cells #[.map (some br), nv, .map (some bk), .map (some bd)] to (0, 0))
  rank : MpR strV w br rl
  ranks : ∀ s ∈ ops, afind rl s = some (natV (ixF ops s))
  len : us.length = N.length
  own : w.ownsRow base tn 3 nv N.length (nCells N us)
  kid : ∀ i, i < N.length → SlR G w 1 (ug us i) (ng N i).2.length ((ng N i).2.map natV)
  gs : ∀ k, G k → base ≤ k ∧ k < w.heap.size ∧ ¬ B k ∧ ¬ R k
  known : MpR strV w bk kl
  key : ∀ k v, afind kl k = some v ↔ ∃ i, i < N.length ∧ k = keyN (ng N i) ∧ v = natV i
  done : MpR pairV w bd dl
  ans : ∀ p v, afind dl p = some v → p.1 < N.length ∧ p.2 < N.length ∧ v = .bool (gt (ixF ops) (ng N p.1).1 (ng N p.2).1)
  num : Num N
  uniq : Uniq N
  ncs : ∀ i, i < N.length → NoCS (ng N i).1.name ∧ NoCS (ng N i).1.sort
  nin : ∀ i, i < N.length → (ng N i).1.sort = nul → (ng N i).1.name ∈ ops
  kb : ∀ i, i < N.length → (ng N i).2.length ≤ 1000000
  bb : B b ∧ B br ∧ B bk ∧ B bd
  bn : ∀ k, nv.ownBlock = some k → B k
  dis : b ≠ br ∧ b ≠ bk ∧ b ≠ bd ∧ br ≠ bk ∧ br ≠ bd ∧ bk ≠ bd
  dn : nv.ownBlock ≠ some b ∧ nv.ownBlock ≠ some br ∧ nv.ownBlock ≠ some bk ∧ nv.ownBlock ≠ some bd
  lt : ∀ k, B k → base ≤ k ∧ k < w.heap.size ∧ ¬ R k
def OrdR (tn to : TypeId) (ops : List By) (R B : Nat → Prop) (base : Nat) (w : World) (b : Nat) (N : List Nt) : Prop := ∃ nv br bk bd us G rl kl dl, OrdX tn to ops R B base w b N nv br bk bd us G rl kl dl
section
variable {tn to : TypeId} {ops : List By} {R R' B F : Nat → Prop} {base b : Nat} {w w' : World} {N : List Nt} {nv nv' : Value} {br bk bd : Nat} {us : List Value} {G : Nat → Prop} {rl kl : List (By × Value)} {dl : List ((Nat × Nat) × Value)}
theorem OrdX.upd (h : OrdX tn to ops R B base w b N nv br bk bd us G rl kl dl) (hu : Upd F w w') (hF : ∀ k, F k → R k) : OrdX tn to ops R B base w' b N nv br bk bd us G rl kl dl := by
  have hB : ∀ k, B k → ¬ F k := fun k hk hf => (h.lt k hk).2.2 (hF k hf)
  exact ⟨hu.heap h.box (hB _ h.bb.1), h.rank.kept hu (hB _ h.bb.2.1), h.ranks, h.len, own_kept h.own hu (fun k hk => hB _ (h.bn k hk)), fun i hi => (h.kid i hi).kept hu (fun k hk hf => (h.gs k hk).2.2.2 (hF k hf)),
    fun k hk => ⟨(h.gs k hk).1, Nat.lt_of_lt_of_le (h.gs k hk).2.1 hu.size, (h.gs k hk).2.2⟩, h.known.kept hu (hB _ h.bb.2.2.1), h.key, h.done.kept hu (hB _ h.bb.2.2.2), h.ans, h.num, h.uniq, h.ncs, h.nin, h.kb, h.bb, h.bn, h.dis, h.dn,
    fun k hk => ⟨(h.lt k hk).1, Nat.lt_of_lt_of_le (h.lt k hk).2.1 hu.size, (h.lt k hk).2.2⟩⟩
theorem OrdR.upd (h : OrdR tn to ops R B base w b N) (hu : Upd F w w') (hF : ∀ k, F k → R k) : OrdR tn to ops R B base w' b N := by
  obtain ⟨nv, br, bk, bd, us, G, rl, kl, dl, h⟩ := h
  exact ⟨nv, br, bk, bd, us, G, rl, kl, dl, h.upd hu hF⟩
theorem OrdX.ext (h : OrdX tn to ops R B base w b N nv br bk bd us G rl kl dl) (hu : Ext w w') : OrdX tn to ops R B base w' b N nv br bk bd us G rl kl dl := h.upd hu (fun _ hf => hf.elim)
theorem OrdR.ext (h : OrdR tn to ops R B base w b N) (hu : Ext w w') : OrdR tn to ops R B base w' b N := h.upd hu (fun _ hf => hf.elim)
/-- what is new is of others -/
theorem OrdX.reserve (h : OrdX tn to ops R B base w b N nv br bk bd us G rl kl dl) : OrdX tn to ops (fun k => R k ∨ w.heap.size ≤ k) B base w b N nv br bk bd us G rl kl dl :=
  ⟨h.box, h.rank, h.ranks, h.len, h.own, h.kid, fun k hk => ⟨(h.gs k hk).1, (h.gs k hk).2.1, (h.gs k hk).2.2.1, fun hr => hr.elim (h.gs k hk).2.2.2 (fun hr => by have := (h.gs k hk).2.1; omega)⟩, h.known, h.key, h.done, h.ans, h.num, h.uniq, h.ncs, h.nin, h.kb, h.bb, h.bn, h.dis, h.dn,
    fun k hk => ⟨(h.lt k hk).1, (h.lt k hk).2.1, fun hr => hr.elim (h.lt k hk).2.2 (fun hr => by have := (h.lt k hk).2.1; omega)⟩⟩
theorem OrdX.weaken (h : OrdX tn to ops R B base w b N nv br bk bd us G rl kl dl) (hr : ∀ k, R' k → R k) : OrdX tn to ops R' B base w b N nv br bk bd us G rl kl dl :=
  ⟨h.box, h.rank, h.ranks, h.len, h.own, h.kid, fun k hk => ⟨(h.gs k hk).1, (h.gs k hk).2.1, (h.gs k hk).2.2.1, fun hx => (h.gs k hk).2.2.2 (hr k hx)⟩, h.known, h.key, h.done, h.ans, h.num, h.uniq, h.ncs, h.nin, h.kb, h.bb, h.bn, h.dis, h.dn,
    fun k hk => ⟨(h.lt k hk).1, (h.lt k hk).2.1, fun hx => (h.lt k hk).2.2 (hr k hx)⟩⟩
theorem OrdR.reserve (h : OrdR tn to ops R B base w b N) : OrdR tn to ops (fun k => R k ∨ w.heap.size ≤ k) B base w b N := by
  obtain ⟨nv, br, bk, bd, us, G, rl, kl, dl, h⟩ := h
  exact ⟨nv, br, bk, bd, us, G, rl, kl, dl, h.reserve⟩
theorem OrdR.weaken (h : OrdR tn to ops R B base w b N) (hr : ∀ k, R' k → R k) : OrdR tn to ops R' B base w b N := by
  obtain ⟨nv, br, bk, bd, us, G, rl, kl, dl, h⟩ := h
  exact ⟨nv, br, bk, bd, us, G, rl, kl, dl, h.weaken hr⟩
/-- an answer is kept -/
theorem OrdX.put (h : OrdX tn to ops R B base w b N nv br bk bd us G rl kl dl) {i j : Nat} (hi : i < N.length) (hj : j < N.length) {v : Value} (hv : v = .bool (gt (ixF ops) (ng N i).1 (ng N j).1)) (hu : Upd (fun k => k = bd) w w') (hm : MpR pairV w' bd (aput dl (i, j) v)) :
    OrdX tn to ops R B base w' b N nv br bk bd us G rl kl (aput dl (i, j) v) := by
  refine ⟨hu.heap h.box h.dis.2.2.1, h.rank.kept hu h.dis.2.2.2.2.1, h.ranks, h.len, own_kept h.own hu (fun k hk e => h.dn.2.2.2 (by rw [hk, e])), fun i hi => (h.kid i hi).kept hu (fun k hk e => (h.gs k hk).2.2.1 (by rw [e]; exact h.bb.2.2.2)),
    fun k hk => ⟨(h.gs k hk).1, Nat.lt_of_lt_of_le (h.gs k hk).2.1 hu.size, (h.gs k hk).2.2⟩, h.known.kept hu h.dis.2.2.2.2.2, h.key, hm, fun p u hp => ?_, h.num, h.uniq, h.ncs, h.nin, h.kb, h.bb, h.bn, h.dis, h.dn,
    fun k hk => ⟨(h.lt k hk).1, Nat.lt_of_lt_of_le (h.lt k hk).2.1 hu.size, (h.lt k hk).2.2⟩⟩
  rw [afind_put] at hp
  split at hp
  · rename_i e
    injection hp with hp
    subst e
    exact ⟨hi, hj, by rw [← hp, hv]⟩
  · exact h.ans p u hp
/-- no term with this key is numbered -/
theorem OrdX.fresh (h : OrdX tn to ops R B base w b N nv br bk bd us G rl kl dl) {t : Tm} {ks : List Nat} (hl : ∀ k ∈ ks, k < N.length) (hm : ks.map (fun k => (ng N k).1) = t.kids) (hf : afind kl (keyN (t, ks)) = none) : ∀ i, i < N.length → (ng N i).1 ≠ t := by
  intro i hi e
  have h1 : (ng N i).2 = ks := by
    have h2 : (ng N i).2.map (fun k => (ng N k).1) = ks.map (fun k => (ng N k).1) := by rw [h.num.map i hi, e, hm]
    have hkl := h.num.kid i hi
    generalize (ng N i).2 = js at *
    refine List.ext_getElem (by have := congrArg List.length h2; simpa using this) (fun j h3 h4 => ?_)
    have h5 : (js.map (fun k => (ng N k).1))[j]'(by simpa using h3) = (ks.map (fun k => (ng N k).1))[j]'(by simpa using h4) := by simp only [h2]
    rw [List.getElem_map, List.getElem_map] at h5
    exact h.uniq _ _ (by have := hkl _ (List.getElem_mem h3); omega) (hl _ (List.getElem_mem h4)) h5
  have h2 := (h.key (keyN (t, ks)) (natV i)).2 ⟨i, hi, by unfold keyN; rw [e, h1], rfl⟩
  rw [hf] at h2
  cases h2
theorem OrdX.found (h : OrdX tn to ops R B base w b N nv br bk bd us G rl kl dl) {t : Tm} {ks : List Nat} (hm : ks.map (fun k => (ng N k).1) = t.kids) (hn : NoCS t.name ∧ NoCS t.sort) {v : Value} (hf : afind kl (keyN (t, ks)) = some v) : ∃ i, i < N.length ∧ v = natV i ∧ (ng N i).1 = t := by
  obtain ⟨i, hi, h1, h2⟩ := (h.key _ _).1 hf
  refine ⟨i, hi, h2, ?_⟩
  obtain ⟨e1, e2, e3⟩ := keyK_inj hn.1 hn.2 (h.ncs i hi).1 (h.ncs i hi).2 h1
  have h3 := h.num.map i hi
  simp only at e1 e2 e3
  rw [← e3, hm] at h3
  rw [← eta (ng N i).1, ← e1, ← e2, ← h3, eta]
/-- a new node -/
theorem OrdX.push (h : OrdX tn to ops R B base w b N nv br bk bd us G rl kl dl) {t : Tm} {ks : List Nat} {u : Value} {V R0 : Nat → Prop} (hl : ∀ k ∈ ks, k < N.length) (hm : ks.map (fun k => (ng N k).1) = t.kids) (hf : afind kl (keyN (t, ks)) = none)
    (hn : NoCS t.name ∧ NoCS t.sort) (hin : t.sort = nul → t.name ∈ ops) (hkb : ks.length ≤ 1000000)
    (hw : Upd (fun k => B k ∨ R k ∧ base ≤ k ∧ ¬ V k) w w') (hbox : w'.heap[b]? = some (.cells #[.map (some br), nv', .map (some bk), .map (some bd)] to (0, 0)))
    (hrank : MpR strV w' br rl) (hdone : MpR pairV w' bd dl) (hknown : MpR strV w' bk (aput kl (keyN (t, ks)) (natV N.length)))
    (hown : w'.ownsRow base tn 3 nv' (N.length + 1) (nCells N us ++ [.string t.name, .bool (!decide (t.sort = nul)), u])) (hbn : ∀ k, nv'.ownBlock = some k → nv.ownBlock = some k ∨ w.heap.size ≤ k ∧ k < w'.heap.size)
    (hb : base ≤ w.heap.size) (hv : SlR V w 1 u ks.length (ks.map natV)) (hV : ∀ k, V k → R k ∧ base ≤ k ∧ k < w.heap.size) (hR0 : ∀ k, R0 k → R k ∧ k < w.heap.size ∧ ¬ V k) :
    OrdX tn to ops R0 (fun k => B k ∨ w.heap.size ≤ k ∧ nv'.ownBlock = some k) base w' b (N ++ [(t, ks)]) nv' br bk bd (us ++ [u]) (fun k => G k ∨ V k) rl (aput kl (keyN (t, ks)) (natV N.length)) dl := by
  have hlen : (N ++ [(t, ks)]).length = N.length + 1 := by simp
  have hne : ∀ i, i < (N ++ [(t, ks)]).length → i < N.length ∨ i = N.length := fun i hi => by rw [hlen] at hi; omega
  have hul : ∀ {i : Nat}, i < us.length → ug (us ++ [u]) i = ug us i := fun {i} hi => by
    unfold ug
    rw [List.getD_eq_getElem?_getD, List.getD_eq_getElem?_getD, List.getElem?_append_left hi]
  have hue : ug (us ++ [u]) us.length = u := by
    unfold ug
    rw [List.getD_eq_getElem?_getD, List.getElem?_concat_length]
    rfl
  have hlt : ∀ k, B k → k < w.heap.size := fun k hk => (h.lt k hk).2.1
  have hbl := h.bb
  refine ⟨hbox, hrank, h.ranks, by simp [h.len], ?_, fun i hi => ?_, fun k hk => ?_, hknown, fun k v => ?_, hdone, fun p v hp => ?_, h.num.snoc t ks hl hm, h.uniq.snoc t ks (h.fresh hl hm hf), fun i hi => ?_, fun i hi hs => ?_, fun i hi => ?_, ⟨.inl hbl.1, .inl hbl.2.1, .inl hbl.2.2.1, .inl hbl.2.2.2⟩, fun k hk => ?_, h.dis, ?_, fun k hk => ?_⟩
  · rw [hlen, nCells_snoc N us (t, ks) u h.len]
    exact hown
  · rcases hne i hi with hi | rfl
    · rw [ng_left _ hi, hul (by rw [h.len]; exact hi)]
      exact ((h.kid i hi).kept hw (fun k hk hx => by
        rcases hx with hx | hx
        · exact (h.gs k hk).2.2.1 hx
        · exact (h.gs k hk).2.2.2 hx.1)).weaken (fun k hk => .inl hk)
    · rw [ng_last, ← h.len, hue]
      exact (hv.kept hw (fun k hk hx => by
        rcases hx with hx | hx
        · exact (h.lt k hx).2.2 (hV k hk).1
        · exact hx.2.2 hk)).weaken (fun k hk => .inr hk)
  · have hlt2 : base ≤ k ∧ k < w.heap.size ∧ ¬ B k ∧ (R k → V k) := by
      rcases hk with hk | hk
      · exact ⟨(h.gs k hk).1, (h.gs k hk).2.1, (h.gs k hk).2.2.1, fun hr => absurd hr (h.gs k hk).2.2.2⟩
      · exact ⟨(hV k hk).2.1, (hV k hk).2.2, fun hx => (h.lt k hx).2.2 (hV k hk).1, fun _ => hk⟩
    refine ⟨hlt2.1, Nat.lt_of_lt_of_le hlt2.2.1 hw.size, fun hx => ?_, fun hx => (hR0 k hx).2.2 (hlt2.2.2.2 (hR0 k hx).1)⟩
    rcases hx with hx | hx
    · exact hlt2.2.2.1 hx
    · omega
  · rw [afind_put]
    split
    · rename_i e
      subst e
      constructor
      · intro e
        injection e with e
        exact ⟨N.length, by rw [hlen]; omega, by rw [ng_last], e.symm⟩
      · rintro ⟨i, hi, e1, e2⟩
        rcases hne i hi with hi | rfl
        · rw [ng_left _ hi] at e1
          have h9 := (h.key _ (natV i)).2 ⟨i, hi, e1, rfl⟩
          rw [hf] at h9
          cases h9
        · rw [e2]
    · rename_i e
      rw [h.key]
      constructor
      · rintro ⟨i, hi, e1, e2⟩
        exact ⟨i, by rw [hlen]; omega, by rw [ng_left _ hi]; exact e1, e2⟩
      · rintro ⟨i, hi, e1, e2⟩
        rcases hne i hi with hi | rfl
        · exact ⟨i, hi, by rw [ng_left _ hi] at e1; exact e1, e2⟩
        · rw [ng_last] at e1
          exact absurd e1 e
  · obtain ⟨h1, h2, h3⟩ := h.ans p v hp
    exact ⟨by rw [hlen]; omega, by rw [hlen]; omega, by rw [ng_left _ h1, ng_left _ h2]; exact h3⟩
  · rcases hne i hi with hi | rfl
    · rw [ng_left _ hi]; exact h.ncs i hi
    · rw [ng_last]; exact hn
  · rcases hne i hi with hi | rfl
    · rw [ng_left _ hi] at hs ⊢; exact h.nin i hi hs
    · rw [ng_last] at hs ⊢; exact hin hs
  · rcases hne i hi with hi | rfl
    · rw [ng_left _ hi]; exact h.kb i hi
    · rw [ng_last]; exact hkb
  · rcases hbn k hk with h8 | h8
    · exact .inl (h.bn k h8)
    · exact .inr ⟨h8.1, hk⟩
  · have hx : ∀ c, B c → nv.ownBlock ≠ some c → nv'.ownBlock ≠ some c := fun c hc h1 e => by
      rcases hbn c e with h8 | h8
      · exact h1 h8
      · have := hlt c hc; omega
    exact ⟨hx _ hbl.1 h.dn.1, hx _ hbl.2.1 h.dn.2.1, hx _ hbl.2.2.1 h.dn.2.2.1, hx _ hbl.2.2.2 h.dn.2.2.2⟩
  · rcases hk with hk | ⟨hk, hk2⟩
    · exact ⟨(h.lt k hk).1, Nat.lt_of_lt_of_le (h.lt k hk).2.1 hw.size, fun hx => (h.lt k hk).2.2 (hR0 k hx).1⟩
    · refine ⟨by omega, ?_, fun hx => by have := (hR0 k hx).2.1; omega⟩
      rcases hbn k hk2 with h8 | h8
      · have := hlt k (h.bn k h8); omega
      · exact h8.2
/-- the node i, in its cells -/
theorem OrdX.at_ (h : OrdX tn to ops R B base w b N nv br bk bd us G rl kl dl) (hN : 0 < N.length) : ∃ g cap, nv = .slice (some ⟨g, 0, none⟩) N.length cap ∧ g ≠ bd ∧ B g ∧ ∀ i, i < N.length → ∃ a c,
    w.cell? ⟨g, 0 + i * 3, none⟩ = some (.string (ng N i).1.name) ∧ w.cell? ⟨g, 0 + (i * 3 + 1), none⟩ = some (.bool (!decide ((ng N i).1.sort = nul))) ∧ w.cell? ⟨g, 0 + (i * 3 + 2), none⟩ = some (.slice a (ng N i).2.length c) ∧ SlR G w 1 (.slice a (ng N i).2.length c) (ng N i).2.length ((ng N i).2.map natV) := by
  obtain ⟨g, cap, rfl⟩ := own_some h.own hN
  have hs := SlR.of_own h.own
  obtain ⟨g', off, c, e, _, hS, hj⟩ := hs.pos hN
  injection e with e1 e2 e3
  injection e1 with e1
  injection e1 with e1 e4
  subst e1; subst e4
  refine ⟨g, cap, rfl, fun e => h.dn.2.2.2 (by rw [← e]; rfl), h.bn g rfl, fun i hi => ?_⟩
  obtain ⟨h0, h1, h2⟩ := nCells_at N us i hi
  have hk := h.kid i hi
  obtain ⟨a, c', e'⟩ := hk.shape
  rw [e'] at hk h2
  exact ⟨a, c', by rw [hj _ (by omega), h0], by rw [hj _ (by omega), h1], by rw [hj _ (by omega), h2], hk⟩
end
end Go.Hw

/- The order by numbers: what its parts ask. -/
namespace Go.Hw
open Go.RowKit Tm
set_option linter.unusedVariables false
set_option linter.unusedSimpArgs false
theorem cov_any {r : By → Nat} {N : List Nt} (hN : Num N) (hU : Uniq N) {i j : Nat} (hi : i < N.length) (hj : j < N.length) : ((ng N i).2.any fun k => decide (k = j) || gt r (ng N k).1 (ng N j).1) = true ↔ Cov r (ng N i).1 (ng N j).1 := by
  rw [List.any_eq_true]
  unfold Cov
  rw [← hN.map i hi]
  constructor
  · rintro ⟨k, hk, h⟩
    refine ⟨(ng N k).1, List.mem_map.2 ⟨k, hk, rfl⟩, ?_⟩
    rw [Bool.or_eq_true, decide_eq_true_eq] at h
    rcases h with rfl | h
    · exact .inl rfl
    · exact .inr h
  · rintro ⟨t, ht, h⟩
    obtain ⟨k, hk, rfl⟩ := List.mem_map.1 ht
    refine ⟨k, hk, ?_⟩
    rw [Bool.or_eq_true, decide_eq_true_eq]
    rcases h with h | h
    · exact .inl (hU k j (by have := hN.kid i hi k hk; omega) hj h)
    · exact .inr h
theorem par_any {r : By → Nat} {N : List Nt} (hN : Num N) {s : Tm} {j : Nat} (hj : j < N.length) : ((ng N j).2.any fun k => !gt r s (ng N k).1) = true ↔ ∃ k ∈ (ng N j).1.kids, gt r s k = false := by
  rw [List.any_eq_true, ← hN.map j hj]
  constructor
  · rintro ⟨k, hk, h⟩
    exact ⟨(ng N k).1, List.mem_map.2 ⟨k, hk, rfl⟩, by simpa using h⟩
  · rintro ⟨t, ht, h⟩
    obtain ⟨k, hk, rfl⟩ := List.mem_map.1 ht
    exact ⟨k, hk, by rw [h]; rfl⟩
/-- names by their places -/
theorem rank_step {ops : List By} {rl : List (By × Value)} {k : Nat} (hd : Dif ops) (hk : k < ops.length) (h : ∀ s ∈ ops.take k, afind rl s = some (natV (ixF ops s))) : ∀ s ∈ ops.take (k + 1), afind (aput rl (ops.getD k nul) (natV k)) s = some (natV (ixF ops s)) := by
  intro s hs
  rw [afind_put]
  split
  · rename_i e
    rw [e, hd.ix hk]
  · rename_i e
    refine h s ?_
    rw [List.take_add_one, List.mem_append] at hs
    rcases hs with hs | hs
    · exact hs
    · rw [List.getElem?_eq_getElem hk] at hs
      simp only [Option.toList_some, List.mem_singleton] at hs
      exact absurd (by rw [hs, List.getD_eq_getElem?_getD, List.getElem?_eq_getElem hk]; rfl) e
/-- an order without nodes -/
theorem OrdX.new {tn to : TypeId} {ops : List By} {base b br bk bd : Nat} {w : World} {rl : List (By × Value)} (R : Nat → Prop) (hb : w.heap[b]? = some (.cells #[.map (some br), nilS, .map (some bk), .map (some bd)] to (0, 0))) (hr : MpR strV w br rl) (hrs : ∀ s ∈ ops, afind rl s = some (natV (ixF ops s)))
    (hk : MpR strV w bk []) (hd : MpR pairV w bd []) (h1 : base ≤ b ∧ base ≤ br ∧ base ≤ bk ∧ base ≤ bd) (h2 : b ≠ br ∧ b ≠ bk ∧ b ≠ bd ∧ br ≠ bk ∧ br ≠ bd ∧ bk ≠ bd) (h3 : ¬ R b ∧ ¬ R br ∧ ¬ R bk ∧ ¬ R bd) :
    OrdX tn to ops R (fun k => k = b ∨ k = br ∨ k = bk ∨ k = bd) base w b [] nilS br bk bd [] (fun _ => False) rl [] [] := by
  refine ⟨hb, hr, hrs, rfl, ⟨rfl, .inl ⟨rfl, rfl⟩⟩, fun i hi => absurd hi (Nat.not_lt_zero _), fun k hk => hk.elim, hk, fun k v => ⟨fun h => by simp [afind] at h, fun ⟨i, hi, _⟩ => absurd hi (Nat.not_lt_zero _)⟩, hd, fun p v h => by simp [afind] at h, Num.nil, Uniq.nil, fun i hi => absurd hi (Nat.not_lt_zero _), fun i hi => absurd hi (Nat.not_lt_zero _), fun i hi => absurd hi (Nat.not_lt_zero _),
    ⟨.inl rfl, .inr (.inl rfl), .inr (.inr (.inl rfl)), .inr (.inr (.inr rfl))⟩, fun k hk => by simp [Value.ownBlock] at hk, h2, ⟨by simp [Value.ownBlock], by simp [Value.ownBlock], by simp [Value.ownBlock], by simp [Value.ownBlock]⟩, fun k hx => ?_⟩
  have hb' := (Array.getElem?_eq_some_iff.1 hb).1
  have hr' := hr.lt
  have hk' := hk.lt
  have hd' := hd.lt
  rcases hx with rfl | rfl | rfl | rfl
  · exact ⟨h1.1, hb', h3.1⟩
  · exact ⟨h1.2.1, hr', h3.2.1⟩
  · exact ⟨h1.2.2.1, hk', h3.2.2.1⟩
  · exact ⟨h1.2.2.2, hd', h3.2.2.2⟩
end Go.Hw

/- Insertion into a row of one's own: what the cells become. -/
namespace Go.Hw
open Go.RowKit
set_option linter.unusedVariables false
set_option linter.unusedSimpArgs false
def setL (cur : Array Value) : Nat → List Value → Array Value
  | _, [] => cur
  | o, v :: r => setL (cur.setIfInBounds o v) (o + 1) r
theorem setL_size : ∀ (vs : List Value) (cur : Array Value) (o : Nat), (setL cur o vs).size = cur.size
  | [], _, _ => rfl
  | v :: r, cur, o => by unfold setL; rw [setL_size r, Array.size_setIfInBounds]
theorem setL_at : ∀ (vs : List Value) (cur : Array Value) (o j : Nat), o + vs.length ≤ cur.size → (setL cur o vs)[j]? = if o ≤ j ∧ j < o + vs.length then vs[j - o]? else cur[j]?
  | [], cur, o, j, h => by
    unfold setL
    rw [if_neg (by simp only [List.length_nil]; omega)]
  | v :: r, cur, o, j, h => by
    unfold setL
    simp only [List.length_cons] at h ⊢
    rw [setL_at r _ (o + 1) j (by rw [Array.size_setIfInBounds]; omega)]
    by_cases h1 : o = j
    · subst h1
      rw [if_neg (by omega), if_pos (by omega), Array.getElem?_setIfInBounds_self_of_lt (by omega)]
      simp
    · by_cases h2 : o + 1 ≤ j ∧ j < o + 1 + r.length
      · rw [if_pos h2, if_pos (by omega), show j - o = (j - (o + 1)) + 1 by omega, List.getElem?_cons_succ]
      · rw [if_neg h2, if_neg (by omega), Array.getElem?_setIfInBounds_ne h1]
theorem setCells_heap {b : Nat} {t : TypeId} : ∀ (vs : List Value) (o : Nat) (w : World) (cur : Array Value), w.heap[b]? = some (.cells cur t (0, 0)) → (w.setCells b o vs).heap[b]? = some (.cells (setL cur o vs) t (0, 0))
  | [], _, _, _, h => h
  | v :: r, o, w, cur, h => by
    unfold World.setCells setL
    exact setCells_heap r (o + 1) _ _ (setBlock h o v)
theorem setCells_upd {b : Nat} : ∀ (vs : List Value) (o : Nat) (w : World), Upd (fun k => k = b) w (w.setCells b o vs)
  | [], _, w => Upd.refl _ w
  | v :: r, o, w => by
    unfold World.setCells
    exact ((Upd.refl (fun k => k = b) w).setCell (p := ⟨b, o, none⟩) (.inl rfl) v).trans (setCells_upd r (o + 1) _)
/-- a row out of what its block holds -/
theorem own_mk {w : World} {base e g cap n : Nat} {cur : Array Value} {xs : List Value} (hl : xs.length = n) (hb : base ≤ g) (hg : w.heap[g]? = some (.cells cur e (0, 0))) (hn : n ≤ cap) (hm : cap ≤ maxLen) (hs : cur.size = cap) (ht : ∀ j, j < n → cur[j]? = xs[j]?) :
    w.ownsRow base e 1 (.slice (some ⟨g, 0, none⟩) n cap) n xs := by
  refine ⟨by omega, .inr ⟨g, cap, cur, rfl, hb, hg, hn, hm, by omega, ?_⟩⟩
  apply List.ext_getElem?
  intro j
  rw [Nat.mul_one, List.getElem?_take]
  by_cases h : j < n
  · rw [if_pos h, ← ht j h, Array.getElem?_toList]
  · rw [if_neg h, List.getElem?_eq_none (by omega)]
theorem ins_at {α : Type} (cs : List α) (x : α) (i j : Nat) (hi : i ≤ cs.length) : (cs.take i ++ x :: cs.drop i)[j]? = if j < i then cs[j]? else if j = i then some x else cs[j - 1]? := by
  by_cases h1 : j < i
  · rw [if_pos h1, List.getElem?_append_left (by simp; omega), List.getElem?_take_of_lt h1]
  · rw [if_neg h1, List.getElem?_append_right (by simp; omega)]
    have hl : (cs.take i).length = i := by simp; omega
    rw [hl]
    by_cases h2 : j = i
    · subst h2; rw [if_pos rfl, Nat.sub_self]; rfl
    · rw [if_neg h2, show j - i = (j - i - 1) + 1 by omega, List.getElem?_cons_succ, List.getElem?_drop]
      congr 1
      omega
end Go.Hw

/- Rules in memory: as lists of their terms. -/
namespace Go.Hw
open Go.RowKit Tm
set_option linter.unusedVariables false
set_option linter.unusedSimpArgs false
abbrev rg (L : List Rl) (i : Nat) : Rl := L.getD i (default, default)
def flR (L : List Rl) : List Tm := L.flatMap fun r => [r.1, r.2]
theorem flR_len (L : List Rl) : (flR L).length = 2 * L.length := by
  induction L with
  | nil => rfl
  | cons a L ih => unfold flR at ih ⊢; rw [List.flatMap_cons, List.length_append, ih]; simp; omega
theorem flR_append (A B : List Rl) : flR (A ++ B) = flR A ++ flR B := by unfold flR; rw [List.flatMap_append]
theorem flR_at : ∀ (L : List Rl) (i : Nat), i < L.length → tg (flR L) (2 * i) = (rg L i).1 ∧ tg (flR L) (2 * i + 1) = (rg L i).2
  | r :: L, 0, _ => ⟨rfl, rfl⟩
  | r :: L, i + 1, h => by
    have ih := flR_at L i (by simpa using h)
    have e : flR (r :: L) = r.1 :: r.2 :: flR L := rfl
    rw [e, show 2 * (i + 1) = 2 * i + 1 + 1 by omega]
    exact ih
theorem rg_mem {L : List Rl} {i : Nat} (h : i < L.length) : rg L i ∈ L := by unfold rg; rw [List.getD_eq_getElem?_getD, List.getElem?_eq_getElem h]; exact List.getElem_mem h
theorem rg_snoc (L : List Rl) (k : Nat) (h : k < L.length) : L.take (k + 1) = L.take k ++ [rg L k] := by
  rw [List.take_add_one]
  congr 1
  unfold rg
  rw [List.getD_eq_getElem?_getD, List.getElem?_eq_getElem h]
  rfl
theorem mem_flR {L : List Rl} {t : Tm} : t ∈ flR L ↔ ∃ r ∈ L, t = r.1 ∨ t = r.2 := by
  unfold flR
  rw [List.mem_flatMap]
  constructor
  · rintro ⟨r, hr, h⟩
    simp at h
    exact ⟨r, hr, h⟩
  · rintro ⟨r, hr, h⟩
    exact ⟨r, hr, by simpa using h⟩
/-- a list of rules that is read -/
def RuR (S : Nat → Prop) (w : World) (L : List Rl) (v : Value) : Prop := ∃ a cap, v = .slice a L.length cap ∧ TlR S w (flR L) (.slice a (2 * L.length) (2 * cap))
section
variable {S T F : Nat → Prop} {w w' : World} {L : List Rl} {v : Value}
theorem RuR.shape (h : RuR S w L v) : ∃ a cap, v = .slice a L.length cap := by
  obtain ⟨a, cap, e, _⟩ := h
  exact ⟨a, cap, e⟩
theorem RuR.kept (h : RuR S w L v) (hu : Upd F w w') (hF : ∀ k, S k → ¬ F k) : RuR S w' L v := by
  obtain ⟨a, cap, e, h⟩ := h
  exact ⟨a, cap, e, h.kept hu hF⟩
theorem RuR.ext (h : RuR S w L v) (hu : Ext w w') : RuR S w' L v := h.kept hu (fun _ _ h => h)
theorem RuR.weaken (h : RuR S w L v) (hs : ∀ k, S k → T k) : RuR T w L v := by
  obtain ⟨a, cap, e, h⟩ := h
  exact ⟨a, cap, e, h.weaken hs⟩
theorem RuR.at_ {a : Option Addr} {n cap : Nat} (h : RuR S w L (.slice a n cap)) (hL : 0 < L.length) :
    ∃ g off, a = some ⟨g, off, none⟩ ∧ S g ∧ ∀ i, i < L.length → ∃ xa xc ya yc, w.cell? ⟨g, off + i * 6, none⟩ = some (.string (rg L i).1.name) ∧ w.cell? ⟨g, off + i * 6 + 1, none⟩ = some (.string (rg L i).1.sort) ∧ w.cell? ⟨g, off + i * 6 + 2, none⟩ = some (.slice xa (rg L i).1.kids.length xc) ∧
      w.cell? ⟨g, off + i * 6 + 3, none⟩ = some (.string (rg L i).2.name) ∧ w.cell? ⟨g, off + i * 6 + 4, none⟩ = some (.string (rg L i).2.sort) ∧ w.cell? ⟨g, off + i * 6 + 5, none⟩ = some (.slice ya (rg L i).2.kids.length yc) ∧
      TlR S w (rg L i).1.kids (.slice xa (rg L i).1.kids.length xc) ∧ TlR S w (rg L i).2.kids (.slice ya (rg L i).2.kids.length yc) := by
  obtain ⟨a', cap', e, h⟩ := h
  injection e with e1 e2 e3
  subst e1
  have hf := flR_len L
  obtain ⟨g, off, e, hS, hat⟩ := h.at_ (by omega)
  refine ⟨g, off, e, hS, fun i hi => ?_⟩
  obtain ⟨f1, f2⟩ := flR_at L i hi
  obtain ⟨xa, xc, h0, h1, h2, h3⟩ := hat (2 * i) (by omega)
  obtain ⟨ya, yc, k0, k1, k2, k3⟩ := hat (2 * i + 1) (by omega)
  rw [f1] at h0 h1 h2 h3
  rw [f2] at k0 k1 k2 k3
  refine ⟨xa, xc, ya, yc, ?_, ?_, ?_, ?_, ?_, ?_, h3, k3⟩
  · rw [show off + i * 6 = off + 2 * i * 3 by omega]; exact h0
  · rw [show off + i * 6 + 1 = off + (2 * i * 3 + 1) by omega]; exact h1
  · rw [show off + i * 6 + 2 = off + (2 * i * 3 + 2) by omega]; exact h2
  · rw [show off + i * 6 + 3 = off + (2 * i + 1) * 3 by omega]; exact k0
  · rw [show off + i * 6 + 4 = off + ((2 * i + 1) * 3 + 1) by omega]; exact k1
  · rw [show off + i * 6 + 5 = off + ((2 * i + 1) * 3 + 2) by omega]; exact k2
end
end Go.Hw

/- Rewriting, pure: matching, filling, the redex of a step. -/
namespace Go.Hw
open Tm
set_option linter.unusedVariables false
set_option linter.unusedSimpArgs false
/-- what stands for the variables -/
abbrev Sb := By → Option Tm
def Sb.put (σ : Sb) (n : By) (t : Tm) : Sb := fun m => if m = n then some t else σ m
def Sb.le (σ τ : Sb) : Prop := ∀ n x, σ n = some x → τ n = some x
theorem Sb.le.trans {σ τ ρ : Sb} (h : σ.le τ) (h2 : τ.le ρ) : σ.le ρ := fun n x e => h2 n x (h n x e)
mutual
def mtch : Tm → Tm → Sb → Option Sb
  | .mk n s L, t, σ =>
    if s = nul then (if t.sort = nul ∧ t.name = n ∧ t.kids.length = L.length then mtchL L t.kids σ else none)
    else match σ n with
      | some x => if x = t then some σ else none
      | none => if t.sort ≠ nul ∧ t.sort ≠ s then none else some (σ.put n t)
def mtchL : List Tm → List Tm → Sb → Option Sb
  | [], _, σ => some σ
  | _ :: _, [], _ => none
  | a :: L, b :: M, σ => match mtch a b σ with
    | none => none
    | some τ => mtchL L M τ
end
theorem mtch_op {n : By} {L : List Tm} {t : Tm} {σ : Sb} (h : t.sort = nul ∧ t.name = n ∧ t.kids.length = L.length) : mtch (.mk n nul L) t σ = mtchL L t.kids σ := by
  unfold mtch
  rw [if_pos rfl, if_pos h]
theorem mtch_no {n : By} {L : List Tm} {t : Tm} {σ : Sb} (h : ¬ (t.sort = nul ∧ t.name = n ∧ t.kids.length = L.length)) : mtch (.mk n nul L) t σ = none := by
  unfold mtch
  rw [if_pos rfl, if_neg h]
theorem mtch_some {n s : By} {L : List Tm} {t x : Tm} {σ : Sb} (hs : s ≠ nul) (h : σ n = some x) : mtch (.mk n s L) t σ = if x = t then some σ else none := by
  unfold mtch
  rw [if_neg hs, h]
theorem mtch_new {n s : By} {L : List Tm} {t : Tm} {σ : Sb} (hs : s ≠ nul) (h : σ n = none) : mtch (.mk n s L) t σ = if t.sort ≠ nul ∧ t.sort ≠ s then none else some (σ.put n t) := by
  unfold mtch
  rw [if_neg hs, h]
theorem mtchL_at {L M : List Tm} {σ : Sb} {k : Nat} (hL : k < L.length) (hM : k < M.length) :
    mtchL (L.drop k) (M.drop k) σ = match mtch (tg L k) (tg M k) σ with | none => none | some τ => mtchL (L.drop (k + 1)) (M.drop (k + 1)) τ := by
  have e1 : L.drop k = tg L k :: L.drop (k + 1) := by
    rw [List.drop_eq_getElem_cons hL]
    unfold tg
    rw [List.getD_eq_getElem?_getD, List.getElem?_eq_getElem hL]
    rfl
  have e2 : M.drop k = tg M k :: M.drop (k + 1) := by
    rw [List.drop_eq_getElem_cons hM]
    unfold tg
    rw [List.getD_eq_getElem?_getD, List.getElem?_eq_getElem hM]
    rfl
  rw [e1, e2]
  rfl
/-- a term whose variables are replaced -/
def filT (σ : Sb) (t : Tm) : Tm := sbT (fun n _ => (σ n).getD default) t
theorem filT_op (σ : Sb) (n : By) (L : List Tm) : filT σ (.mk n nul L) = .mk n nul (L.map (filT σ)) := sbT_op _ rfl
theorem filT_var (σ : Sb) {n s : By} {L : List Tm} (h : s ≠ nul) : filT σ (.mk n s L) = (σ n).getD default := by
  unfold filT sbT
  rw [if_neg h]
theorem mtch_ok : ∀ (p t : Tm) (σ τ : Sb), mtch p t σ = some τ → σ.le τ ∧ ∀ ρ : Sb, τ.le ρ → filT ρ p = t := by
  refine Tm.ind (fun n s L ih => ?_)
  intro t σ τ h
  by_cases hs : s = nul
  · subst hs
    by_cases hc : t.sort = nul ∧ t.name = n ∧ t.kids.length = L.length
    · rw [mtch_op hc] at h
      have key : ∀ (L M : List Tm), (∀ x ∈ L, ∀ (t : Tm) (σ τ : Sb), mtch x t σ = some τ → σ.le τ ∧ ∀ ρ : Sb, τ.le ρ → filT ρ x = t) → M.length = L.length → ∀ σ τ, mtchL L M σ = some τ → σ.le τ ∧ ∀ ρ : Sb, τ.le ρ → L.map (filT ρ) = M := by
        intro L
        induction L with
        | nil =>
          intro M _ hl σ τ h
          have hM : M = [] := List.eq_nil_of_length_eq_zero hl
          subst hM
          unfold mtchL at h
          injection h with h
          subst h
          exact ⟨fun _ _ e => e, fun _ _ => rfl⟩
        | cons a L ihL =>
          intro M hx hl σ τ h
          match M, hl with
          | b :: M, hl =>
            unfold mtchL at h
            cases hm : mtch a b σ with
            | none => rw [hm] at h; cases h
            | some υ =>
              rw [hm] at h
              obtain ⟨h1, h2⟩ := hx a (List.mem_cons_self ..) b σ υ hm
              obtain ⟨h3, h4⟩ := ihL M (fun x hx' => hx x (List.mem_cons_of_mem _ hx')) (by simpa using hl) υ τ h
              exact ⟨h1.trans h3, fun ρ hρ => by rw [List.map_cons, h2 ρ (h3.trans hρ), h4 ρ hρ]⟩
      obtain ⟨h1, h2⟩ := key L t.kids ih hc.2.2 σ τ h
      refine ⟨h1, fun ρ hρ => ?_⟩
      rw [filT_op, h2 ρ hρ, ← hc.2.1, ← hc.1]
      exact eta t
    · rw [mtch_no hc] at h
      cases h
  · cases hx : σ n with
    | some x =>
      rw [mtch_some hs hx] at h
      by_cases e : x = t
      · rw [if_pos e] at h
        injection h with h
        subst h
        exact ⟨fun _ _ e => e, fun ρ hρ => by rw [filT_var ρ hs, hρ n x hx, Option.getD_some, e]⟩
      · rw [if_neg e] at h
        cases h
    | none =>
      rw [mtch_new hs hx] at h
      by_cases e : t.sort ≠ nul ∧ t.sort ≠ s
      · rw [if_pos e] at h
        cases h
      · rw [if_neg e] at h
        injection h with h
        subst h
        refine ⟨fun m x hm => ?_, fun ρ hρ => ?_⟩
        · show (if m = n then some t else σ m) = some x
          by_cases em : m = n
          · subst em; rw [hx] at hm; cases hm
          · rw [if_neg em]; exact hm
        · rw [filT_var ρ hs, hρ n t (show (if n = n then some t else σ n) = some t from if_pos rfl), Option.getD_some]
def sb0 : Sb := fun _ => none
/-- what a rule makes of a term -/
def aplF (r : Rl) (t : Tm) : Option Tm := (mtch r.1 t sb0).map fun σ => filT σ r.2
theorem aplF_ok {r : Rl} {t u : Tm} (h : aplF r t = some u) : ∃ σ : Sb, filT σ r.1 = t ∧ filT σ r.2 = u := by
  unfold aplF at h
  cases hm : mtch r.1 t sb0 with
  | none => rw [hm] at h; cases h
  | some σ =>
    rw [hm] at h
    injection h with h
    exact ⟨σ, (mtch_ok _ _ _ _ hm).2 σ (fun _ _ e => e), h⟩
/-- the first rule that fits -/
def fstR : Nat → List Rl → Tm → Option (Nat × Tm)
  | _, [], _ => none
  | i, r :: l, t => match aplF r t with
    | some u => some (i, u)
    | none => fstR (i + 1) l t
mutual
def fndT (l : List Rl) : Tm → Option (Nat × List Nat × Tm)
  | .mk n s L => match fndL l 0 L with
    | some x => some x
    | none => (fstR 0 l (.mk n s L)).map fun x => (x.1, [], x.2)
def fndL (l : List Rl) : Nat → List Tm → Option (Nat × List Nat × Tm)
  | _, [] => none
  | i, a :: L => match fndT l a with
    | some x => some (x.1, i :: x.2.1, x.2.2)
    | none => fndL l (i + 1) L
end
theorem fndT_eq (l : List Rl) (n s : By) (L : List Tm) : fndT l (.mk n s L) = match fndL l 0 L with | some x => some x | none => (fstR 0 l (.mk n s L)).map fun x => (x.1, [], x.2) := by
  conv => lhs; unfold fndT
theorem fndL_at (l : List Rl) (L : List Tm) (k : Nat) (h : k < L.length) : fndL l k (L.drop k) = match fndT l (tg L k) with | some x => some (x.1, k :: x.2.1, x.2.2) | none => fndL l (k + 1) (L.drop (k + 1)) := by
  have e1 : L.drop k = tg L k :: L.drop (k + 1) := by
    rw [List.drop_eq_getElem_cons h]
    unfold tg
    rw [List.getD_eq_getElem?_getD, List.getElem?_eq_getElem h]
    rfl
  rw [e1]
  conv => lhs; unfold fndL
theorem fstR_at (l : List Rl) (t : Tm) (k : Nat) (h : k < l.length) : fstR k (l.drop k) t = match aplF (rg l k) t with | some u => some (k, u) | none => fstR (k + 1) (l.drop (k + 1)) t := by
  have e1 : l.drop k = rg l k :: l.drop (k + 1) := by
    rw [List.drop_eq_getElem_cons h]
    unfold rg
    rw [List.getD_eq_getElem?_getD, List.getElem?_eq_getElem h]
    rfl
  rw [e1]
  conv => lhs; unfold fstR
theorem fstR_ok (l : List Rl) (t : Tm) : ∀ (m : List Rl) (k i : Nat) (u : Tm), m = l.drop k → k ≤ l.length → fstR k m t = some (i, u) → i < l.length ∧ aplF (rg l i) t = some u := by
  intro m
  induction m with
  | nil => intro k i u _ _ h; cases h
  | cons r m ih =>
    intro k i u hm hk h
    have hlt : k < l.length := by
      apply Nat.lt_of_not_le
      intro e
      rw [List.drop_eq_nil_of_le e] at hm
      cases hm
    rw [hm, fstR_at l t k hlt] at h
    cases ha : aplF (rg l k) t with
    | some y =>
      rw [ha] at h
      injection h with h
      injection h with h1 h2
      subst h1
      subst h2
      exact ⟨hlt, ha⟩
    | none =>
      rw [ha] at h
      have hm2 : m = l.drop (k + 1) := by
        have := congrArg List.tail hm
        simpa using this
      rw [← hm2] at h
      exact ih (k + 1) i u hm2 hlt h
theorem fndT_ok (l : List Rl) : ∀ (t : Tm) (i : Nat) (p : List Nat) (u : Tm), fndT l t = some (i, p, u) → okP t p ∧ i < l.length ∧ aplF (rg l i) (tmAt t p) = some u := by
  refine Tm.ind (fun n s L ih => ?_)
  intro i p u h
  rw [fndT_eq] at h
  have key : ∀ (N k : Nat), L.length - k ≤ N → k ≤ L.length → ∀ (i : Nat) (p : List Nat) (u : Tm), fndL l k (L.drop k) = some (i, p, u) → ∃ j q, p = j :: q ∧ j < L.length ∧ okP (tg L j) q ∧ i < l.length ∧ aplF (rg l i) (tmAt (tg L j) q) = some u := by
    intro N
    induction N with
    | zero =>
      intro k hN hk i p u h
      rw [List.drop_eq_nil_of_le (by omega)] at h
      unfold fndL at h
      cases h
    | succ N ihN =>
      intro k hN hk i p u h
      by_cases hlt : k < L.length
      · rw [fndL_at l L k hlt] at h
        cases hf : fndT l (tg L k) with
        | some x =>
          rw [hf] at h
          injection h with h
          obtain ⟨x1, x2, x3⟩ := x
          injection h with h1 h2
          injection h2 with h2 h3
          subst h1
          subst h3
          have hmem : tg L k ∈ L := by unfold tg; rw [List.getD_eq_getElem?_getD, List.getElem?_eq_getElem hlt]; exact List.getElem_mem hlt
          obtain ⟨g1, g2, g3⟩ := ih _ hmem _ _ _ hf
          exact ⟨k, x2, h2.symm, hlt, g1, g2, g3⟩
        | none =>
          rw [hf] at h
          exact ihN (k + 1) (by omega) hlt i p u h
      · rw [List.drop_eq_nil_of_le (by omega)] at h
        unfold fndL at h
        cases h
  cases hl : fndL l 0 L with
  | some x =>
    rw [hl] at h
    injection h with h
    subst h
    obtain ⟨j, q, hp, hj, g1, g2, g3⟩ := key L.length 0 (by omega) (Nat.zero_le _) i p u (by simpa using hl)
    subst hp
    exact ⟨⟨hj, g1⟩, g2, g3⟩
  | none =>
    rw [hl] at h
    cases hf : fstR 0 l (.mk n s L) with
    | none => rw [hf] at h; cases h
    | some x =>
      rw [hf] at h
      injection h with h
      injection h with h1 h2
      injection h2 with h2 h3
      subst h1
      subst h2
      subst h3
      obtain ⟨g1, g2⟩ := fstR_ok l _ l 0 x.1 x.2 rfl (Nat.zero_le _) hf
      exact ⟨trivial, g1, g2⟩
/-- a step of rules that descend goes down -/
theorem step_gt {ro : By → Nat} {l : List Rl} (hl : ∀ r ∈ l, gt ro r.1 r.2 = true) {t : Tm} (ht : NoP t) {i : Nat} {p : List Nat} {u : Tm} (h : fndT l t = some (i, p, u)) : gt ro t (putAt t p u) = true := by
  obtain ⟨h1, h2, h3⟩ := fndT_ok l t i p u h
  obtain ⟨σ, e1, e2⟩ := aplF_ok h3
  refine gt_context ro u (tmAt t p) p t ht (sub_of p t h1) ?_
  rw [← e1, ← e2]
  exact gt_subst ro _ _ _ _ (Nat.le_refl _) (hl _ (rg_mem h2))
end Go.Hw

/- Subterms at paths are well-formed, and known: pure. -/
namespace Go.Hw
open Tm
set_option linter.unusedVariables false
set_option linter.unusedSimpArgs false
theorem nodesD_up (k : Nat) : ∀ (t : Tm) (d : Nat), nodesD (d + k) t = (nodesD d t).map fun p => (p.1, p.2 + k) := by
  refine ind (fun n s L ih d => ?_)
  rw [nodesD_eq, nodesD_eq, nodesDs_flat, nodesDs_flat]
  simp only [kids, List.map_cons, List.map_flatMap]
  congr 1
  induction L with
  | nil => rfl
  | cons a L ihL =>
    simp only [List.flatMap_cons]
    rw [show d + k + 1 = d + 1 + k by omega, ih a (List.mem_cons_self ..) (d + 1)]
    rw [show d + 1 + k = d + k + 1 by omega, ihL (fun x hx => ih x (List.mem_cons_of_mem _ hx))]
theorem nodes_tmAt : ∀ (p : List Nat) (t : Tm) (d : Nat), okP t p → ∃ k, ∀ q ∈ nodesD d (tmAt t p), (q.1, q.2 + k) ∈ nodesD d t
  | [], t, d, _ => ⟨0, fun q hq => hq⟩
  | i :: p, t, d, h => by
    obtain ⟨k, hk⟩ := nodes_tmAt p (tg t.kids i) d h.2
    refine ⟨k + 1, fun q hq => ?_⟩
    have h1 := hk q hq
    have hm : tg t.kids i ∈ t.kids := tg_in h.1
    rw [nodesD_eq, nodesDs_flat]
    refine List.mem_cons_of_mem _ (List.mem_flatMap.2 ⟨_, hm, ?_⟩)
    rw [nodesD_up 1 _ d]
    exact List.mem_map.2 ⟨_, h1, rfl⟩
theorem sbts_tmAt : ∀ (p : List Nat) (t : Tm), okP t p → ∀ y ∈ sbts (tmAt t p), y ∈ sbts t
  | [], t, _ => fun y hy => hy
  | i :: p, t, h => fun y hy => mem_sbts_kid (tg_in h.1) (sbts_tmAt p _ h.2 y hy)
theorem size_tmAt : ∀ (p : List Nat) (t : Tm), okP t p → (tmAt t p).size ≤ t.size
  | [], t, _ => Nat.le_refl _
  | i :: p, t, h => by
    have h1 := size_tmAt p _ h.2
    have h2 := size_kid (tg_in h.1)
    show (tmAt (tg t.kids i) p).size ≤ _
    omega
theorem okN_less {nm : By → Bool} {x : Tm} {d k : Nat} (h : okN nm (x, d + k) = true) : okN nm (x, d) = true := by
  unfold okN at h ⊢
  rw [Bool.and_eq_true, decide_eq_true_eq] at h ⊢
  exact ⟨by have := h.1; simp only at this ⊢; omega, h.2⟩
theorem vl_sub {l m : List Tm} (h : ∀ x ∈ l, x ∈ m) : ∀ f ∈ vl l, f ∈ vl m := by
  intro f hf
  unfold vl at hf ⊢
  obtain ⟨x, hx, h2⟩ := List.mem_filterMap.1 hf
  exact List.mem_filterMap.2 ⟨x, h x hx, h2⟩
theorem wf_tmAt {nm : By → Bool} {t : Tm} {p : List Nat} (h : wf nm t = true) (hp : okP t p) : wf nm (tmAt t p) = true := by
  unfold wf at h ⊢
  rw [Bool.and_eq_true] at h ⊢
  obtain ⟨h1, h2⟩ := (formed_iff nm t).1 h.1
  refine ⟨(formed_iff nm _).2 ⟨Nat.le_trans (size_tmAt p t hp) h1, fun q hq => ?_⟩, ?_⟩
  · obtain ⟨k, hk⟩ := nodes_tmAt p t 1 hp
    exact okN_less (h2 _ (hk q hq))
  · rw [sortsT_iff] at h ⊢
    have hs := vl_sub (sbts_tmAt p t hp)
    exact fun f hf g hg e => h.2 f (hs f hf) g (hs g hg) e
theorem knows_tmAt {ops : List By} {t : Tm} {p : List Nat} (h : knowsP ops t = true) (hp : okP t p) : knowsP ops (tmAt t p) = true := by
  rw [knowsP_iff] at h ⊢
  intro s hs
  obtain ⟨x, hx, h1, h2⟩ := mem_opN.1 hs
  exact h s (mem_opN.2 ⟨x, sbts_tmAt p t hp x hx, h1, h2⟩)
end Go.Hw

/- What a rewriting leaves is known: pure. -/
namespace Go.Hw
open Tm
set_option linter.unusedVariables false
set_option linter.unusedSimpArgs false
/-- the variables of what is smaller stand in what is greater -/
theorem gt_vars (r : By → Nat) : ∀ (N : Nat) (s t : Tm), s.size + t.size ≤ N → gt r s t = true → ∀ y ∈ sbts t, y.sort ≠ nul → NoP t → y ∈ sbts s
  | 0, s, t, hN, _ => by have := size_pos s; omega
  | N + 1, s, t, hN, hg => by
    intro y hy hsy hp
    obtain ⟨hs, h⟩ := (gt_iff r s t).1 hg
    rcases h with ⟨k, hk, e⟩ | ⟨ht, hall, _⟩
    · have hz := size_kid hk
      rcases e with e | e
      · subst e
        exact mem_sbts_kid hk hy
      · exact mem_sbts_kid hk (gt_vars r N k t (by omega) e y hy hsy hp)
    · rw [sbts_eq, List.mem_cons] at hy
      rcases hy with e | hy
      · subst e
        exact absurd ht hsy
      · obtain ⟨k, hk, hy⟩ := List.mem_flatMap.1 hy
        have hz := size_kid hk
        exact gt_vars r N s k (by omega) (hall k hk) y hy hsy (hp.kid hk)
theorem fil_sub (σ : Sb) : ∀ l : Tm, NoP l → ∀ y ∈ sbts l, filT σ y ∈ sbts (filT σ l) := by
  refine Tm.ind (fun n s L ih => ?_)
  intro hp y hy
  by_cases hs : s = nul
  · subst hs
    rw [sbts_eq, List.mem_cons] at hy
    rcases hy with e | hy
    · subst e
      exact mem_sbts_self _
    · obtain ⟨k, hk, hy⟩ := List.mem_flatMap.1 hy
      rw [filT_op]
      exact mem_sbts_kid (t := .mk n nul (L.map (filT σ))) (List.mem_map_of_mem hk) (ih k hk (hp.kid hk) y hy)
  · have hk : L = [] := hp _ (mem_sbts_self _) hs
    subst hk
    rw [sbts_eq, List.mem_cons] at hy
    rcases hy with e | hy
    · subst e
      exact mem_sbts_self _
    · cases hy
theorem opN_fil (σ : Sb) : ∀ r : Tm, ∀ s ∈ opN (filT σ r), s ∈ opN r ∨ ∃ y ∈ sbts r, y.sort ≠ nul ∧ s ∈ opN (filT σ y) := by
  refine Tm.ind (fun n so L ih => ?_)
  intro s hs
  by_cases h : so = nul
  · subst h
    rw [filT_op, opN_mk, List.mem_append] at hs
    rw [opN_mk, List.mem_append]
    rcases hs with hs | hs
    · exact .inl (.inl hs)
    · obtain ⟨x, hx, hs⟩ := List.mem_flatMap.1 hs
      obtain ⟨k, hk, e⟩ := List.mem_map.1 hx
      subst e
      rcases ih k hk s hs with h1 | ⟨y, hy, h2, h3⟩
      · exact .inl (.inr (List.mem_flatMap.2 ⟨k, hk, h1⟩))
      · exact .inr ⟨y, mem_sbts_kid (t := .mk n nul L) hk hy, h2, h3⟩
  · exact .inr ⟨_, mem_sbts_self _, h, hs⟩
theorem sbts_trans {x y : Tm} : ∀ {t : Tm}, x ∈ sbts t → y ∈ sbts x → y ∈ sbts t := by
  refine fun {t} => Tm.ind (P := fun t => x ∈ sbts t → y ∈ sbts x → y ∈ sbts t) (fun n s L ih => ?_) t
  intro hx hy
  rw [sbts_eq, List.mem_cons] at hx
  rcases hx with e | hx
  · subst e
    exact hy
  · obtain ⟨k, hk, hx⟩ := List.mem_flatMap.1 hx
    exact mem_sbts_kid hk (ih k hk hx hy)
theorem opN_sub {t x : Tm} (hx : x ∈ sbts t) : ∀ s ∈ opN x, s ∈ opN t := by
  intro s hs
  rw [mem_opN] at hs ⊢
  obtain ⟨y, hy, h⟩ := hs
  exact ⟨y, sbts_trans hx hy, h⟩
theorem knows_fil {ops : List By} {ro : By → Nat} {l r : Tm} {σ : Sb} (hg : gt ro l r = true) (hl : NoP l) (hr : NoP r) (hk : knowsP ops r = true) (ht : knowsP ops (filT σ l) = true) : knowsP ops (filT σ r) = true := by
  rw [knowsP_iff] at hk ht ⊢
  intro s hs
  rcases opN_fil σ r s hs with h | ⟨y, hy, h2, h3⟩
  · exact hk s h
  · exact ht s (opN_sub (fil_sub σ l hl y (gt_vars ro _ l r (Nat.le_refl _) hg y hy h2 hr)) s h3)
theorem opN_putAt' (y : Tm) : ∀ (p : List Nat) (t : Tm), okP t p → ∀ s ∈ opN (putAt t p y), s ∈ opN t ∨ s ∈ opN y
  | [], t, _ => fun s hs => by
    have e : putAt t [] y = y := by cases t; rfl
    rw [e] at hs
    exact .inr hs
  | i :: p, t, h => fun s hs => by
    obtain ⟨nm, so, L⟩ := t
    have e : putAt (.mk nm so L) (i :: p) y = .mk nm so (L.set i (putAt (tg L i) p y)) := rfl
    rw [e, opN_mk, List.mem_append] at hs
    rw [opN_mk, List.mem_append]
    rcases hs with hs | hs
    · exact .inl (.inl hs)
    · obtain ⟨x, hx, hs⟩ := List.mem_flatMap.1 hs
      rcases List.mem_or_eq_of_mem_set hx with h1 | h1
      · exact .inl (.inr (List.mem_flatMap.2 ⟨x, h1, hs⟩))
      · subst h1
        rcases opN_putAt' y p (tg L i) h.2 s hs with h2 | h2
        · exact .inl (.inr (List.mem_flatMap.2 ⟨_, tg_in h.1, h2⟩))
        · exact .inr h2
/-- a step of known rules that descend leaves a known term -/
theorem step_knows {ops : List By} {ro : By → Nat} {l : List Rl} (hl : ∀ r ∈ l, gt ro r.1 r.2 = true) (hn : ∀ r ∈ l, NoP r.1 ∧ NoP r.2) (hk : ∀ r ∈ l, knowsP ops r.2 = true) {t : Tm} (ht : knowsP ops t = true) {i : Nat} {p : List Nat} {u : Tm} (h : fndT l t = some (i, p, u)) : knowsP ops (putAt t p u) = true := by
  obtain ⟨h1, h2, h3⟩ := fndT_ok l t i p u h
  obtain ⟨σ, e1, e2⟩ := aplF_ok h3
  have hm := rg_mem h2
  have hu : knowsP ops u = true := by
    rw [← e2]
    exact knows_fil (hl _ hm) (hn _ hm).1 (hn _ hm).2 (hk _ hm) (by rw [e1]; exact knows_tmAt ht h1)
  rw [knowsP_iff] at hu ht ⊢
  intro s hs
  rcases opN_putAt' u p t h1 s hs with h | h
  · exact ht s h
  · exact hu s h
end Go.Hw

/- Arrays of a call's own: a block whose first cells are known. -/
namespace Go.Hw
open Go.RowKit
set_option linter.unusedVariables false
set_option linter.unusedSimpArgs false

/-- block b holds vs, and perhaps more behind them -/
def Arr (w : World) (b : Nat) (T : TypeId) (vs : List Value) : Prop := ∃ cur : Array Value, w.heap[b]? = some (.cells cur T (0, 0)) ∧ ∀ (j : Nat) (v : Value), vs[j]? = some v → cur[j]? = some v
theorem Arr.lt {w : World} {b : Nat} {T : TypeId} {vs : List Value} (h : Arr w b T vs) : b < w.heap.size := by
  obtain ⟨cur, hb, _⟩ := h
  exact (Array.getElem?_eq_some_iff.1 hb).1
theorem Arr.cell {w : World} {b : Nat} {T : TypeId} {vs : List Value} (h : Arr w b T vs) {j : Nat} {v : Value} (hv : vs[j]? = some v) : w.cell? ⟨b, j, none⟩ = some v := by
  obtain ⟨cur, hb, hc⟩ := h
  exact cellRow hb j v (hc j v hv)
theorem Arr.cell0 {w : World} {b : Nat} {T : TypeId} {vs : List Value} (h : Arr w b T vs) {j : Nat} {v : Value} (hv : vs[j]? = some v) : w.cell? ⟨b, 0 + j, none⟩ = some v := by
  rw [Nat.zero_add]; exact h.cell hv
theorem Arr.mark {w : World} {b : Nat} {T : TypeId} {vs : List Value} (h : Arr w b T vs) (j : Nat) : w.frozen? ⟨b, j, none⟩ = false := by
  obtain ⟨cur, hb, hc⟩ := h
  exact frozenRow hb j
theorem Arr.kept {F : Nat → Prop} {w w' : World} {b : Nat} {T : TypeId} {vs : List Value} (h : Arr w b T vs) (hu : Upd F w w') (hF : ¬ F b) : Arr w' b T vs := by
  obtain ⟨cur, hb, hc⟩ := h
  exact ⟨cur, hu.heap hb hF, hc⟩
theorem Arr.set {w : World} {b : Nat} {T : TypeId} {vs : List Value} (h : Arr w b T vs) {j : Nat} (hj : j < vs.length) (u : Value) : Arr (w.setCell ⟨b, j, none⟩ u) b T (vs.set j u) := by
  obtain ⟨cur, hb, hc⟩ := h
  have hsz : j < cur.size := by
    have := hc j vs[j] (by simp [hj])
    exact (Array.getElem?_eq_some_iff.1 this).1
  refine ⟨_, setBlock hb j u, fun i v hi => ?_⟩
  by_cases e : i = j
  · subst e
    rw [List.getElem?_set_self hj] at hi
    rw [← hi]
    simp [hsz]
  · rw [List.getElem?_set_ne (Ne.symm e)] at hi
    have := hc i v hi
    rw [← this]
    simp [Array.getElem?_setIfInBounds, Ne.symm e]
theorem Arr.new (w : World) (T : TypeId) (cs : Array Value) : Arr (w.alloc (.cells cs T)) w.heap.size T cs.toList :=
  ⟨cs, alloc0 w _, fun j v h => by simpa using h⟩
theorem Arr.ofOwn {w : World} {base e n : Nat} {v : Value} {cs : List Value} (h : w.ownsRow base e 1 v n cs) (hn : 0 < n) :
    ∃ g cap, v = .slice (some ⟨g, 0, none⟩) n cap ∧ n ≤ cap ∧ base ≤ g ∧ Arr w g e cs := by
  obtain ⟨hl, ⟨_, h2⟩ | ⟨g, cap, cur, hv, hb, hg, hc, hm, hs, ht⟩⟩ := h
  · omega
  · refine ⟨g, cap, hv, hc, hb, cur, hg, fun j u hu => ?_⟩
    rw [← ht] at hu
    rw [List.getElem?_take] at hu
    split at hu
    · simpa using hu
    · cases hu
theorem Arr.slR {w : World} {b T : Nat} {vs : List Value} (h : Arr w b T vs) {cap : Nat} (hc : vs.length ≤ cap) {S : Nat → Prop} (hS : S b) : SlR S w 1 (.slice (some ⟨b, 0, none⟩) vs.length cap) vs.length vs :=
  SlR.mk' (by simp) rfl hc (fun _ => hS) (fun j hj => by
    have hj' : j < vs.length := by omega
    rw [Nat.zero_add, h.cell (v := vs[j]) (by simp [hj'])]
    simp [hj'])
theorem updAt {w : World} {g j : Nat} (u : Value) : Upd (fun k => k = g) w (w.setCell ⟨g, j, none⟩ u) := (Upd.refl (fun k => k = g) w).setCell (p := ⟨g, j, none⟩) (.inl rfl) u
end Go.Hw
