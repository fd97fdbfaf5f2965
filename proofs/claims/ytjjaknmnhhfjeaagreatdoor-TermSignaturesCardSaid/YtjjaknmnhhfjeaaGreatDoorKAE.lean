/- The texts TL TO TN PP TX, one behind the other. -/
import Derived.Test.YtjjaknmnhhfjeaaGreatDoorKAB
import Derived.Lib.ItoaNum
/- The lexicographic path order: pure. -/
namespace Go.Hw
open Tm
set_option linter.unusedVariables false
set_option linter.unusedSimpArgs false
end Go.Hw

/- The path order: contexts, terms without variables, substitutions. -/
namespace Go.Hw
open Tm
set_option linter.unusedVariables false
set_option linter.unusedSimpArgs false
def NoP (t : Tm) : Prop := ∀ x ∈ sbts t, x.sort ≠ nul → x.kids = []
theorem NoP.kid {t x : Tm} (h : NoP t) (hx : x ∈ t.kids) : NoP x := fun y hy => h y (mem_sbts_kid hx hy)
structure Grd (r : By → Nat) (ar : By → Nat) (K : By → Prop) (t : Tm) : Prop where
  op : ∀ x ∈ sbts t, x.sort = nul
  ar : ∀ x ∈ sbts t, x.kids.length = ar x.name
  kn : ∀ x ∈ sbts t, K x.name
theorem Grd.kid {r ar : By → Nat} {K : By → Prop} {t x : Tm} (h : Grd r ar K t) (hx : x ∈ t.kids) : Grd r ar K x := ⟨fun y hy => h.op y (mem_sbts_kid hx hy), fun y hy => h.ar y (mem_sbts_kid hx hy), fun y hy => h.kn y (mem_sbts_kid hx hy)⟩
/- a substitution: what stands for a variable -/
end Go.Hw

/- Numbered terms, their keys, and the path order by numbers: pure. -/
namespace Go.Hw
open Tm
set_option linter.unusedVariables false
set_option linter.unusedSimpArgs false
abbrev Nt := Tm × List Nat
abbrev ng (N : List Nt) (i : Nat) : Nt := N.getD i (default, [])
structure Num (N : List Nt) : Prop where
  kid : ∀ i, i < N.length → ∀ k ∈ (ng N i).2, k < i
  map : ∀ i, i < N.length → (ng N i).2.map (fun k => (ng N k).1) = (ng N i).1.kids
theorem ng_left {N : List Nt} (M : List Nt) {i : Nat} (h : i < N.length) : ng (N ++ M) i = ng N i := by
  unfold ng
  rw [List.getD_eq_getElem?_getD, List.getD_eq_getElem?_getD, List.getElem?_append_left h]
theorem ng_last (N : List Nt) (x : Nt) : ng (N ++ [x]) N.length = x := by
  unfold ng
  rw [List.getD_eq_getElem?_getD, List.getElem?_concat_length]
  rfl
theorem ng_pre {N N' : List Nt} (h : N <+: N') {i : Nat} (hi : i < N.length) : ng N' i = ng N i := by
  obtain ⟨M, rfl⟩ := h
  exact ng_left M hi
theorem Num.nil : Num [] := ⟨fun i h => by simp at h, fun i h => by simp at h⟩
theorem Num.snoc {N : List Nt} (h : Num N) (t : Tm) (ks : List Nat) (h1 : ∀ k ∈ ks, k < N.length) (h2 : ks.map (fun k => (ng N k).1) = t.kids) : Num (N ++ [(t, ks)]) := by
  have hm : ∀ (l : List Nat), (∀ k ∈ l, k < N.length) → l.map (fun k => (ng (N ++ [(t, ks)]) k).1) = l.map (fun k => (ng N k).1) := fun l hl =>
    List.map_congr_left fun k hk => by rw [ng_left _ (hl k hk)]
  refine ⟨fun i hi k hk => ?_, fun i hi => ?_⟩
  · rw [List.length_append, List.length_singleton] at hi
    by_cases hl : i < N.length
    · rw [ng_left _ hl] at hk
      exact h.kid i hl k hk
    · obtain rfl : i = N.length := by omega
      rw [ng_last] at hk
      exact h1 k hk
  · rw [List.length_append, List.length_singleton] at hi
    by_cases hl : i < N.length
    · rw [ng_left _ hl, hm _ (fun k hk => Nat.lt_trans (h.kid i hl k hk) hl)]
      exact h.map i hl
    · obtain rfl : i = N.length := by omega
      rw [ng_last, hm _ h1]
      exact h2
def Uniq (N : List Nt) : Prop := ∀ i j, i < N.length → j < N.length → (ng N i).1 = (ng N j).1 → i = j
theorem Uniq.nil : Uniq [] := fun i j h => by simp at h
theorem Uniq.snoc {N : List Nt} (h : Uniq N) (t : Tm) (ks : List Nat) (hn : ∀ i, i < N.length → (ng N i).1 ≠ t) : Uniq (N ++ [(t, ks)]) := by
  intro i j hi hj e
  rw [List.length_append, List.length_singleton] at hi hj
  by_cases h1 : i < N.length
  · rw [ng_left _ h1] at e
    by_cases h2 : j < N.length
    · rw [ng_left _ h2] at e
      exact h i j h1 h2 e
    · obtain rfl : j = N.length := by omega
      rw [ng_last] at e
      exact absurd e (hn i h1)
  · obtain rfl : i = N.length := by omega
    rw [ng_last] at e
    by_cases h2 : j < N.length
    · rw [ng_left _ h2] at e
      exact absurd e.symm (hn j h2)
    · omega
/-! ### keys -/
def valD (l : List UInt8) : Nat := l.foldl (fun a c => 10 * a + (c.toNat - 48)) 0
def NoCS (b : By) : Prop := (58 : UInt8) ∉ b.data.toList ∧ (32 : UInt8) ∉ b.data.toList
theorem NoCS.nul : NoCS nul := ⟨by simp [Go.Hw.nul], by simp [Go.Hw.nul]⟩
/-! ### the order, case by case -/
/- a variable occurs -/
end Go.Hw

/- Precedences, operations of terms, and the search for a precedence: pure. -/
namespace Go.Hw
open Tm
set_option linter.unusedVariables false
set_option linter.unusedSimpArgs false
instance byMem (s : By) (l : List By) : Decidable (s ∈ l) := decidable_of_iff (l.any (fun x => decide (x = s)) = true) (by
  rw [List.any_eq_true]
  exact ⟨fun ⟨x, hx, h⟩ => of_decide_eq_true h ▸ hx, fun h => ⟨s, h, decide_eq_true rfl⟩⟩)
def ixF (l : List By) (s : By) : Nat := l.findIdx fun x => decide (x = s)
theorem ixF_le (l : List By) (s : By) : ixF l s ≤ l.length := List.findIdx_le_length
theorem ixF_lt {l : List By} {s : By} (h : s ∈ l) : ixF l s < l.length := List.findIdx_lt_length_of_exists ⟨s, h, by simp⟩
theorem ixF_mem {l : List By} {s : By} (h : ixF l s < l.length) : s ∈ l := by
  have := List.findIdx_getElem (w := h)
  rw [decide_eq_true_eq] at this
  rw [← this]
  exact List.getElem_mem h
theorem ixF_at {l : List By} {s : By} (h : s ∈ l) : l.getD (ixF l s) nul = s := by
  have h1 := ixF_lt h
  have := List.findIdx_getElem (w := h1)
  rw [decide_eq_true_eq] at this
  rw [List.getD_eq_getElem?_getD, List.getElem?_eq_getElem h1]
  exact this
theorem ixF_not {l : List By} {s : By} {j : Nat} (h : j < ixF l s) : l.getD j nul ≠ s := by
  have h1 : j < l.length := Nat.lt_of_lt_of_le h (ixF_le l s)
  have := List.not_of_lt_findIdx h
  simp only [decide_eq_false_iff_not] at this
  rw [List.getD_eq_getElem?_getD, List.getElem?_eq_getElem h1]
  simpa using this
theorem ixF_of {l : List By} {s : By} {k : Nat} (hk : k < l.length) (h1 : ∀ j, j < k → l.getD j nul ≠ s) (h2 : l.getD k nul = s) : ixF l s = k := by
  have hm : s ∈ l := by
    rw [← h2, List.getD_eq_getElem?_getD, List.getElem?_eq_getElem hk]
    exact List.getElem_mem hk
  rcases Nat.lt_trichotomy (ixF l s) k with h | h | h
  · exact absurd (ixF_at hm) (h1 _ h)
  · exact h
  · exact absurd h2 (ixF_not h)
theorem ixF_none {l : List By} {s : By} (h : ∀ j, j < l.length → l.getD j nul ≠ s) : ixF l s = l.length := by
  rcases Nat.lt_or_eq_of_le (ixF_le l s) with h1 | h1
  · exact absurd (ixF_at (ixF_mem h1)) (h _ h1)
  · exact h1
theorem mem_ix {l : List By} {s : By} : s ∈ l ↔ ixF l s < l.length := ⟨ixF_lt, ixF_mem⟩
def Dif (l : List By) : Prop := l.Pairwise (· ≠ ·)
theorem Dif.ix {l : List By} (h : Dif l) {k : Nat} (hk : k < l.length) : ixF l (l.getD k nul) = k := by
  refine ixF_of hk (fun j hj => ?_) rfl
  rw [List.getD_eq_getElem?_getD, List.getD_eq_getElem?_getD, List.getElem?_eq_getElem hk, List.getElem?_eq_getElem (Nat.lt_trans hj hk)]
  exact List.pairwise_iff_getElem.1 h j k (Nat.lt_trans hj hk) hk hj
def precP (nm : By → Bool) (ops : List By) : Bool := decide (ops.length ≤ 100) && (List.range ops.length).all fun i => nm (ops.getD i nul) && !decide (ops.getD i nul ∈ ops.take i)
theorem precP_iff (nm : By → Bool) (ops : List By) : precP nm ops = true ↔ ops.length ≤ 100 ∧ (∀ s ∈ ops, nm s = true) ∧ Dif ops := by
  unfold precP
  rw [Bool.and_eq_true, decide_eq_true_eq, List.all_eq_true]
  refine and_congr_right fun _ => ?_
  have hget : ∀ i, (h : i < ops.length) → ops.getD i nul = ops[i] := fun i h => by rw [List.getD_eq_getElem?_getD, List.getElem?_eq_getElem h]; rfl
  constructor
  · intro h
    have h' : ∀ i, (hi : i < ops.length) → nm ops[i] = true ∧ ops[i] ∉ ops.take i := fun i hi => by
      have := h i (List.mem_range.2 hi)
      rw [Bool.and_eq_true, Bool.not_eq_true', decide_eq_false_iff_not, hget i hi] at this
      exact this
    refine ⟨fun s hs => ?_, List.pairwise_iff_getElem.2 fun i j hi hj hij e => ?_⟩
    · obtain ⟨i, hi, rfl⟩ := List.mem_iff_getElem.1 hs
      exact (h' i hi).1
    · refine (h' j hj).2 ?_
      rw [← e, List.mem_take_iff_getElem]
      exact ⟨i, by omega, rfl⟩
  · rintro ⟨h1, h2⟩ i hi
    have hi := List.mem_range.1 hi
    rw [Bool.and_eq_true, Bool.not_eq_true', decide_eq_false_iff_not, hget i hi]
    refine ⟨h1 _ (List.getElem_mem hi), fun hm => ?_⟩
    obtain ⟨j, hj, e⟩ := List.mem_take_iff_getElem.1 hm
    exact List.pairwise_iff_getElem.1 h2 j i (by omega) hi (by omega) e
theorem precP_stop {nm : By → Bool} {ops : List By} {k : Nat} (hk : k < ops.length) (h : nm (ops.getD k nul) = false ∨ ops.getD k nul ∈ ops.take k) : precP nm ops = false := by
  rw [Bool.eq_false_iff]
  intro h2
  obtain ⟨_, h3, h4⟩ := (precP_iff nm ops).1 h2
  rw [List.getD_eq_getElem?_getD, List.getElem?_eq_getElem hk] at h
  rcases h with h | h
  · rw [Option.getD_some, h3 _ (List.getElem_mem hk)] at h; cases h
  · obtain ⟨j, hj, e⟩ := List.mem_take_iff_getElem.1 h
    exact List.pairwise_iff_getElem.1 h4 j k (by omega) hk (by omega) e
/-! ### operations -/
/-! ### rules -/
end Go.Hw

/- Lists of lists in memory. -/
namespace Go.Hw
open Go.RowKit Tm
set_option linter.unusedVariables false
set_option linter.unusedSimpArgs false
abbrev natV (k : Nat) : Value := .int .i64 (k : Int)
theorem SlR.one_at {β : Type} {enc : β → Value} {d : β} {S : Nat → Prop} {w : World} {a : Option Addr} {n cap : Nat} {l : List β} (h : SlR S w 1 (.slice a n cap) l.length (l.map enc)) (hl : 0 < l.length) :
    ∃ g off, a = some ⟨g, off, none⟩ ∧ S g ∧ ∀ i, i < l.length → w.cell? ⟨g, off + i, none⟩ = some (enc (l.getD i d)) := by
  obtain ⟨g, off, c, e, _, hS, hj⟩ := SlR.pos h hl
  injection e with e1 e2 e3
  refine ⟨g, off, e1, hS, fun i hi => ?_⟩
  rw [hj i (by omega), List.getElem?_map, List.getElem?_eq_getElem hi, List.getD_eq_getElem?_getD, List.getElem?_eq_getElem hi]
  rfl
def LlR {β : Type} (enc : β → Value) (S : Nat → Prop) (w : World) (v : Value) (LL : List (List β)) : Prop :=
  ∃ us : List Value, us.length = LL.length ∧ SlR S w 1 v LL.length us ∧ ∀ i, i < LL.length → SlR S w 1 (ug us i) (LL.getD i []).length ((LL.getD i []).map enc)
section
variable {β : Type} {enc : β → Value} {S T F : Nat → Prop} {w w' : World} {v : Value} {LL : List (List β)}
theorem LlR.shape (h : LlR enc S w v LL) : ∃ a cap, v = .slice a LL.length cap := by
  obtain ⟨us, _, h, _⟩ := h
  exact h.shape
theorem LlR.kept (h : LlR enc S w v LL) (hu : Upd F w w') (hF : ∀ k, S k → ¬ F k) : LlR enc S w' v LL := by
  obtain ⟨us, h1, h2, h3⟩ := h
  exact ⟨us, h1, h2.kept hu hF, fun i hi => (h3 i hi).kept hu hF⟩
theorem LlR.ext (h : LlR enc S w v LL) (hu : Ext w w') : LlR enc S w' v LL := h.kept hu (fun _ _ h => h)
theorem LlR.weaken (h : LlR enc S w v LL) (hs : ∀ k, S k → T k) : LlR enc T w v LL := by
  obtain ⟨us, h1, h2, h3⟩ := h
  exact ⟨us, h1, h2.weaken hs, fun i hi => (h3 i hi).weaken hs⟩
theorem LlR.at_ {a : Option Addr} {n cap : Nat} (h : LlR enc S w (.slice a n cap) LL) (hl : 0 < LL.length) :
    ∃ g off, a = some ⟨g, off, none⟩ ∧ S g ∧ ∀ i, i < LL.length → ∃ a' cap', w.cell? ⟨g, off + i, none⟩ = some (.slice a' (LL.getD i []).length cap') ∧ SlR S w 1 (.slice a' (LL.getD i []).length cap') (LL.getD i []).length ((LL.getD i []).map enc) := by
  obtain ⟨us, h1, h2, h3⟩ := h
  obtain ⟨g, off, c, e, _, hS, hj⟩ := h2.pos hl
  injection e with e1 e2 e3
  refine ⟨g, off, e1, hS, fun i hi => ?_⟩
  have h4 := h3 i hi
  obtain ⟨a', cap', e'⟩ := h4.shape
  rw [e'] at h4
  refine ⟨a', cap', ?_, h4⟩
  rw [hj i (by omega), ← e']
  unfold ug
  rw [List.getD_eq_getElem?_getD, List.getElem?_eq_getElem (by omega)]
  rfl
end
theorem ng_map1 (N : List Nt) (i : Nat) (h : i < N.length) : tg (N.map (·.1)) i = (ng N i).1 := by
  unfold tg ng
  rw [List.getD_eq_getElem?_getD, List.getD_eq_getElem?_getD, List.getElem?_map, List.getElem?_eq_getElem h]
  rfl
theorem ng_map2 (N : List Nt) (i : Nat) (h : i < N.length) : (N.map (·.2)).getD i [] = (ng N i).2 := by
  unfold ng
  rw [List.getD_eq_getElem?_getD, List.getD_eq_getElem?_getD, List.getElem?_map, List.getElem?_eq_getElem h]
  rfl
theorem Num.len {N : List Nt} (h : Num N) {i : Nat} (hi : i < N.length) : (ng N i).2.length = (ng N i).1.kids.length := by rw [← h.map i hi, List.length_map]
end Go.Hw
