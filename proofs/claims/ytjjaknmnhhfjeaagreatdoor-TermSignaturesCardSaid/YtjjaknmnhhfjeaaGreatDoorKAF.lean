/- The texts TQ TG L6 TZ SH PZ, one behind the other. -/
import Derived.Test.YtjjaknmnhhfjeaaGreatDoorKAE
import Derived.Test.YtjjaknmnhhfjeaaGreatDoorKAC
import Derived.Test.YtjjaknmnhhfjeaaGreatDoorKAB
/- Terms in memory of one's own: no block stands twice in one. What a store at a path leaves. -/
namespace Go.Hw
open Go.RowKit Tm
set_option linter.unusedVariables false
set_option linter.unusedSimpArgs false
inductive TlO (te : TypeId) (w : World) : (Nat → Prop) → List Tm → Value → Prop
  | mk (B : Nat → Prop) (L : List Tm) (us : List Value) (v : Value) (Bk : Nat → Nat → Prop)
      (hl : us.length = L.length) (hown : w.ownsRow 0 te 3 v L.length (tCells L us))
      (hb : ∀ k, v.ownBlock = some k → B k) (hkb : ∀ i k, i < L.length → Bk i k → B k)
      (hrow : ∀ i k, i < L.length → Bk i k → v.ownBlock ≠ some k)
      (hdis : ∀ i j k, i < L.length → j < L.length → i ≠ j → Bk i k → ¬ Bk j k)
      (hk : ∀ i, i < L.length → TlO te w (Bk i) (tg L i).kids (ug us i)) : TlO te w B L v
section
variable {te : TypeId} {w w' : World} {B B' F S : Nat → Prop} {L : List Tm} {v : Value}
theorem TlO.nil (te : TypeId) (w : World) (B : Nat → Prop) : TlO te w B [] nilS :=
  ⟨B, [], [], nilS, fun _ _ => False, rfl, ⟨rfl, .inl ⟨rfl, rfl⟩⟩, fun k h => by simp [Value.ownBlock] at h, fun i k h => absurd h (Nat.not_lt_zero _), fun i k h => absurd h (Nat.not_lt_zero _), fun i j k h => absurd h (Nat.not_lt_zero _), fun i h => absurd h (Nat.not_lt_zero _)⟩
theorem TlO.weaken (h : TlO te w B L v) (hB : ∀ k, B k → B' k) : TlO te w B' L v := by
  cases h with
  | mk _ _ us _ Bk hl hown hb hkb hrow hdis hk => exact ⟨B', L, us, v, Bk, hl, hown, fun k h => hB k (hb k h), fun i k hi h => hB k (hkb i k hi h), hrow, hdis, hk⟩
theorem TlO.kept (h : TlO te w B L v) (hu : Upd F w w') (hF : ∀ k, B k → ¬ F k) : TlO te w' B L v := by
  induction h with
  | mk B L us v Bk hl hown hb hkb hrow hdis hk ih =>
    exact ⟨B, L, us, v, Bk, hl, own_kept hown hu (fun k hk => hF k (hb k hk)), hb, hkb, hrow, hdis, fun i hi => ih i hi (fun k hk2 => hF k (hkb i k hi hk2))⟩
theorem TlO.read (h : TlO te w B L v) : TlR B w L v := by
  induction h with
  | mk B L us v Bk hl hown hb hkb hrow hdis hk ih =>
    exact .mk L us v hl ((SlR.of_own hown).weaken hb) (fun i hi => (ih i hi).weaken (fun k hk2 => hkb i k hi hk2))
end
def okP : Tm → List Nat → Prop
  | _, [] => True
  | t, i :: p => i < t.kids.length ∧ okP (tg t.kids i) p
def tmAt : Tm → List Nat → Tm
  | t, [] => t
  | t, i :: p => tmAt (tg t.kids i) p
def AdrP (w : World) : List Nat → Nat × Nat → Nat × Nat → Prop
  | [], a, a' => a' = a
  | i :: p, a, a' => ∃ g off n c, w.cell? ⟨a.1, a.2 + 2, none⟩ = some (.slice (some ⟨g, off, none⟩) n c) ∧ AdrP w p (g, off + i * 3) a'
theorem own_setN {w : World} {b : Nat} {e : TypeId} {g cap n size : Nat} {xs : List Value} (h : w.ownsRow b e size (.slice (some ⟨g, 0, none⟩) n cap) n xs) (j : Nat) (u : Value) :
    (w.setCell ⟨g, j, none⟩ u).ownsRow b e size (.slice (some ⟨g, 0, none⟩) n cap) n (xs.set j u) := by
  obtain ⟨h1, ⟨e0, _⟩ | ⟨g', cap', cur, e0, h3, h4, h5, h6, h7, h8⟩⟩ := h
  · cases e0
  · injection e0 with e1 e2 e3
    injection e1 with e1
    injection e1 with e1
    subst e1; subst e3
    refine ⟨by rw [List.length_set]; exact h1, .inr ⟨g, cap, _, rfl, h3, setBlock h4 j u, h5, h6, by rw [Array.size_setIfInBounds]; exact h7, ?_⟩⟩
    rw [← h8, Array.toList_setIfInBounds, List.take_set]
theorem own_row0 {w : World} {b : Nat} {e : TypeId} {size n : Nat} {v : Value} {xs : List Value} (h : w.ownsRow b e size v n xs) (hn : 0 < n) : ∃ g cap cur, v = .slice (some ⟨g, 0, none⟩) n cap ∧ w.heap[g]? = some (.cells cur e (0, 0)) ∧ n * size ≤ cur.size := by
  rcases h.2 with ⟨_, h2⟩ | ⟨g, cap, cur, rfl, hb, hg, hc, hm, hs, ht⟩
  · omega
  · exact ⟨g, cap, cur, rfl, hg, by rw [hs]; exact Nat.mul_le_mul_right _ hc⟩
end Go.Hw

/- Signatures: what the reference says of them, and how they lie in memory. -/
namespace Go.Hw
open Go.RowKit Tm
set_option linter.unusedVariables false
set_option linter.unusedSimpArgs false
abbrev Dc := By × List By × By
abbrev Sg := List By × List Dc
abbrev dg (l : List Dc) (i : Nat) : Dc := l.getD i (nul, [], nul)
def dixN (l : List Dc) (s : By) : Nat := l.findIdx fun d => decide (d.1 = s)
def dixI (l : List Dc) (s : By) : Int := if dixN l s < l.length then (dixN l s : Int) else -1
theorem dg_at {l : List Dc} {i : Nat} (h : i < l.length) : dg l i = l[i] := by unfold dg; rw [List.getD_eq_getElem?_getD, List.getElem?_eq_getElem h]; rfl
theorem dixN_of {l : List Dc} {s : By} {k : Nat} (hk : k < l.length) (h1 : ∀ j, j < k → (dg l j).1 ≠ s) (h2 : (dg l k).1 = s) : dixN l s = k := by
  unfold dixN
  rcases Nat.lt_trichotomy (l.findIdx fun d => decide (d.1 = s)) k with h | h | h
  · have h3 : (l.findIdx fun d => decide (d.1 = s)) < l.length := by omega
    have h4 := List.findIdx_getElem (w := h3)
    rw [decide_eq_true_eq, ← dg_at h3] at h4
    exact absurd h4 (h1 _ h)
  · exact h
  · have h4 := List.not_of_lt_findIdx h
    rw [← dg_at hk, decide_eq_false_iff_not] at h4
    exact absurd h2 h4
theorem dixN_none {l : List Dc} {s : By} (h : ∀ j, j < l.length → (dg l j).1 ≠ s) : ¬ dixN l s < l.length := by
  intro h1
  have h3 : (l.findIdx fun d => decide (d.1 = s)) < l.length := h1
  have h2 := List.findIdx_getElem (w := h3)
  rw [decide_eq_true_eq, ← dg_at h3] at h2
  exact h _ h3 h2
def okD (nm : By → Bool) (g : Sg) (i : Nat) : Bool := nm (dg g.2 i).1 && (decide (dixN g.2 (dg g.2 i).1 = i) && (decide ((dg g.2 i).2.1.length ≤ 6) && (decide ((dg g.2 i).2.2 ∈ g.1) && (dg g.2 i).2.1.all fun s => decide (s ∈ g.1))))
def vsgB (nm : By → Bool) (g : Sg) : Bool := decide (g.1.length ≤ 40) && (decide (g.2.length ≤ 100) && (precP nm g.1 && (List.range g.2.length).all (okD nm g)))
def ownF (g : Sg) (t : Tm) : By := if t.sort ≠ nul then t.sort else if dixN g.2 t.name < g.2.length then (dg g.2 (dixN g.2 t.name)).2.2 else nul
def badK (g : Sg) (L : List Tm) (A : List By) : Bool := (List.range L.length).any fun k => !decide (ownF g (tg L k) = nul) && !decide (ownF g (tg L k) = A.getD k nul)
mutual
def wrongF (g : Sg) : Tm → Int
  | .mk n s L => if s ≠ nul then (if s ∈ g.1 then 0 else 9) else if ¬ dixN g.2 n < g.2.length then 9 else if L.length ≠ (dg g.2 (dixN g.2 n)).2.1.length then 3 else if badK g L (dg g.2 (dixN g.2 n)).2.1 = true then 11 else wrongsF g L
def wrongsF (g : Sg) : List Tm → Int
  | [] => 0
  | a :: L => if wrongF g a ≠ 0 then wrongF g a else wrongsF g L
end
theorem wrongF_mk (g : Sg) (n s : By) (L : List Tm) : wrongF g (.mk n s L) = if s ≠ nul then (if s ∈ g.1 then 0 else 9) else if ¬ dixN g.2 n < g.2.length then 9 else if L.length ≠ (dg g.2 (dixN g.2 n)).2.1.length then 3 else if badK g L (dg g.2 (dixN g.2 n)).2.1 = true then 11 else wrongsF g L := by rw [wrongF]
/-! ### in memory -/
def dCells : List Dc → List Value → List Value
  | [], _ => []
  | d :: l, us => .string d.1 :: us.headD nilS :: .string d.2.2 :: dCells l us.tail
theorem dCells_at : ∀ (l : List Dc) (us : List Value) (i : Nat), i < l.length →
    (dCells l us)[i * 3]? = some (.string (dg l i).1) ∧ (dCells l us)[i * 3 + 1]? = some (ug us i) ∧ (dCells l us)[i * 3 + 2]? = some (.string (dg l i).2.2)
  | d :: l, us, 0, _ => by
    refine ⟨rfl, ?_, rfl⟩
    cases us <;> rfl
  | d :: l, us, i + 1, h => by
    obtain ⟨h0, h1, h2⟩ := dCells_at l us.tail i (by simpa using h)
    have e : ∀ k, (dCells (d :: l) us)[(i + 1) * 3 + k]? = (dCells l us.tail)[i * 3 + k]? := fun k => by
      rw [show (i + 1) * 3 + k = i * 3 + k + 1 + 1 + 1 by omega]
      rfl
    refine ⟨by rw [← Nat.add_zero ((i + 1) * 3), e]; exact h0, ?_, by rw [e]; exact h2⟩
    rw [e, h1]
    cases us <;> rfl
abbrev StrR (S : Nat → Prop) (w : World) (v : Value) (l : List By) : Prop := SlR S w 1 v l.length (l.map Value.string)
def DcR (S : Nat → Prop) (w : World) (v : Value) (l : List Dc) : Prop := ∃ us, SlR S w 3 v l.length (dCells l us) ∧ ∀ i, i < l.length → StrR S w (ug us i) (dg l i).2.1
section
variable {S T F : Nat → Prop} {w w' : World} {v : Value} {l : List Dc}
theorem DcR.shape (h : DcR S w v l) : ∃ a cap, v = .slice a l.length cap := by
  obtain ⟨us, h, _⟩ := h
  exact h.shape
theorem DcR.kept (h : DcR S w v l) (hu : Upd F w w') (hF : ∀ k, S k → ¬ F k) : DcR S w' v l := by
  obtain ⟨us, h, h2⟩ := h
  exact ⟨us, h.kept hu hF, fun i hi => SlR.kept (h2 i hi) hu hF⟩
theorem DcR.ext (h : DcR S w v l) (hu : Ext w w') : DcR S w' v l := h.kept hu (fun _ _ h => h)
theorem DcR.weaken (h : DcR S w v l) (hs : ∀ k, S k → T k) : DcR T w v l := by
  obtain ⟨us, h, h2⟩ := h
  exact ⟨us, h.weaken hs, fun i hi => SlR.weaken (h2 i hi) hs⟩
theorem DcR.at_ {a : Option Addr} {n cap : Nat} (h : DcR S w (.slice a n cap) l) (hl : 0 < l.length) : ∃ g off, a = some ⟨g, off, none⟩ ∧ S g ∧ ∀ i, i < l.length → ∃ xa xc, w.cell? ⟨g, off + i * 3, none⟩ = some (.string (dg l i).1) ∧
    w.cell? ⟨g, off + i * 3 + 1, none⟩ = some (.slice xa (dg l i).2.1.length xc) ∧ w.cell? ⟨g, off + i * 3 + 2, none⟩ = some (.string (dg l i).2.2) ∧ StrR S w (.slice xa (dg l i).2.1.length xc) (dg l i).2.1 := by
  obtain ⟨us, h, h2⟩ := h
  obtain ⟨g, off, cap', e, hc, hS, hj⟩ := h.pos hl
  injection e with e1 e2 e3
  refine ⟨g, off, e1, hS, fun i hi => ?_⟩
  obtain ⟨k0, k1, k2⟩ := dCells_at l us i hi
  obtain ⟨xa, xc, hx⟩ := SlR.shape (h2 i hi)
  have h3 := h2 i hi
  rw [hx] at k1 h3
  exact ⟨xa, xc, by rw [hj _ (by omega), k0], by rw [Nat.add_assoc, hj _ (by omega), k1], by rw [Nat.add_assoc, hj _ (by omega), k2], h3⟩
end
def SgR (S : Nat → Prop) (w : World) (g : Sg) (v : Value) : Prop := ∃ sa sc oa oc, v = .agg #[.slice sa g.1.length sc, .slice oa g.2.length oc] ∧ StrR S w (.slice sa g.1.length sc) g.1 ∧ DcR S w (.slice oa g.2.length oc) g.2
theorem SgR.ext {S : Nat → Prop} {w w' : World} {g : Sg} {v : Value} (h : SgR S w g v) (hu : Ext w w') : SgR S w' g v := by
  obtain ⟨sa, sc, oa, oc, e, h1, h2⟩ := h
  exact ⟨sa, sc, oa, oc, e, SlR.kept h1 hu (fun _ _ h => h), h2.ext hu⟩
end Go.Hw

/- Arrays of a call's own: a block whose first cells are known. -/
namespace Go.Hw
open Go.RowKit
set_option linter.unusedVariables false
set_option linter.unusedSimpArgs false

def Arr (w : World) (b : Nat) (T : TypeId) (vs : List Value) : Prop := ∃ cur : Array Value, w.heap[b]? = some (.cells cur T (0, 0)) ∧ ∀ (j : Nat) (v : Value), vs[j]? = some v → cur[j]? = some v
theorem Arr.lt {w : World} {b : Nat} {T : TypeId} {vs : List Value} (h : Arr w b T vs) : b < w.heap.size := by
  obtain ⟨cur, hb, _⟩ := h
  exact (Array.getElem?_eq_some_iff.1 hb).1
theorem Arr.cell {w : World} {b : Nat} {T : TypeId} {vs : List Value} (h : Arr w b T vs) {j : Nat} {v : Value} (hv : vs[j]? = some v) : w.cell? ⟨b, j, none⟩ = some v := by
  obtain ⟨cur, hb, hc⟩ := h
  exact cellRow hb j v (hc j v hv)
theorem Arr.cell0 {w : World} {b : Nat} {T : TypeId} {vs : List Value} (h : Arr w b T vs) {j : Nat} {v : Value} (hv : vs[j]? = some v) : w.cell? ⟨b, 0 + j, none⟩ = some v := by
  rw [Nat.zero_add]; exact h.cell hv
theorem Arr.kept {F : Nat → Prop} {w w' : World} {b : Nat} {T : TypeId} {vs : List Value} (h : Arr w b T vs) (hu : Upd F w w') (hF : ¬ F b) : Arr w' b T vs := by
  obtain ⟨cur, hb, hc⟩ := h
  exact ⟨cur, hu.heap hb hF, hc⟩
theorem Arr.set {w : World} {b : Nat} {T : TypeId} {vs : List Value} (h : Arr w b T vs) {j : Nat} (hj : j < vs.length) (u : Value) : Arr (w.setCell ⟨b, j, none⟩ u) b T (vs.set j u) := by
  obtain ⟨cur, hb, hc⟩ := h
  have hsz : j < cur.size := by
    have := hc j vs[j] (by simp [hj])
    exact (Array.getElem?_eq_some_iff.1 this).1
  refine ⟨_, setBlock hb j u, fun i v hi => ?_⟩
  by_cases e : i = j
  · subst e
    rw [List.getElem?_set_self hj] at hi
    rw [← hi]
    simp [hsz]
  · rw [List.getElem?_set_ne (Ne.symm e)] at hi
    have := hc i v hi
    rw [← this]
    simp [Array.getElem?_setIfInBounds, Ne.symm e]
theorem Arr.new (w : World) (T : TypeId) (cs : Array Value) : Arr (w.alloc (.cells cs T)) w.heap.size T cs.toList :=
  ⟨cs, alloc0 w _, fun j v h => by simpa using h⟩
end Go.Hw

/- Subterms at paths are well-formed, and known: pure. -/
namespace Go.Hw
open Tm
set_option linter.unusedVariables false
set_option linter.unusedSimpArgs false
end Go.Hw

/- Signatures: what is wrong with a term in preorder; what a put term keeps of its sort: pure. -/
namespace Go.Hw
open Tm
set_option linter.unusedVariables false
set_option linter.unusedSimpArgs false
def dcl (g : Sg) (n : By) : Option Dc := g.2.find? fun o => decide (o.1 = n)
def ownT (g : Sg) (t : Tm) : By := if t.sort ≠ nul then t.sort else match dcl g t.name with
  | some o => o.2.2
  | none => nul
def argE (g : Sg) : List Tm → List By → Bool
  | [], _ => true
  | _ :: _, [] => true
  | x :: L, a :: zs => (decide (ownT g x = nul) || decide (ownT g x = a)) && argE g L zs
def ndE (g : Sg) (t : Tm) : Int := if t.sort ≠ nul then (if t.sort ∈ g.1 then 0 else 9) else match dcl g t.name with
  | none => 9
  | some o => if t.kids.length ≠ o.2.1.length then 3 else if argE g t.kids o.2.1 = true then 0 else 11
def wrgL (g : Sg) : List Tm → Int
  | [] => 0
  | x :: l => if ndE g x ≠ 0 then ndE g x else wrgL g l
def wrgT (g : Sg) (t : Tm) : Int := wrgL g (sbts t)
abbrev WS (g : Sg) (t : Tm) : Prop := ∀ x ∈ sbts t, ndE g x = 0
theorem WS.kid {g : Sg} {t x : Tm} (h : WS g t) (hx : x ∈ t.kids) : WS g x := fun y hy => h y (mem_sbts_kid hx hy)
theorem argE_iff {g : Sg} : ∀ {L : List Tm} {zs : List By}, L.length = zs.length → (argE g L zs = true ↔ ∀ i, i < L.length → ownT g (tg L i) = nul ∨ ownT g (tg L i) = zs.getD i nul)
  | [], zs, _ => by simp [argE]
  | x :: L, [], h => by cases h
  | x :: L, a :: zs, h => by
    unfold argE
    rw [Bool.and_eq_true, Bool.or_eq_true, decide_eq_true_eq, decide_eq_true_eq, argE_iff (L := L) (zs := zs) (by simpa using h)]
    constructor
    · rintro ⟨h1, h2⟩ i hi
      match i, hi with
      | 0, _ => exact h1
      | i + 1, hi => exact h2 i (by simpa using hi)
    · intro h1
      exact ⟨h1 0 (by simp), fun i hi => h1 (i + 1) (by simpa using hi)⟩
def ResOk (g : Sg) : Prop := ∀ o ∈ g.2, o.2.2 ≠ nul
theorem dcl_ix (g : Sg) (n : By) : dcl g n = if dixN g.2 n < g.2.length then some (dg g.2 (dixN g.2 n)) else none := by
  unfold dcl dixN
  generalize g.2 = l
  induction l with
  | nil => rfl
  | cons a l ih =>
    rw [List.find?_cons, List.findIdx_cons]
    by_cases h : a.1 = n
    · rw [decide_eq_true h]
      simp [dg]
    · rw [decide_eq_false h]
      simp only [cond_false, Bool.false_eq_true, if_false]
      rw [ih]
      by_cases h2 : (l.findIdx fun d => decide (d.1 = n)) < l.length
      · rw [if_pos h2, if_pos (by simpa using h2)]; rfl
      · rw [if_neg h2, if_neg (by simpa using h2)]
theorem own_eq (g : Sg) (t : Tm) : ownT g t = ownF g t := by
  unfold ownT ownF
  rw [dcl_ix]
  by_cases h : t.sort ≠ nul
  · rw [if_pos h, if_pos h]
  · rw [if_neg h, if_neg h]
    by_cases h2 : dixN g.2 t.name < g.2.length
    · rw [if_pos h2, if_pos h2]
    · rw [if_neg h2, if_neg h2]
theorem arg_bad (g : Sg) {L : List Tm} {A : List By} (h : L.length = A.length) : argE g L A = !badK g L A := by
  rw [Bool.eq_iff_iff, argE_iff h, Bool.not_eq_true', badK, List.any_eq_false]
  constructor
  · intro h1 k hk
    have := h1 k (List.mem_range.1 hk)
    rw [own_eq] at this
    rcases this with h2 | h2
    · rw [decide_eq_true h2]; simp
    · rw [decide_eq_true h2]; simp
  · intro h1 k hk
    have := h1 k (List.mem_range.2 hk)
    rw [own_eq]
    by_cases h2 : ownF g (tg L k) = nul
    · exact .inl h2
    · by_cases h3 : ownF g (tg L k) = A.getD k nul
      · exact .inr h3
      · rw [decide_eq_false h2, decide_eq_false h3] at this; exact absurd rfl this
theorem nd_eq (g : Sg) (n s : By) (L : List Tm) : ndE g (.mk n s L) = if s ≠ nul then (if s ∈ g.1 then 0 else 9) else if ¬ dixN g.2 n < g.2.length then 9 else if L.length ≠ (dg g.2 (dixN g.2 n)).2.1.length then 3 else if badK g L (dg g.2 (dixN g.2 n)).2.1 = true then 11 else 0 := by
  change (if s ≠ nul then (if s ∈ g.1 then (0 : Int) else 9) else match dcl g n with | none => 9 | some o => if L.length ≠ o.2.1.length then 3 else if argE g L o.2.1 = true then 0 else 11) = _
  by_cases h : s ≠ nul
  · rw [if_pos h, if_pos h]
  · rw [if_neg h, if_neg h, dcl_ix]
    by_cases h2 : dixN g.2 n < g.2.length
    · rw [if_pos h2, if_neg (by simpa using h2)]
      dsimp only
      by_cases h3 : L.length ≠ (dg g.2 (dixN g.2 n)).2.1.length
      · rw [if_pos h3, if_pos h3]
      · rw [if_neg h3, if_neg h3, arg_bad g (Classical.not_not.1 h3)]
        cases badK g L (dg g.2 (dixN g.2 n)).2.1 <;> simp
    · rw [if_neg h2, if_pos h2]
theorem wrgL_app (g : Sg) (a b : List Tm) : wrgL g (a ++ b) = if wrgL g a ≠ 0 then wrgL g a else wrgL g b := by
  induction a with
  | nil => simp [wrgL]
  | cons x a ih =>
    rw [List.cons_append, wrgL, wrgL]
    by_cases h : ndE g x ≠ 0
    · rw [if_pos h, if_pos h, if_pos h]
    · rw [if_neg h, if_neg h, ih]
theorem wrg_eq (g : Sg) : ∀ t : Tm, NoP t → wrgT g t = wrongF g t := by
  refine Tm.ind (fun n s L ih hn => ?_)
  unfold wrgT
  rw [sbts_eq, wrgL, wrongF_mk, nd_eq]
  have hL : wrgL g ((Tm.mk n s L).kids.flatMap sbts) = wrongsF g L := by
    have key : ∀ M : List Tm, (∀ x ∈ M, wrgT g x = wrongF g x) → wrgL g (M.flatMap sbts) = wrongsF g M := by
      intro M
      induction M with
      | nil => intro _; simp [wrgL, wrongsF]
      | cons a M ihM =>
        intro h
        rw [List.flatMap_cons, wrgL_app, wrongsF, ihM (fun x hx => h x (List.mem_cons_of_mem _ hx))]
        have := h a (List.mem_cons_self ..)
        unfold wrgT at this
        rw [this]
    exact key L (fun x hx => ih x hx (hn.kid (t := .mk n s L) hx))
  rw [hL]
  by_cases h1 : s ≠ nul
  · have h5 : L = [] := hn (.mk n s L) (mem_sbts_self _) h1
    subst h5
    rw [if_pos h1, if_pos h1]
    by_cases h2 : s ∈ g.1
    · rw [if_pos h2]; simp [wrongsF]
    · rw [if_neg h2]; simp
  rw [if_neg h1, if_neg h1]
  by_cases h2 : ¬ dixN g.2 n < g.2.length
  · rw [if_pos h2, if_pos h2]; simp
  rw [if_neg h2, if_neg h2]
  by_cases h3 : L.length ≠ (dg g.2 (dixN g.2 n)).2.1.length
  · rw [if_pos h3, if_pos h3]; simp
  rw [if_neg h3, if_neg h3]
  by_cases h4 : badK g L (dg g.2 (dixN g.2 n)).2.1 = true
  · rw [if_pos h4, if_pos h4]; simp
  · rw [if_neg h4, if_neg h4]; simp
end Go.Hw

/- Tokens, in memory and read: pure. -/
namespace Go.Hw
open Go.RowKit Tm
set_option linter.unusedVariables false
set_option linter.unusedSimpArgs false
structure Tok where
  kind : Nat
  text : By
  n : Int
  line : Int
  col : Int
def tok0 : Tok := ⟨0, nul, 0, 0, 0⟩
abbrev tk (l : List Tok) (i : Nat) : Tok := l.getD i tok0
def tkC (t : Tok) : List Value := [.int .i64 (t.kind : Int), .string t.text, .int .i64 t.n, .int .i64 t.line, .int .i64 t.col]
def tkCells : List Tok → List Value
  | [] => []
  | t :: l => .int .i64 (t.kind : Int) :: .string t.text :: .int .i64 t.n :: .int .i64 t.line :: .int .i64 t.col :: tkCells l
theorem tkCells_snoc : ∀ (l : List Tok) (t : Tok), tkCells (l ++ [t]) = tkCells l ++ tkC t
  | [], t => rfl
  | a :: l, t => by simp only [List.cons_append, tkCells, tkCells_snoc l t]
theorem tkCells_at : ∀ (l : List Tok) (i : Nat), i < l.length →
    (tkCells l)[i * 5]? = some (.int .i64 ((tk l i).kind : Int)) ∧ (tkCells l)[i * 5 + 1]? = some (.string (tk l i).text) ∧ (tkCells l)[i * 5 + 2]? = some (.int .i64 (tk l i).n) ∧ (tkCells l)[i * 5 + 3]? = some (.int .i64 (tk l i).line) ∧ (tkCells l)[i * 5 + 4]? = some (.int .i64 (tk l i).col)
  | t :: l, 0, _ => ⟨rfl, rfl, rfl, rfl, rfl⟩
  | t :: l, i + 1, h => by
    obtain ⟨h0, h1, h2, h3, h4⟩ := tkCells_at l i (by simpa using h)
    have e : ∀ k, (tkCells (t :: l))[(i + 1) * 5 + k]? = (tkCells l)[i * 5 + k]? := fun k => by
      rw [show (i + 1) * 5 + k = i * 5 + k + 1 + 1 + 1 + 1 + 1 by omega]
      rfl
    exact ⟨by rw [← Nat.add_zero ((i + 1) * 5), e]; exact h0, by rw [e]; exact h1, by rw [e]; exact h2, by rw [e]; exact h3, by rw [e]; exact h4⟩
def TkR (S : Nat → Prop) (w : World) (v : Value) (l : List Tok) : Prop := SlR S w 5 v l.length (tkCells l)
theorem TkR.kept {S F : Nat → Prop} {w w' : World} {v : Value} {l : List Tok} (h : TkR S w v l) (hu : Upd F w w') (hF : ∀ k, S k → ¬ F k) : TkR S w' v l := SlR.kept h hu hF
theorem TkR.ext {S : Nat → Prop} {w w' : World} {v : Value} {l : List Tok} (h : TkR S w v l) (hu : Ext w w') : TkR S w' v l := SlR.kept h hu (fun _ _ h => h)
theorem TkR.at_ {S : Nat → Prop} {w : World} {l : List Tok} {a : Option Addr} {n cap : Nat} (h : TkR S w (.slice a n cap) l) (hl : 0 < l.length) :
    n = l.length ∧ ∃ g off, a = some ⟨g, off, none⟩ ∧ S g ∧ ∀ i, i < l.length → w.cell? ⟨g, off + i * 5, none⟩ = some (.int .i64 ((tk l i).kind : Int)) ∧ w.cell? ⟨g, off + i * 5 + 1, none⟩ = some (.string (tk l i).text) ∧
      w.cell? ⟨g, off + i * 5 + 2, none⟩ = some (.int .i64 (tk l i).n) ∧ w.cell? ⟨g, off + i * 5 + 3, none⟩ = some (.int .i64 (tk l i).line) ∧ w.cell? ⟨g, off + i * 5 + 4, none⟩ = some (.int .i64 (tk l i).col) := by
  obtain ⟨g, off, cap', e, hc, hS, hj⟩ := SlR.pos h hl
  injection e with e1 e2 e3
  refine ⟨e2, g, off, e1, hS, fun i hi => ?_⟩
  obtain ⟨h0, h1, h2, h3, h4⟩ := tkCells_at l i hi
  exact ⟨by rw [hj _ (by omega), h0], by rw [Nat.add_assoc, hj _ (by omega), h1], by rw [Nat.add_assoc, hj _ (by omega), h2], by rw [Nat.add_assoc, hj _ (by omega), h3], by rw [Nat.add_assoc, hj _ (by omega), h4]⟩
/-! ### what is read from tokens -/
def isB (t : Tok) (s : By) : Bool := (decide (t.kind = 4) || decide (t.kind = 3)) && decide (t.text = s)
inductive PR (α : Type) where
  | ok (x : α) (i : Nat)
  | bad (i : Nat)
def PR.at {α : Type} : PR α → Nat
  | .ok _ i => i
  | .bad i => i
def sLp : By := ⟨#[40]⟩
def sRp : By := ⟨#[41]⟩
def sCm : By := ⟨#[44]⟩
def sCl : By := ⟨#[58]⟩
def pL {α : Type} (el : Nat → PR α) (l : List Tok) : Nat → Nat → Bool → List α → PR (List α)
  | 0, i, _, _ => .bad i
  | m + 1, i, first, xs => if isB (tk l i) sRp = true then .ok xs (i + 1) else
    if first = false ∧ isB (tk l i) sCm = false then .bad i else
    match el (if first = true then i else i + 1) with
    | .bad j => .bad j
    | .ok x j => pL el l m j false (xs ++ [x])
def pP {α : Type} (el : Nat → PR α) (l : List Tok) (i : Nat) : PR (List α) := if isB (tk l i) sLp = true then pL el l (l.length - i) (i + 1) true [] else .bad i
def pT (l : List Tok) : Nat → Nat → PR Tm
  | 0, i => .bad i
  | n + 1, i => if (tk l i).kind ≠ 1 then .bad i else
    if isB (tk l (i + 1)) sCl = true then (if (tk l (i + 2)).kind ≠ 1 then .bad (i + 2) else .ok (.mk (tk l i).text (tk l (i + 2)).text []) (i + 3)) else
    match pP (pT l n) l (i + 1) with
    | .bad j => .bad j
    | .ok L j => .ok (.mk (tk l i).text nul L) j
structure Ended (l : List Tok) : Prop where
  pos : 0 < l.length
  fin : (tk l (l.length - 1)).kind = 5
  inn : ∀ i, i < l.length - 1 → (tk l i).kind ≠ 5
theorem Ended.next {l : List Tok} (h : Ended l) {i : Nat} (hi : i < l.length) (hk : (tk l i).kind ≠ 5) : i + 1 < l.length := by
  rcases Nat.lt_or_ge (i + 1) l.length with h1 | h1
  · exact h1
  · have : i = l.length - 1 := by omega
    rw [this, h.fin] at hk
    exact absurd rfl hk
theorem isB_kind {t : Tok} {s : By} (h : isB t s = true) : t.kind ≠ 5 := by
  unfold isB at h
  rw [Bool.and_eq_true, Bool.or_eq_true, decide_eq_true_eq, decide_eq_true_eq] at h
  omega
theorem Ended.isB {l : List Tok} (h : Ended l) {i : Nat} (hi : i < l.length) {s : By} (hb : isB (tk l i) s = true) : i + 1 < l.length := h.next hi (isB_kind hb)
def Fwd {α : Type} (l : List Tok) (el : Nat → PR α) : Prop := ∀ i, i < l.length → i ≤ (el i).at ∧ (el i).at < l.length ∧ ∀ x j, el i = .ok x j → i < j
theorem pL_fwd {α : Type} {l : List Tok} (h : Ended l) {el : Nat → PR α} (he : Fwd l el) : ∀ (m i : Nat) (first : Bool) (xs : List α), i < l.length → i ≤ (pL el l m i first xs).at ∧ (pL el l m i first xs).at < l.length
  | 0, i, _, _, hi => ⟨Nat.le_refl _, hi⟩
  | m + 1, i, first, xs, hi => by
    unfold pL
    by_cases h1 : Hw.isB (tk l i) sRp = true
    · rw [if_pos h1]
      exact ⟨Nat.le_succ _, h.isB hi h1⟩
    rw [if_neg h1]
    by_cases h2 : first = false ∧ Hw.isB (tk l i) sCm = false
    · rw [if_pos h2]
      exact ⟨Nat.le_refl _, hi⟩
    rw [if_neg h2]
    have hi2 : (if first = true then i else i + 1) < l.length ∧ i ≤ (if first = true then i else i + 1) := by
      cases first
      · have h3 : Hw.isB (tk l i) sCm = true := by
          cases h4 : Hw.isB (tk l i) sCm
          · exact absurd ⟨rfl, h4⟩ h2
          · rfl
        rw [if_neg (by decide)]
        exact ⟨h.isB hi h3, Nat.le_succ _⟩
      · rw [if_pos rfl]; exact ⟨hi, Nat.le_refl _⟩
    obtain ⟨h5, h6, h7⟩ := he _ hi2.1
    cases he2 : el (if first = true then i else i + 1) with
    | bad j => rw [he2] at h5 h6; exact ⟨Nat.le_trans hi2.2 h5, h6⟩
    | ok x j =>
      rw [he2] at h5 h6
      have h8 := pL_fwd h he m j false (xs ++ [x]) h6
      exact ⟨Nat.le_trans hi2.2 (Nat.le_trans h5 h8.1), h8.2⟩
theorem pP_fwd {α : Type} {l : List Tok} (h : Ended l) {el : Nat → PR α} (he : Fwd l el) {i : Nat} (hi : i < l.length) : i ≤ (pP el l i).at ∧ (pP el l i).at < l.length ∧ ∀ xs j, pP el l i = .ok xs j → i < j := by
  unfold pP
  by_cases h1 : Hw.isB (tk l i) sLp = true
  · rw [if_pos h1]
    have h2 := pL_fwd h he (l.length - i) (i + 1) true [] (h.isB hi h1)
    exact ⟨by omega, h2.2, fun xs j e => by rw [e] at h2; have := h2.1; simp only [PR.at] at this; omega⟩
  · rw [if_neg h1]
    exact ⟨Nat.le_refl _, hi, fun xs j e => by cases e⟩
theorem pT_fwd {l : List Tok} (h : Ended l) : ∀ n, Fwd l (pT l n)
  | 0, i, hi => ⟨Nat.le_refl _, hi, fun x j e => by cases e⟩
  | n + 1, i, hi => by
    unfold pT
    by_cases h1 : (tk l i).kind ≠ 1
    · rw [if_pos h1]
      exact ⟨Nat.le_refl _, hi, fun x j e => by cases e⟩
    rw [if_neg h1]
    have hi1 := h.next hi (by omega)
    by_cases h2 : Hw.isB (tk l (i + 1)) sCl = true
    · rw [if_pos h2]
      have hi2 := h.isB hi1 h2
      by_cases h3 : (tk l (i + 2)).kind ≠ 1
      · rw [if_pos h3]
        exact ⟨by simp only [PR.at]; omega, hi2, fun x j e => by cases e⟩
      · rw [if_neg h3]
        exact ⟨by simp only [PR.at]; omega, h.next hi2 (by omega), fun x j e => by injection e; omega⟩
    rw [if_neg h2]
    obtain ⟨h4, h5, h6⟩ := pP_fwd h (pT_fwd h n) hi1
    cases hp : pP (pT l n) l (i + 1) with
    | bad j => rw [hp] at h4 h5; exact ⟨by simp only [PR.at] at *; omega, h5, fun x j e => by cases e⟩
    | ok L j => rw [hp] at h4 h5; exact ⟨by simp only [PR.at] at *; omega, h5, fun x j e => by injection e with e1 e2; simp only [PR.at] at *; omega⟩
theorem pL_size {l : List Tok} {el : Nat → PR Tm} (he : ∀ i x j, el i = .ok x j → x.size + i ≤ j) : ∀ (m i : Nat) (first : Bool) (xs : List Tm) (ys : List Tm) (j : Nat), pL el l m i first xs = .ok ys j → sizes ys + i ≤ sizes xs + j
  | 0, i, _, _, _, _, e => by cases e
  | m + 1, i, first, xs, ys, j, e => by
    unfold pL at e
    by_cases h1 : Hw.isB (tk l i) sRp = true
    · rw [if_pos h1] at e
      injection e with e1 e2
      subst e1; omega
    rw [if_neg h1] at e
    by_cases h2 : first = false ∧ Hw.isB (tk l i) sCm = false
    · rw [if_pos h2] at e; cases e
    rw [if_neg h2] at e
    cases he2 : el (if first = true then i else i + 1) with
    | bad k => rw [he2] at e; cases e
    | ok x k =>
      rw [he2] at e
      have h3 := pL_size he m k false (xs ++ [x]) ys j e
      have h4 := he _ _ _ he2
      rw [sizes_append] at h3
      simp only [sizes] at h3
      have : i ≤ (if first = true then i else i + 1) := by split <;> omega
      omega
theorem pT_size {l : List Tok} : ∀ (n i : Nat) (x : Tm) (j : Nat), pT l n i = .ok x j → x.size + i ≤ j
  | 0, i, x, j, e => by cases e
  | n + 1, i, x, j, e => by
    unfold pT at e
    by_cases h1 : (tk l i).kind ≠ 1
    · rw [if_pos h1] at e; cases e
    rw [if_neg h1] at e
    by_cases h2 : Hw.isB (tk l (i + 1)) sCl = true
    · rw [if_pos h2] at e
      by_cases h3 : (tk l (i + 2)).kind ≠ 1
      · rw [if_pos h3] at e; cases e
      · rw [if_neg h3] at e
        injection e with e1 e2
        subst e1
        simp [size, sizes]; omega
    rw [if_neg h2] at e
    cases hp : pP (pT l n) l (i + 1) with
    | bad k => rw [hp] at e; cases e
    | ok L k =>
      rw [hp] at e
      injection e with e1 e2
      subst e1; subst e2
      unfold pP at hp
      by_cases h4 : Hw.isB (tk l (i + 1)) sLp = true
      · rw [if_pos h4] at hp
        have h5 := pL_size (fun i x j h => pT_size n i x j h) _ _ _ _ _ _ hp
        rw [size_eq]
        simp only [Tm.kids]
        simp only [sizes] at h5
        omega
      · rw [if_neg h4] at hp; cases hp
end Go.Hw
