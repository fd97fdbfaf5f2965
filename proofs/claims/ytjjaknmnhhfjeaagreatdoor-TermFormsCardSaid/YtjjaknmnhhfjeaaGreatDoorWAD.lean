/- The texts VB TQ TZ SH PZ, one behind the other. -/
import Derived.Test.YtjjaknmnhhfjeaaGreatDoorWAB
import Derived.Shelf.SlSortCmp.NoneTotal
import Derived.Lib.Bytealg
import Derived.Test.YtjjaknmnhhfjeaaGreatDoorWAC
/- Sorting rows by names: pure, and the worlds of the sort. -/
namespace Go.Hw
open Go.RowKit Go.Sort Go.Proofs Tm
set_option linter.unusedVariables false
set_option linter.unusedSimpArgs false
theorem cmpBytes_eq : ∀ a b : List UInt8, Go.Lib.compareBytes a b = if a < b then -1 else if b < a then 1 else 0
  | [], [] => by simp [Go.Lib.compareBytes]
  | [], _ :: _ => by simp [Go.Lib.compareBytes]
  | _ :: _, [] => by simp [Go.Lib.compareBytes]
  | a :: al, b :: bl => by
    have ih := cmpBytes_eq al bl
    unfold Go.Lib.compareBytes
    rw [ih]
    have e1 : (a :: al < b :: bl) ↔ (a < b ∨ a = b ∧ al < bl) := List.cons_lt_cons_iff
    have e2 : (b :: bl < a :: al) ↔ (b < a ∨ b = a ∧ bl < al) := List.cons_lt_cons_iff
    simp only [e1, e2]
    by_cases h1 : a < b
    · rw [if_pos h1, if_pos (.inl h1)]
    · rw [if_neg h1]
      by_cases h2 : b < a
      · rw [if_pos h2]
        have hne : ¬ a = b := fun e => h1 (by rw [e] at h2 ⊢; exact h2)
        rw [if_neg (fun h => h.elim h1 (fun h => hne h.1)), if_pos (.inl h2)]
      · rw [if_neg h2]
        have he : a = b := by
          rcases Nat.lt_trichotomy a.toNat b.toNat with h | h | h
          · exact absurd h h1
          · exact UInt8.toNat_inj.1 h
          · exact absurd h h2
        subst he
        by_cases h3 : al < bl
        · simp [h1, h3]
        · by_cases h4 : bl < al
          · simp [h1, h3, h4]
          · simp [h1, h3, h4]
theorem cmpS_eq (a b : By) : Go.Lib.compareBytes a.data.toList b.data.toList = bcmp a b := by
  rw [cmpBytes_eq]
  unfold bcmp blt
  simp only [decide_eq_true_eq]
theorem cmpS_lt (a b : By) : decide (Go.Lib.compareBytes a.data.toList b.data.toList < 0) = blt a b := by
  rw [cmpS_eq]
  unfold bcmp
  cases h : blt a b with
  | true => rfl
  | false =>
    rw [if_neg (by simp)]
    split <;> rfl
def AscK {β : Type} (key : β → By) (l : List β) : Prop := l.Pairwise fun p q => blt (key p) (key q) = true
theorem asc_uniq {β : Type} (key : β → By) : ∀ {l m : List β}, AscK key l → AscK key m → (∀ f, f ∈ l ↔ f ∈ m) → l = m
  | [], [], _, _, _ => rfl
  | [], y :: m, _, _, h => absurd ((h y).2 (List.mem_cons_self ..)) (by simp)
  | x :: l, [], _, _, h => absurd ((h x).1 (List.mem_cons_self ..)) (by simp)
  | x :: l, y :: m, hl, hm, h => by
    obtain ⟨l1, l2⟩ := List.pairwise_cons.1 hl
    obtain ⟨m1, m2⟩ := List.pairwise_cons.1 hm
    have hxy : x = y := by
      rcases List.mem_cons.1 ((h x).1 (List.mem_cons_self ..)) with e | e
      · exact e
      · rcases List.mem_cons.1 ((h y).2 (List.mem_cons_self ..)) with e2 | e2
        · exact e2.symm
        · have h3 := blt_trans (m1 x e) (l1 y e2)
          rw [blt_irrefl] at h3; cases h3
    subst hxy
    congr 1
    refine asc_uniq key l2 m2 (fun f => ⟨fun hf => ?_, fun hf => ?_⟩)
    · rcases List.mem_cons.1 ((h f).1 (List.mem_cons_of_mem _ hf)) with e | e
      · subst e
        have := l1 f hf
        rw [blt_irrefl] at this; cases this
      · exact e
    · rcases List.mem_cons.1 ((h f).2 (List.mem_cons_of_mem _ hf)) with e | e
      · subst e
        have := m1 f hf
        rw [blt_irrefl] at this; cases this
      · exact e
section
variable {β : Type} [Inhabited β] (key : β → By)
def cfN (x y : β) : Int := Go.Lib.compareBytes (key x).data.toList (key y).data.toList
omit [Inhabited β] in
theorem ltOf_cfN (x y : β) : ltOf (cfN key) x y = blt (key x) (key y) := cmpS_lt _ _
omit [Inhabited β] in
theorem swo_cfN : SWO (ltOf (cfN key)) where
  irrefl x := by rw [ltOf_cfN, blt_irrefl]
  trans x y z h1 h2 := by rw [ltOf_cfN] at *; exact blt_trans h1 h2
  ntrans x y z h1 h2 := by
    rw [ltOf_cfN] at *
    cases h : blt (key x) (key z) with
    | false => rfl
    | true =>
      by_cases e : key x = key y
      · rw [e, h2] at h; cases h
      · rcases blt_tri _ _ e with h3 | h3
        · rw [h1] at h3; cases h3
        · have := blt_trans h3 h
          rw [h2] at this; cases this
theorem sort_asc {d d' : Array β} (hp : PermIn 0 d.size d d') (hs : SortedIn (ltOf (cfN key)) 0 d.size d') (hd : d.toList.Pairwise fun x y => key x ≠ key y) : AscK key d'.toList ∧ d'.toList.Perm d.toList := by
  obtain ⟨hsz, _, hperm⟩ := hp
  have e1 : d'.extract 0 d.size = d' := by rw [← hsz]; exact Array.extract_size
  rw [e1, Array.extract_size] at hperm
  refine ⟨?_, hperm⟩
  have hd' : d'.toList.Pairwise fun x y => key x ≠ key y := hperm.symm.pairwise hd (fun {x y} h e => h e.symm)
  unfold AscK
  rw [List.pairwise_iff_getElem] at hd' ⊢
  intro i j hi hj hij
  have h1 := hd' i j hi hj hij
  have hi' : i < d'.size := by simpa using hi
  have hj' : j < d'.size := by simpa using hj
  have h2 := hs i j (Nat.zero_le _) hij (by omega)
  rw [ltOf_cfN, getElem!_pos d' j hj', getElem!_pos d' i hi'] at h2
  rw [Array.getElem_toList, Array.getElem_toList] at h1 ⊢
  rcases blt_tri _ _ h1 with h3 | h3
  · exact h3
  · rw [h2] at h3; cases h3
theorem flat_get (enc : β → List Value) (k : Nat) (hk : ∀ x, (enc x).length = k) : ∀ (L : List β) (j : Nat), j < L.length * k → (L.flatMap enc)[j]? = some ((enc (L.getD (j / k) default))[j % k]!)
  | [], j, h => by simp at h
  | a :: L, j, h => by
    have hk0 : 0 < k := by
      rcases Nat.eq_zero_or_pos k with h0 | h0
      · rw [h0] at h; simp at h
      · exact h0
    rw [List.flatMap_cons]
    rcases Nat.lt_or_ge j k with hlt | hge
    · rw [List.getElem?_append_left (by rw [hk]; exact hlt), Nat.div_eq_of_lt hlt, Nat.mod_eq_of_lt hlt]
      have hl : j < (enc a).length := by rw [hk]; exact hlt
      rw [List.getElem?_eq_getElem hl]
      show _ = some ((enc a)[j]!)
      rw [getElem!_pos (enc a) j hl]
    · rw [List.getElem?_append_right (by rw [hk]; exact hge), hk]
      have h1 : j - k < L.length * k := by
        simp only [List.length_cons, Nat.add_mul, Nat.one_mul] at h
        omega
      rw [flat_get enc k hk L (j - k) h1]
      have e1 : j / k = (j - k) / k + 1 := by
        rw [Nat.div_eq j k, if_pos ⟨hk0, hge⟩]
      have e2 : j % k = (j - k) % k := by rw [Nat.mod_eq j k, if_pos ⟨hk0, hge⟩]
      rw [e1, e2]
      rfl
theorem holdsK_of (enc : β → List Value) (k : Nat) (hk : ∀ x, (enc x).length = k) {w : World} {b off : Nat} {L : List β} (h : ∀ j, j < L.length * k → w.cell? ⟨b, off + j, none⟩ = (L.flatMap enc)[j]? ∧ w.frozen? ⟨b, off + j, none⟩ = false) : HoldsK enc k w b off L.toArray := by
  intro j hj
  have hj2 : j < L.length * k := by simpa using hj
  obtain ⟨h1, h2⟩ := h j hj2
  refine ⟨?_, h2⟩
  rw [h1, flat_get enc k hk L j hj2, get_flatK _ _ _ _ (by simpa using hj2)]
  congr 1
  have hk0 : 0 < k := by
    rcases Nat.eq_zero_or_pos k with h0 | h0
    · rw [h0] at hj2; simp at hj2
    · exact h0
  have hq : j / k < L.length := Nat.div_lt_of_lt_mul (by rw [Nat.mul_comm]; exact hj2)
  show _ = (enc (L.toArray[j / k]!))[j % k]!
  rw [getElem!_pos L.toArray (j / k) (by simpa using hq)]
  rw [List.getD_eq_getElem?_getD, List.getElem?_eq_getElem hq]
  rfl
theorem cells_holdsK (enc : β → List Value) (k : Nat) (hk : ∀ x, (enc x).length = k) {w : World} {b off : Nat} {d : Array β} (h : HoldsK enc k w b off d) (j : Nat) (hj : j < d.size * k) : w.cell? ⟨b, off + j, none⟩ = (d.toList.flatMap enc)[j]? ∧ w.frozen? ⟨b, off + j, none⟩ = false := by
  obtain ⟨h1, h2⟩ := h j (by simpa using hj)
  refine ⟨?_, h2⟩
  rw [flat_get enc k hk d.toList j (by simpa using hj)]
  rw [h1, get_flatK _ _ _ _ hj]
  have hk0 : 0 < k := by
    rcases Nat.eq_zero_or_pos k with h0 | h0
    · rw [h0] at hj; simp at hj
    · exact h0
  have hq : j / k < d.size := Nat.div_lt_of_lt_mul (by rw [Nat.mul_comm]; exact hj)
  show some (enc d[j / k]!)[j % k]! = _
  rw [getElem!_pos d (j / k) hq, List.getD_eq_getElem?_getD, List.getElem?_eq_getElem (by simpa using hq)]
  rfl
theorem upd_sortK (enc : β → List Value) (k : Nat) (w : World) (blk off n : Nat) (d : Array β) (os : Array Obj) : Upd (fun j => j = blk) w (sortWorldK enc k w blk off n d os) := by
  unfold sortWorldK
  refine ⟨rfl, rfl, rfl, ?_, fun j hj hf => ?_⟩
  · show w.heap.size ≤ ((putRowK enc k (Sort.ahead w n) blk off d).heap ++ os).size
    rw [Array.size_append, size_putRowK]
    exact Nat.le_add_right _ _
  · show ((putRowK enc k (Sort.ahead w n) blk off d).heap ++ os)[j]? = _
    rw [Array.getElem?_append_left (by rw [size_putRowK]; exact hj)]
    show ((Sort.ahead w n).heap.modify blk _)[j]? = _
    rw [Array.getElem?_modify, if_neg (fun e => hf e.symm)]
    rfl
end
end Go.Hw

/- Terms in memory of one's own: no block stands twice in one. What a store at a path leaves. -/
namespace Go.Hw
open Go.RowKit Tm
set_option linter.unusedVariables false
set_option linter.unusedSimpArgs false
inductive TlO (te : TypeId) (w : World) : (Nat → Prop) → List Tm → Value → Prop
  | mk (B : Nat → Prop) (L : List Tm) (us : List Value) (v : Value) (Bk : Nat → Nat → Prop)
      (hl : us.length = L.length) (hown : w.ownsRow 0 te 3 v L.length (tCells L us))
      (hb : ∀ k, v.ownBlock = some k → B k) (hkb : ∀ i k, i < L.length → Bk i k → B k)
      (hrow : ∀ i k, i < L.length → Bk i k → v.ownBlock ≠ some k)
      (hdis : ∀ i j k, i < L.length → j < L.length → i ≠ j → Bk i k → ¬ Bk j k)
      (hk : ∀ i, i < L.length → TlO te w (Bk i) (tg L i).kids (ug us i)) : TlO te w B L v
section
variable {te : TypeId} {w w' : World} {B B' F S : Nat → Prop} {L : List Tm} {v : Value}
theorem TlO.nil (te : TypeId) (w : World) (B : Nat → Prop) : TlO te w B [] nilS :=
  ⟨B, [], [], nilS, fun _ _ => False, rfl, ⟨rfl, .inl ⟨rfl, rfl⟩⟩, fun k h => by simp [Value.ownBlock] at h, fun i k h => absurd h (Nat.not_lt_zero _), fun i k h => absurd h (Nat.not_lt_zero _), fun i j k h => absurd h (Nat.not_lt_zero _), fun i h => absurd h (Nat.not_lt_zero _)⟩
theorem TlO.weaken (h : TlO te w B L v) (hB : ∀ k, B k → B' k) : TlO te w B' L v := by
  cases h with
  | mk _ _ us _ Bk hl hown hb hkb hrow hdis hk => exact ⟨B', L, us, v, Bk, hl, hown, fun k h => hB k (hb k h), fun i k hi h => hB k (hkb i k hi h), hrow, hdis, hk⟩
theorem TlO.kept (h : TlO te w B L v) (hu : Upd F w w') (hF : ∀ k, B k → ¬ F k) : TlO te w' B L v := by
  induction h with
  | mk B L us v Bk hl hown hb hkb hrow hdis hk ih =>
    exact ⟨B, L, us, v, Bk, hl, own_kept hown hu (fun k hk => hF k (hb k hk)), hb, hkb, hrow, hdis, fun i hi => ih i hi (fun k hk2 => hF k (hkb i k hi hk2))⟩
theorem TlO.read (h : TlO te w B L v) : TlR B w L v := by
  induction h with
  | mk B L us v Bk hl hown hb hkb hrow hdis hk ih =>
    exact .mk L us v hl ((SlR.of_own hown).weaken hb) (fun i hi => (ih i hi).weaken (fun k hk2 => hkb i k hi hk2))
end
def okP : Tm → List Nat → Prop
  | _, [] => True
  | t, i :: p => i < t.kids.length ∧ okP (tg t.kids i) p
def tmAt : Tm → List Nat → Tm
  | t, [] => t
  | t, i :: p => tmAt (tg t.kids i) p
def AdrP (w : World) : List Nat → Nat × Nat → Nat × Nat → Prop
  | [], a, a' => a' = a
  | i :: p, a, a' => ∃ g off n c, w.cell? ⟨a.1, a.2 + 2, none⟩ = some (.slice (some ⟨g, off, none⟩) n c) ∧ AdrP w p (g, off + i * 3) a'
theorem own_setN {w : World} {b : Nat} {e : TypeId} {g cap n size : Nat} {xs : List Value} (h : w.ownsRow b e size (.slice (some ⟨g, 0, none⟩) n cap) n xs) (j : Nat) (u : Value) :
    (w.setCell ⟨g, j, none⟩ u).ownsRow b e size (.slice (some ⟨g, 0, none⟩) n cap) n (xs.set j u) := by
  obtain ⟨h1, ⟨e0, _⟩ | ⟨g', cap', cur, e0, h3, h4, h5, h6, h7, h8⟩⟩ := h
  · cases e0
  · injection e0 with e1 e2 e3
    injection e1 with e1
    injection e1 with e1
    subst e1; subst e3
    refine ⟨by rw [List.length_set]; exact h1, .inr ⟨g, cap, _, rfl, h3, setBlock h4 j u, h5, h6, by rw [Array.size_setIfInBounds]; exact h7, ?_⟩⟩
    rw [← h8, Array.toList_setIfInBounds, List.take_set]
theorem own_row0 {w : World} {b : Nat} {e : TypeId} {size n : Nat} {v : Value} {xs : List Value} (h : w.ownsRow b e size v n xs) (hn : 0 < n) : ∃ g cap cur, v = .slice (some ⟨g, 0, none⟩) n cap ∧ w.heap[g]? = some (.cells cur e (0, 0)) ∧ n * size ≤ cur.size := by
  rcases h.2 with ⟨_, h2⟩ | ⟨g, cap, cur, rfl, hb, hg, hc, hm, hs, ht⟩
  · omega
  · exact ⟨g, cap, cur, rfl, hg, by rw [hs]; exact Nat.mul_le_mul_right _ hc⟩
end Go.Hw

/- Subterms at paths are well-formed, and known: pure. -/
namespace Go.Hw
open Tm
set_option linter.unusedVariables false
set_option linter.unusedSimpArgs false
end Go.Hw

/- Signatures: what is wrong with a term in preorder; what a put term keeps of its sort: pure. -/
namespace Go.Hw
open Tm
set_option linter.unusedVariables false
set_option linter.unusedSimpArgs false
def dcl (g : Sg) (n : By) : Option Dc := g.2.find? fun o => decide (o.1 = n)
def ownT (g : Sg) (t : Tm) : By := if t.sort ≠ nul then t.sort else match dcl g t.name with
  | some o => o.2.2
  | none => nul
def argE (g : Sg) : List Tm → List By → Bool
  | [], _ => true
  | _ :: _, [] => true
  | x :: L, a :: zs => (decide (ownT g x = nul) || decide (ownT g x = a)) && argE g L zs
def ndE (g : Sg) (t : Tm) : Int := if t.sort ≠ nul then (if t.sort ∈ g.1 then 0 else 9) else match dcl g t.name with
  | none => 9
  | some o => if t.kids.length ≠ o.2.1.length then 3 else if argE g t.kids o.2.1 = true then 0 else 11
def wrgL (g : Sg) : List Tm → Int
  | [] => 0
  | x :: l => if ndE g x ≠ 0 then ndE g x else wrgL g l
def wrgT (g : Sg) (t : Tm) : Int := wrgL g (sbts t)
abbrev WS (g : Sg) (t : Tm) : Prop := ∀ x ∈ sbts t, ndE g x = 0
theorem WS.kid {g : Sg} {t x : Tm} (h : WS g t) (hx : x ∈ t.kids) : WS g x := fun y hy => h y (mem_sbts_kid hx hy)
theorem argE_iff {g : Sg} : ∀ {L : List Tm} {zs : List By}, L.length = zs.length → (argE g L zs = true ↔ ∀ i, i < L.length → ownT g (tg L i) = nul ∨ ownT g (tg L i) = zs.getD i nul)
  | [], zs, _ => by simp [argE]
  | x :: L, [], h => by cases h
  | x :: L, a :: zs, h => by
    unfold argE
    rw [Bool.and_eq_true, Bool.or_eq_true, decide_eq_true_eq, decide_eq_true_eq, argE_iff (L := L) (zs := zs) (by simpa using h)]
    constructor
    · rintro ⟨h1, h2⟩ i hi
      match i, hi with
      | 0, _ => exact h1
      | i + 1, hi => exact h2 i (by simpa using hi)
    · intro h1
      exact ⟨h1 0 (by simp), fun i hi => h1 (i + 1) (by simpa using hi)⟩
def ResOk (g : Sg) : Prop := ∀ o ∈ g.2, o.2.2 ≠ nul
theorem dcl_ix (g : Sg) (n : By) : dcl g n = if dixN g.2 n < g.2.length then some (dg g.2 (dixN g.2 n)) else none := by
  unfold dcl dixN
  generalize g.2 = l
  induction l with
  | nil => rfl
  | cons a l ih =>
    rw [List.find?_cons, List.findIdx_cons]
    by_cases h : a.1 = n
    · rw [decide_eq_true h]
      simp [dg]
    · rw [decide_eq_false h]
      simp only [cond_false, Bool.false_eq_true, if_false]
      rw [ih]
      by_cases h2 : (l.findIdx fun d => decide (d.1 = n)) < l.length
      · rw [if_pos h2, if_pos (by simpa using h2)]; rfl
      · rw [if_neg h2, if_neg (by simpa using h2)]
theorem own_eq (g : Sg) (t : Tm) : ownT g t = ownF g t := by
  unfold ownT ownF
  rw [dcl_ix]
  by_cases h : t.sort ≠ nul
  · rw [if_pos h, if_pos h]
  · rw [if_neg h, if_neg h]
    by_cases h2 : dixN g.2 t.name < g.2.length
    · rw [if_pos h2, if_pos h2]
    · rw [if_neg h2, if_neg h2]
theorem arg_bad (g : Sg) {L : List Tm} {A : List By} (h : L.length = A.length) : argE g L A = !badK g L A := by
  rw [Bool.eq_iff_iff, argE_iff h, Bool.not_eq_true', badK, List.any_eq_false]
  constructor
  · intro h1 k hk
    have := h1 k (List.mem_range.1 hk)
    rw [own_eq] at this
    rcases this with h2 | h2
    · rw [decide_eq_true h2]; simp
    · rw [decide_eq_true h2]; simp
  · intro h1 k hk
    have := h1 k (List.mem_range.2 hk)
    rw [own_eq]
    by_cases h2 : ownF g (tg L k) = nul
    · exact .inl h2
    · by_cases h3 : ownF g (tg L k) = A.getD k nul
      · exact .inr h3
      · rw [decide_eq_false h2, decide_eq_false h3] at this; exact absurd rfl this
theorem nd_eq (g : Sg) (n s : By) (L : List Tm) : ndE g (.mk n s L) = if s ≠ nul then (if s ∈ g.1 then 0 else 9) else if ¬ dixN g.2 n < g.2.length then 9 else if L.length ≠ (dg g.2 (dixN g.2 n)).2.1.length then 3 else if badK g L (dg g.2 (dixN g.2 n)).2.1 = true then 11 else 0 := by
  change (if s ≠ nul then (if s ∈ g.1 then (0 : Int) else 9) else match dcl g n with | none => 9 | some o => if L.length ≠ o.2.1.length then 3 else if argE g L o.2.1 = true then 0 else 11) = _
  by_cases h : s ≠ nul
  · rw [if_pos h, if_pos h]
  · rw [if_neg h, if_neg h, dcl_ix]
    by_cases h2 : dixN g.2 n < g.2.length
    · rw [if_pos h2, if_neg (by simpa using h2)]
      dsimp only
      by_cases h3 : L.length ≠ (dg g.2 (dixN g.2 n)).2.1.length
      · rw [if_pos h3, if_pos h3]
      · rw [if_neg h3, if_neg h3, arg_bad g (Classical.not_not.1 h3)]
        cases badK g L (dg g.2 (dixN g.2 n)).2.1 <;> simp
    · rw [if_neg h2, if_pos h2]
theorem wrgL_app (g : Sg) (a b : List Tm) : wrgL g (a ++ b) = if wrgL g a ≠ 0 then wrgL g a else wrgL g b := by
  induction a with
  | nil => simp [wrgL]
  | cons x a ih =>
    rw [List.cons_append, wrgL, wrgL]
    by_cases h : ndE g x ≠ 0
    · rw [if_pos h, if_pos h, if_pos h]
    · rw [if_neg h, if_neg h, ih]
theorem wrg_eq (g : Sg) : ∀ t : Tm, NoP t → wrgT g t = wrongF g t := by
  refine Tm.ind (fun n s L ih hn => ?_)
  unfold wrgT
  rw [sbts_eq, wrgL, wrongF_mk, nd_eq]
  have hL : wrgL g ((Tm.mk n s L).kids.flatMap sbts) = wrongsF g L := by
    have key : ∀ M : List Tm, (∀ x ∈ M, wrgT g x = wrongF g x) → wrgL g (M.flatMap sbts) = wrongsF g M := by
      intro M
      induction M with
      | nil => intro _; simp [wrgL, wrongsF]
      | cons a M ihM =>
        intro h
        rw [List.flatMap_cons, wrgL_app, wrongsF, ihM (fun x hx => h x (List.mem_cons_of_mem _ hx))]
        have := h a (List.mem_cons_self ..)
        unfold wrgT at this
        rw [this]
    exact key L (fun x hx => ih x hx (hn.kid (t := .mk n s L) hx))
  rw [hL]
  by_cases h1 : s ≠ nul
  · have h5 : L = [] := hn (.mk n s L) (mem_sbts_self _) h1
    subst h5
    rw [if_pos h1, if_pos h1]
    by_cases h2 : s ∈ g.1
    · rw [if_pos h2]; simp [wrongsF]
    · rw [if_neg h2]; simp
  rw [if_neg h1, if_neg h1]
  by_cases h2 : ¬ dixN g.2 n < g.2.length
  · rw [if_pos h2, if_pos h2]; simp
  rw [if_neg h2, if_neg h2]
  by_cases h3 : L.length ≠ (dg g.2 (dixN g.2 n)).2.1.length
  · rw [if_pos h3, if_pos h3]; simp
  rw [if_neg h3, if_neg h3]
  by_cases h4 : badK g L (dg g.2 (dixN g.2 n)).2.1 = true
  · rw [if_pos h4, if_pos h4]; simp
  · rw [if_neg h4, if_neg h4]; simp
end Go.Hw

/- Tokens, in memory and read: pure. -/
namespace Go.Hw
open Go.RowKit Tm
set_option linter.unusedVariables false
set_option linter.unusedSimpArgs false
structure Tok where
  kind : Nat
  text : By
  n : Int
  line : Int
  col : Int
def tok0 : Tok := ⟨0, nul, 0, 0, 0⟩
abbrev tk (l : List Tok) (i : Nat) : Tok := l.getD i tok0
def tkC (t : Tok) : List Value := [.int .i64 (t.kind : Int), .string t.text, .int .i64 t.n, .int .i64 t.line, .int .i64 t.col]
def tkCells : List Tok → List Value
  | [] => []
  | t :: l => .int .i64 (t.kind : Int) :: .string t.text :: .int .i64 t.n :: .int .i64 t.line :: .int .i64 t.col :: tkCells l
theorem tkCells_snoc : ∀ (l : List Tok) (t : Tok), tkCells (l ++ [t]) = tkCells l ++ tkC t
  | [], t => rfl
  | a :: l, t => by simp only [List.cons_append, tkCells, tkCells_snoc l t]
theorem tkCells_at : ∀ (l : List Tok) (i : Nat), i < l.length →
    (tkCells l)[i * 5]? = some (.int .i64 ((tk l i).kind : Int)) ∧ (tkCells l)[i * 5 + 1]? = some (.string (tk l i).text) ∧ (tkCells l)[i * 5 + 2]? = some (.int .i64 (tk l i).n) ∧ (tkCells l)[i * 5 + 3]? = some (.int .i64 (tk l i).line) ∧ (tkCells l)[i * 5 + 4]? = some (.int .i64 (tk l i).col)
  | t :: l, 0, _ => ⟨rfl, rfl, rfl, rfl, rfl⟩
  | t :: l, i + 1, h => by
    obtain ⟨h0, h1, h2, h3, h4⟩ := tkCells_at l i (by simpa using h)
    have e : ∀ k, (tkCells (t :: l))[(i + 1) * 5 + k]? = (tkCells l)[i * 5 + k]? := fun k => by
      rw [show (i + 1) * 5 + k = i * 5 + k + 1 + 1 + 1 + 1 + 1 by omega]
      rfl
    exact ⟨by rw [← Nat.add_zero ((i + 1) * 5), e]; exact h0, by rw [e]; exact h1, by rw [e]; exact h2, by rw [e]; exact h3, by rw [e]; exact h4⟩
def TkR (S : Nat → Prop) (w : World) (v : Value) (l : List Tok) : Prop := SlR S w 5 v l.length (tkCells l)
theorem TkR.kept {S F : Nat → Prop} {w w' : World} {v : Value} {l : List Tok} (h : TkR S w v l) (hu : Upd F w w') (hF : ∀ k, S k → ¬ F k) : TkR S w' v l := SlR.kept h hu hF
theorem TkR.ext {S : Nat → Prop} {w w' : World} {v : Value} {l : List Tok} (h : TkR S w v l) (hu : Ext w w') : TkR S w' v l := SlR.kept h hu (fun _ _ h => h)
theorem TkR.at_ {S : Nat → Prop} {w : World} {l : List Tok} {a : Option Addr} {n cap : Nat} (h : TkR S w (.slice a n cap) l) (hl : 0 < l.length) :
    n = l.length ∧ ∃ g off, a = some ⟨g, off, none⟩ ∧ S g ∧ ∀ i, i < l.length → w.cell? ⟨g, off + i * 5, none⟩ = some (.int .i64 ((tk l i).kind : Int)) ∧ w.cell? ⟨g, off + i * 5 + 1, none⟩ = some (.string (tk l i).text) ∧
      w.cell? ⟨g, off + i * 5 + 2, none⟩ = some (.int .i64 (tk l i).n) ∧ w.cell? ⟨g, off + i * 5 + 3, none⟩ = some (.int .i64 (tk l i).line) ∧ w.cell? ⟨g, off + i * 5 + 4, none⟩ = some (.int .i64 (tk l i).col) := by
  obtain ⟨g, off, cap', e, hc, hS, hj⟩ := SlR.pos h hl
  injection e with e1 e2 e3
  refine ⟨e2, g, off, e1, hS, fun i hi => ?_⟩
  obtain ⟨h0, h1, h2, h3, h4⟩ := tkCells_at l i hi
  exact ⟨by rw [hj _ (by omega), h0], by rw [Nat.add_assoc, hj _ (by omega), h1], by rw [Nat.add_assoc, hj _ (by omega), h2], by rw [Nat.add_assoc, hj _ (by omega), h3], by rw [Nat.add_assoc, hj _ (by omega), h4]⟩
/-! ### what is read from tokens -/
def isB (t : Tok) (s : By) : Bool := (decide (t.kind = 4) || decide (t.kind = 3)) && decide (t.text = s)
inductive PR (α : Type) where
  | ok (x : α) (i : Nat)
  | bad (i : Nat)
def PR.at {α : Type} : PR α → Nat
  | .ok _ i => i
  | .bad i => i
def sLp : By := ⟨#[40]⟩
def sRp : By := ⟨#[41]⟩
def sCm : By := ⟨#[44]⟩
def sCl : By := ⟨#[58]⟩
def pL {α : Type} (el : Nat → PR α) (l : List Tok) : Nat → Nat → Bool → List α → PR (List α)
  | 0, i, _, _ => .bad i
  | m + 1, i, first, xs => if isB (tk l i) sRp = true then .ok xs (i + 1) else
    if first = false ∧ isB (tk l i) sCm = false then .bad i else
    match el (if first = true then i else i + 1) with
    | .bad j => .bad j
    | .ok x j => pL el l m j false (xs ++ [x])
def pP {α : Type} (el : Nat → PR α) (l : List Tok) (i : Nat) : PR (List α) := if isB (tk l i) sLp = true then pL el l (l.length - i) (i + 1) true [] else .bad i
def pT (l : List Tok) : Nat → Nat → PR Tm
  | 0, i => .bad i
  | n + 1, i => if (tk l i).kind ≠ 1 then .bad i else
    if isB (tk l (i + 1)) sCl = true then (if (tk l (i + 2)).kind ≠ 1 then .bad (i + 2) else .ok (.mk (tk l i).text (tk l (i + 2)).text []) (i + 3)) else
    match pP (pT l n) l (i + 1) with
    | .bad j => .bad j
    | .ok L j => .ok (.mk (tk l i).text nul L) j
structure Ended (l : List Tok) : Prop where
  pos : 0 < l.length
  fin : (tk l (l.length - 1)).kind = 5
  inn : ∀ i, i < l.length - 1 → (tk l i).kind ≠ 5
theorem Ended.next {l : List Tok} (h : Ended l) {i : Nat} (hi : i < l.length) (hk : (tk l i).kind ≠ 5) : i + 1 < l.length := by
  rcases Nat.lt_or_ge (i + 1) l.length with h1 | h1
  · exact h1
  · have : i = l.length - 1 := by omega
    rw [this, h.fin] at hk
    exact absurd rfl hk
theorem isB_kind {t : Tok} {s : By} (h : isB t s = true) : t.kind ≠ 5 := by
  unfold isB at h
  rw [Bool.and_eq_true, Bool.or_eq_true, decide_eq_true_eq, decide_eq_true_eq] at h
  omega
theorem Ended.isB {l : List Tok} (h : Ended l) {i : Nat} (hi : i < l.length) {s : By} (hb : isB (tk l i) s = true) : i + 1 < l.length := h.next hi (isB_kind hb)
def Fwd {α : Type} (l : List Tok) (el : Nat → PR α) : Prop := ∀ i, i < l.length → i ≤ (el i).at ∧ (el i).at < l.length ∧ ∀ x j, el i = .ok x j → i < j
theorem pL_fwd {α : Type} {l : List Tok} (h : Ended l) {el : Nat → PR α} (he : Fwd l el) : ∀ (m i : Nat) (first : Bool) (xs : List α), i < l.length → i ≤ (pL el l m i first xs).at ∧ (pL el l m i first xs).at < l.length
  | 0, i, _, _, hi => ⟨Nat.le_refl _, hi⟩
  | m + 1, i, first, xs, hi => by
    unfold pL
    by_cases h1 : Hw.isB (tk l i) sRp = true
    · rw [if_pos h1]
      exact ⟨Nat.le_succ _, h.isB hi h1⟩
    rw [if_neg h1]
    by_cases h2 : first = false ∧ Hw.isB (tk l i) sCm = false
    · rw [if_pos h2]
      exact ⟨Nat.le_refl _, hi⟩
    rw [if_neg h2]
    have hi2 : (if first = true then i else i + 1) < l.length ∧ i ≤ (if first = true then i else i + 1) := by
      cases first
      · have h3 : Hw.isB (tk l i) sCm = true := by
          cases h4 : Hw.isB (tk l i) sCm
          · exact absurd ⟨rfl, h4⟩ h2
          · rfl
        rw [if_neg (by decide)]
        exact ⟨h.isB hi h3, Nat.le_succ _⟩
      · rw [if_pos rfl]; exact ⟨hi, Nat.le_refl _⟩
    obtain ⟨h5, h6, h7⟩ := he _ hi2.1
    cases he2 : el (if first = true then i else i + 1) with
    | bad j => rw [he2] at h5 h6; exact ⟨Nat.le_trans hi2.2 h5, h6⟩
    | ok x j =>
      rw [he2] at h5 h6
      have h8 := pL_fwd h he m j false (xs ++ [x]) h6
      exact ⟨Nat.le_trans hi2.2 (Nat.le_trans h5 h8.1), h8.2⟩
theorem pP_fwd {α : Type} {l : List Tok} (h : Ended l) {el : Nat → PR α} (he : Fwd l el) {i : Nat} (hi : i < l.length) : i ≤ (pP el l i).at ∧ (pP el l i).at < l.length ∧ ∀ xs j, pP el l i = .ok xs j → i < j := by
  unfold pP
  by_cases h1 : Hw.isB (tk l i) sLp = true
  · rw [if_pos h1]
    have h2 := pL_fwd h he (l.length - i) (i + 1) true [] (h.isB hi h1)
    exact ⟨by omega, h2.2, fun xs j e => by rw [e] at h2; have := h2.1; simp only [PR.at] at this; omega⟩
  · rw [if_neg h1]
    exact ⟨Nat.le_refl _, hi, fun xs j e => by cases e⟩
theorem pT_fwd {l : List Tok} (h : Ended l) : ∀ n, Fwd l (pT l n)
  | 0, i, hi => ⟨Nat.le_refl _, hi, fun x j e => by cases e⟩
  | n + 1, i, hi => by
    unfold pT
    by_cases h1 : (tk l i).kind ≠ 1
    · rw [if_pos h1]
      exact ⟨Nat.le_refl _, hi, fun x j e => by cases e⟩
    rw [if_neg h1]
    have hi1 := h.next hi (by omega)
    by_cases h2 : Hw.isB (tk l (i + 1)) sCl = true
    · rw [if_pos h2]
      have hi2 := h.isB hi1 h2
      by_cases h3 : (tk l (i + 2)).kind ≠ 1
      · rw [if_pos h3]
        exact ⟨by simp only [PR.at]; omega, hi2, fun x j e => by cases e⟩
      · rw [if_neg h3]
        exact ⟨by simp only [PR.at]; omega, h.next hi2 (by omega), fun x j e => by injection e; omega⟩
    rw [if_neg h2]
    obtain ⟨h4, h5, h6⟩ := pP_fwd h (pT_fwd h n) hi1
    cases hp : pP (pT l n) l (i + 1) with
    | bad j => rw [hp] at h4 h5; exact ⟨by simp only [PR.at] at *; omega, h5, fun x j e => by cases e⟩
    | ok L j => rw [hp] at h4 h5; exact ⟨by simp only [PR.at] at *; omega, h5, fun x j e => by injection e with e1 e2; simp only [PR.at] at *; omega⟩
theorem pL_size {l : List Tok} {el : Nat → PR Tm} (he : ∀ i x j, el i = .ok x j → x.size + i ≤ j) : ∀ (m i : Nat) (first : Bool) (xs : List Tm) (ys : List Tm) (j : Nat), pL el l m i first xs = .ok ys j → sizes ys + i ≤ sizes xs + j
  | 0, i, _, _, _, _, e => by cases e
  | m + 1, i, first, xs, ys, j, e => by
    unfold pL at e
    by_cases h1 : Hw.isB (tk l i) sRp = true
    · rw [if_pos h1] at e
      injection e with e1 e2
      subst e1; omega
    rw [if_neg h1] at e
    by_cases h2 : first = false ∧ Hw.isB (tk l i) sCm = false
    · rw [if_pos h2] at e; cases e
    rw [if_neg h2] at e
    cases he2 : el (if first = true then i else i + 1) with
    | bad k => rw [he2] at e; cases e
    | ok x k =>
      rw [he2] at e
      have h3 := pL_size he m k false (xs ++ [x]) ys j e
      have h4 := he _ _ _ he2
      rw [sizes_append] at h3
      simp only [sizes] at h3
      have : i ≤ (if first = true then i else i + 1) := by split <;> omega
      omega
theorem pT_size {l : List Tok} : ∀ (n i : Nat) (x : Tm) (j : Nat), pT l n i = .ok x j → x.size + i ≤ j
  | 0, i, x, j, e => by cases e
  | n + 1, i, x, j, e => by
    unfold pT at e
    by_cases h1 : (tk l i).kind ≠ 1
    · rw [if_pos h1] at e; cases e
    rw [if_neg h1] at e
    by_cases h2 : Hw.isB (tk l (i + 1)) sCl = true
    · rw [if_pos h2] at e
      by_cases h3 : (tk l (i + 2)).kind ≠ 1
      · rw [if_pos h3] at e; cases e
      · rw [if_neg h3] at e
        injection e with e1 e2
        subst e1
        simp [size, sizes]; omega
    rw [if_neg h2] at e
    cases hp : pP (pT l n) l (i + 1) with
    | bad k => rw [hp] at e; cases e
    | ok L k =>
      rw [hp] at e
      injection e with e1 e2
      subst e1; subst e2
      unfold pP at hp
      by_cases h4 : Hw.isB (tk l (i + 1)) sLp = true
      · rw [if_pos h4] at hp
        have h5 := pL_size (fun i x j h => pT_size n i x j h) _ _ _ _ _ _ hp
        rw [size_eq]
        simp only [Tm.kids]
        simp only [sizes] at h5
        omega
      · rw [if_neg h4] at hp; cases hp
end Go.Hw
