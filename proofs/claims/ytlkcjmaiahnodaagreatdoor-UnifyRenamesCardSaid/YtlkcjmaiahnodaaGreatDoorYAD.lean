/- The texts VB US MR UT UV UY QT UA UB UC, one behind the other. -/
import Derived.Test.YtlkcjmaiahnodaaGreatDoorYAA
import Derived.Shelf.SlSortCmp.NoneTotal
import Derived.Lib.Bytealg
import Derived.LaidEqlPtr
import Derived.StillTail
import Derived.Deep.Quiet
import Derived.Test.YtlkcjmaiahnodaaGreatDoorYAB
/- Sorting rows by names: pure, and the worlds of the sort. -/
namespace Go.Hw
open Go.RowKit Go.Sort Go.Proofs Tm
set_option linter.unusedVariables false
set_option linter.unusedSimpArgs false
theorem cmpBytes_eq : ∀ a b : List UInt8, Go.Lib.compareBytes a b = if a < b then -1 else if b < a then 1 else 0
  | [], [] => by simp [Go.Lib.compareBytes]
  | [], _ :: _ => by simp [Go.Lib.compareBytes]
  | _ :: _, [] => by simp [Go.Lib.compareBytes]
  | a :: al, b :: bl => by
    have ih := cmpBytes_eq al bl
    unfold Go.Lib.compareBytes
    rw [ih]
    have e1 : (a :: al < b :: bl) ↔ (a < b ∨ a = b ∧ al < bl) := List.cons_lt_cons_iff
    have e2 : (b :: bl < a :: al) ↔ (b < a ∨ b = a ∧ bl < al) := List.cons_lt_cons_iff
    simp only [e1, e2]
    by_cases h1 : a < b
    · rw [if_pos h1, if_pos (.inl h1)]
    · rw [if_neg h1]
      by_cases h2 : b < a
      · rw [if_pos h2]
        have hne : ¬ a = b := fun e => h1 (by rw [e] at h2 ⊢; exact h2)
        rw [if_neg (fun h => h.elim h1 (fun h => hne h.1)), if_pos (.inl h2)]
      · rw [if_neg h2]
        have he : a = b := by
          rcases Nat.lt_trichotomy a.toNat b.toNat with h | h | h
          · exact absurd h h1
          · exact UInt8.toNat_inj.1 h
          · exact absurd h h2
        subst he
        by_cases h3 : al < bl
        · simp [h1, h3]
        · by_cases h4 : bl < al
          · simp [h1, h3, h4]
          · simp [h1, h3, h4]
theorem cmpS_eq (a b : By) : Go.Lib.compareBytes a.data.toList b.data.toList = bcmp a b := by
  rw [cmpBytes_eq]
  unfold bcmp blt
  simp only [decide_eq_true_eq]
theorem cmpS_lt (a b : By) : decide (Go.Lib.compareBytes a.data.toList b.data.toList < 0) = blt a b := by
  rw [cmpS_eq]
  unfold bcmp
  cases h : blt a b with
  | true => rfl
  | false =>
    rw [if_neg (by simp)]
    split <;> rfl
/-- ascending by a key -/
def AscK {β : Type} (key : β → By) (l : List β) : Prop := l.Pairwise fun p q => blt (key p) (key q) = true
theorem asc_uniq {β : Type} (key : β → By) : ∀ {l m : List β}, AscK key l → AscK key m → (∀ f, f ∈ l ↔ f ∈ m) → l = m
  | [], [], _, _, _ => rfl
  | [], y :: m, _, _, h => absurd ((h y).2 (List.mem_cons_self ..)) (by simp)
  | x :: l, [], _, _, h => absurd ((h x).1 (List.mem_cons_self ..)) (by simp)
  | x :: l, y :: m, hl, hm, h => by
    obtain ⟨l1, l2⟩ := List.pairwise_cons.1 hl
    obtain ⟨m1, m2⟩ := List.pairwise_cons.1 hm
    have hxy : x = y := by
      rcases List.mem_cons.1 ((h x).1 (List.mem_cons_self ..)) with e | e
      · exact e
      · rcases List.mem_cons.1 ((h y).2 (List.mem_cons_self ..)) with e2 | e2
        · exact e2.symm
        · have h3 := blt_trans (m1 x e) (l1 y e2)
          rw [blt_irrefl] at h3; cases h3
    subst hxy
    congr 1
    refine asc_uniq key l2 m2 (fun f => ⟨fun hf => ?_, fun hf => ?_⟩)
    · rcases List.mem_cons.1 ((h f).1 (List.mem_cons_of_mem _ hf)) with e | e
      · subst e
        have := l1 f hf
        rw [blt_irrefl] at this; cases this
      · exact e
    · rcases List.mem_cons.1 ((h f).2 (List.mem_cons_of_mem _ hf)) with e | e
      · subst e
        have := m1 f hf
        rw [blt_irrefl] at this; cases this
      · exact e
section
variable {β : Type} [Inhabited β] (key : β → By)
/-- the comparison by names -/
def cfN (x y : β) : Int := Go.Lib.compareBytes (key x).data.toList (key y).data.toList
omit [Inhabited β] in
theorem ltOf_cfN (x y : β) : ltOf (cfN key) x y = blt (key x) (key y) := cmpS_lt _ _
omit [Inhabited β] in
theorem swo_cfN : SWO (ltOf (cfN key)) where
  irrefl x := by rw [ltOf_cfN, blt_irrefl]
  trans x y z h1 h2 := by rw [ltOf_cfN] at *; exact blt_trans h1 h2
  ntrans x y z h1 h2 := by
    rw [ltOf_cfN] at *
    cases h : blt (key x) (key z) with
    | false => rfl
    | true =>
      by_cases e : key x = key y
      · rw [e, h2] at h; cases h
      · rcases blt_tri _ _ e with h3 | h3
        · rw [h1] at h3; cases h3
        · have := blt_trans h3 h
          rw [h2] at this; cases this
theorem sort_asc {d d' : Array β} (hp : PermIn 0 d.size d d') (hs : SortedIn (ltOf (cfN key)) 0 d.size d') (hd : d.toList.Pairwise fun x y => key x ≠ key y) : AscK key d'.toList ∧ d'.toList.Perm d.toList := by
  obtain ⟨hsz, _, hperm⟩ := hp
  have e1 : d'.extract 0 d.size = d' := by rw [← hsz]; exact Array.extract_size
  rw [e1, Array.extract_size] at hperm
  refine ⟨?_, hperm⟩
  have hd' : d'.toList.Pairwise fun x y => key x ≠ key y := hperm.symm.pairwise hd (fun {x y} h e => h e.symm)
  unfold AscK
  rw [List.pairwise_iff_getElem] at hd' ⊢
  intro i j hi hj hij
  have h1 := hd' i j hi hj hij
  have hi' : i < d'.size := by simpa using hi
  have hj' : j < d'.size := by simpa using hj
  have h2 := hs i j (Nat.zero_le _) hij (by omega)
  rw [ltOf_cfN, getElem!_pos d' j hj', getElem!_pos d' i hi'] at h2
  rw [Array.getElem_toList, Array.getElem_toList] at h1 ⊢
  rcases blt_tri _ _ h1 with h3 | h3
  · exact h3
  · rw [h2] at h3; cases h3
theorem flat_get (enc : β → List Value) (k : Nat) (hk : ∀ x, (enc x).length = k) : ∀ (L : List β) (j : Nat), j < L.length * k → (L.flatMap enc)[j]? = some ((enc (L.getD (j / k) default))[j % k]!)
  | [], j, h => by simp at h
  | a :: L, j, h => by
    have hk0 : 0 < k := by
      rcases Nat.eq_zero_or_pos k with h0 | h0
      · rw [h0] at h; simp at h
      · exact h0
    rw [List.flatMap_cons]
    rcases Nat.lt_or_ge j k with hlt | hge
    · rw [List.getElem?_append_left (by rw [hk]; exact hlt), Nat.div_eq_of_lt hlt, Nat.mod_eq_of_lt hlt]
      have hl : j < (enc a).length := by rw [hk]; exact hlt
      rw [List.getElem?_eq_getElem hl]
      show _ = some ((enc a)[j]!)
      rw [getElem!_pos (enc a) j hl]
    · rw [List.getElem?_append_right (by rw [hk]; exact hge), hk]
      have h1 : j - k < L.length * k := by
        simp only [List.length_cons, Nat.add_mul, Nat.one_mul] at h
        omega
      rw [flat_get enc k hk L (j - k) h1]
      have e1 : j / k = (j - k) / k + 1 := by
        rw [Nat.div_eq j k, if_pos ⟨hk0, hge⟩]
      have e2 : j % k = (j - k) % k := by rw [Nat.mod_eq j k, if_pos ⟨hk0, hge⟩]
      rw [e1, e2]
      rfl
theorem holdsK_of (enc : β → List Value) (k : Nat) (hk : ∀ x, (enc x).length = k) {w : World} {b off : Nat} {L : List β} (h : ∀ j, j < L.length * k → w.cell? ⟨b, off + j, none⟩ = (L.flatMap enc)[j]? ∧ w.frozen? ⟨b, off + j, none⟩ = false) : HoldsK enc k w b off L.toArray := by
  intro j hj
  have hj2 : j < L.length * k := by simpa using hj
  obtain ⟨h1, h2⟩ := h j hj2
  refine ⟨?_, h2⟩
  rw [h1, flat_get enc k hk L j hj2, get_flatK _ _ _ _ (by simpa using hj2)]
  congr 1
  have hk0 : 0 < k := by
    rcases Nat.eq_zero_or_pos k with h0 | h0
    · rw [h0] at hj2; simp at hj2
    · exact h0
  have hq : j / k < L.length := Nat.div_lt_of_lt_mul (by rw [Nat.mul_comm]; exact hj2)
  show _ = (enc (L.toArray[j / k]!))[j % k]!
  rw [getElem!_pos L.toArray (j / k) (by simpa using hq)]
  rw [List.getD_eq_getElem?_getD, List.getElem?_eq_getElem hq]
  rfl
theorem cells_holdsK (enc : β → List Value) (k : Nat) (hk : ∀ x, (enc x).length = k) {w : World} {b off : Nat} {d : Array β} (h : HoldsK enc k w b off d) (j : Nat) (hj : j < d.size * k) : w.cell? ⟨b, off + j, none⟩ = (d.toList.flatMap enc)[j]? ∧ w.frozen? ⟨b, off + j, none⟩ = false := by
  obtain ⟨h1, h2⟩ := h j (by simpa using hj)
  refine ⟨?_, h2⟩
  rw [flat_get enc k hk d.toList j (by simpa using hj)]
  rw [h1, get_flatK _ _ _ _ hj]
  have hk0 : 0 < k := by
    rcases Nat.eq_zero_or_pos k with h0 | h0
    · rw [h0] at hj; simp at hj
    · exact h0
  have hq : j / k < d.size := Nat.div_lt_of_lt_mul (by rw [Nat.mul_comm]; exact hj)
  show some (enc d[j / k]!)[j % k]! = _
  rw [getElem!_pos d (j / k) hq, List.getD_eq_getElem?_getD, List.getElem?_eq_getElem (by simpa using hq)]
  rfl
theorem upd_sortK (enc : β → List Value) (k : Nat) (w : World) (blk off n : Nat) (d : Array β) (os : Array Obj) : Upd (fun j => j = blk) w (sortWorldK enc k w blk off n d os) := by
  unfold sortWorldK
  refine ⟨rfl, rfl, rfl, ?_, fun j hj hf => ?_⟩
  · show w.heap.size ≤ ((putRowK enc k (Sort.ahead w n) blk off d).heap ++ os).size
    rw [Array.size_append, size_putRowK]
    exact Nat.le_add_right _ _
  · show ((putRowK enc k (Sort.ahead w n) blk off d).heap ++ os)[j]? = _
    rw [Array.getElem?_append_left (by rw [size_putRowK]; exact hj)]
    show ((Sort.ahead w n).heap.modify blk _)[j]? = _
    rw [Array.getElem?_modify, if_neg (fun e => hf e.symm)]
    rfl
end
end Go.Hw

/- Unify as it runs, over numbers: nodes and classes by their places in lists. -/
namespace Go.Hw
open Go.RowKit Tm
set_option linter.unusedVariables false
set_option linter.unusedSimpArgs false
/-- a node: its name, its sort, the numbers of its parts -/
structure Nr where
  nm : By
  so : By
  ks : List Nat
structure Cl where
  up : Option Nat
  nm : By
  so : By
  mx : Bool
  tm : Option Nat
  ma : Nat
  sz : Nat
  dp : Nat
structure St where
  vs : List (By × Nat)
  ns : List (Nat × Nat)
  cs : List Cl
def fnd {κ : Type} [DecidableEq κ] (l : List (κ × Nat)) (k : κ) : Option Nat := (l.find? fun e => decide (e.1 = k)).map (·.2)
def rootF (cs : List Cl) : Nat → Nat → Option Nat
  | 0, _ => none
  | f + 1, c => match cs[c]? with
    | none => none
    | some x => match x.up with
      | none => some c
      | some d => rootF cs f d
/-- the class of a variable -/
def varF (F : Nat) (st : St) (nm so : By) : Option (St × Nat) := match fnd st.vs nm with
  | some c => (rootF st.cs F c).map fun r => (st, r)
  | none => (rootF (st.cs ++ [⟨none, nm, so, false, none, 0, 0, 0⟩]) F st.cs.length).map fun r => ({ st with vs := st.vs ++ [(nm, st.cs.length)], cs := st.cs ++ [⟨none, nm, so, false, none, 0, 0, 0⟩] }, r)
/-- the class of an operation -/
def opF (F : Nat) (st : St) (i : Nat) : Option (St × Nat) := match fnd st.ns i with
  | some c => (rootF st.cs F c).map fun r => (st, r)
  | none => (rootF (st.cs ++ [⟨none, nul, nul, false, some i, 0, 0, 0⟩]) F st.cs.length).map fun r => ({ st with ns := st.ns ++ [(i, st.cs.length)], cs := st.cs ++ [⟨none, nul, nul, false, some i, 0, 0, 0⟩] }, r)
def classF (T : List Nr) (F : Nat) (st : St) (i : Nat) : Option (St × Nat) := match T[i]? with
  | none => none
  | some r => if r.so = nul then opF F st i else varF F st r.nm r.so
/-- two classes become one -/
def joinC (A B : Cl) : Cl :=
  { A with
    mx := A.mx || B.mx || (decide (A.so ≠ nul) && decide (B.so ≠ nul) && decide (A.so ≠ B.so))
    nm := if A.nm = nul ∨ (B.nm ≠ nul ∧ blt B.nm A.nm = true) then B.nm else A.nm
    so := if A.nm = nul ∨ (B.nm ≠ nul ∧ blt B.nm A.nm = true) then B.so else A.so
    tm := match A.tm with | none => B.tm | some x => some x }
def unL (un : St → Nat → Nat → Option (St × Bool)) : St → List Nat → List Nat → Option (St × Bool)
  | st, x :: xs, y :: ys => match un st x y with
    | none => none
    | some (st1, false) => some (st1, false)
    | some (st1, true) => unL un st1 xs ys
  | st, _, _ => some (st, true)
def unF (T : List Nr) : Nat → St → Nat → Nat → Option (St × Bool)
  | 0, _, _, _ => none
  | F + 1, st, s, t => match classF T F st s with
    | none => none
    | some (st1, a) => match classF T F st1 t with
      | none => none
      | some (st2, b) => if a = b then some (st2, true) else
        match st2.cs[a]?, st2.cs[b]? with
        | some A, some B =>
          let st3 : St := { st2 with cs := (st2.cs.set b { B with up := some a }).set a (joinC A B) }
          match A.tm, B.tm with
          | some x, some y => match T[x]?, T[y]? with
            | some X, some Y => if X.nm ≠ Y.nm ∨ X.ks.length ≠ Y.ks.length then some (st3, false) else unL (unF T F) st3 X.ks Y.ks
            | _, _ => none
          | _, _ => some (st3, true)
        | _, _ => none
def setC (st : St) (c : Nat) (x : Cl) : St := { st with cs := st.cs.set c x }
def acL (T : List Nr) (F : Nat) (ac : St → Nat → Option (St × Bool)) (c : Nat) : St → List Nat → Option (St × Bool)
  | st, [] => some (st, true)
  | st, k :: ks => match classF T F st k with
    | none => none
    | some (st1, x) => match ac st1 x with
      | none => none
      | some (st2, false) => some (st2, false)
      | some (st2, true) => match st2.cs[c]?, st2.cs[x]? with
        | some C, some X => acL T F ac c (setC st2 c { C with sz := min (C.sz + X.sz) 1001, dp := min (max C.dp (X.dp + 1)) 61 }) ks
        | _, _ => none
def acF (T : List Nr) : Nat → St → Nat → Option (St × Bool)
  | 0, _, _ => none
  | F + 1, st, c => match st.cs[c]? with
    | none => none
    | some C => if C.ma = 1 ∨ (C.tm = none ∧ C.mx = true) then some (st, false) else if C.ma = 2 then some (st, true) else
      match (match C.tm with
        | none => some (setC st c { C with ma := 1, sz := 1, dp := 1 }, true)
        | some x => match T[x]? with
          | none => none
          | some X => acL T F (acF T F) c (setC st c { C with ma := 1, sz := 1, dp := 1 }) X.ks) with
      | none => none
      | some (st1, false) => some (st1, false)
      | some (st1, true) => match st1.cs[c]? with
        | none => none
        | some C1 => some (setC st1 c { C1 with ma := 2 }, true)
def vaL (T : List Nr) (F : Nat) (va : St → Nat → Option (St × Tm)) : St → List Nat → Option (St × List Tm)
  | st, [] => some (st, [])
  | st, k :: ks => match classF T F st k with
    | none => none
    | some (st1, x) => match va st1 x with
      | none => none
      | some (st2, t) => match vaL T F va st2 ks with
        | none => none
        | some (st3, L) => some (st3, t :: L)
def vaF (T : List Nr) : Nat → St → Nat → Option (St × Tm)
  | 0, _, _ => none
  | F + 1, st, c => match st.cs[c]? with
    | none => none
    | some C => match C.tm with
      | none => some (st, .mk C.nm C.so [])
      | some x => match T[x]? with
        | none => none
        | some X => match vaL T F (vaF T F) st X.ks with
          | none => none
          | some (st1, L) => some (st1, .mk X.nm nul L)
/-- the example of the chapter -/
def exT : List Nr := [⟨⟨#[102]⟩, nul, [2, 3]⟩, ⟨⟨#[102]⟩, nul, [4, 5]⟩, ⟨⟨#[120]⟩, ⟨#[115]⟩, []⟩, ⟨⟨#[103]⟩, nul, [6]⟩, ⟨⟨#[103]⟩, nul, [7]⟩, ⟨⟨#[120]⟩, ⟨#[115]⟩, []⟩, ⟨⟨#[121]⟩, ⟨#[115]⟩, []⟩, ⟨⟨#[122]⟩, ⟨#[115]⟩, []⟩]
def exR : Option Bool := (unF exT 20 ⟨[], [], []⟩ 0 1).map (·.2)
theorem exR_true : exR = some true := by decide +kernel
end Go.Hw

/- Maps whose keys are addresses of plain rows. -/
namespace Go.Hw
open Go.RowKit
set_option linter.unusedVariables false
set_option linter.unusedSimpArgs false
/-- an address as a value -/
abbrev adV (p : Nat × Nat) : Value := .pointer (some ⟨p.1, p.2, none⟩)
/-- a block that is a row of its own -/
def Plain (w : World) (b : Nat) : Prop := ∃ cs t, w.heap[b]? = some (.cells cs t (0, 0))
theorem Plain.ext {w w' : World} {b : Nat} (h : Plain w b) (hu : Ext w w') : Plain w' b := by
  obtain ⟨cs, t, h⟩ := h
  exact ⟨cs, t, hu.heap h (fun h => h)⟩
section
variable {P : Program} {kt et elem : TypeId} {ie : TypeInfo}
theorem ptr_eq (hk : P.underlying kt = some (.pointer elem)) (hi : P.info? elem = some ie) (hs : ie.size ≠ 0) (d : Nat) (a b : Nat × Nat) (w : World) (ha : Plain w a.1) (hb : Plain w b.1) : (Op.equalIn (d + 1) kt (adV a) (adV b)).run P w = .ok (decide (a = b)) w := by
  by_cases hab : a = b
  · subst hab
    rw [decide_eq_true rfl]
    simp [Op.equalIn, run_underlying hk, sizeOf, typeInfo, hi, hs, run_sameAddr_same]
  · obtain ⟨ca, ta, ha⟩ := ha
    obtain ⟨cb, tb, hb⟩ := hb
    have h1 := run_sameAddr_other (P := P) (w := w) (a := ⟨a.1, a.2, none⟩) (b := ⟨b.1, b.2, none⟩) (fun e => hab (by injection e with e1 e2; exact Prod.ext e1 e2)) ha hb
    rw [decide_eq_false hab]
    simp [Op.equalIn, run_underlying hk, sizeOf, typeInfo, hi, hs, h1]
theorem ptr_bin (hk : P.underlying kt = some (.pointer elem)) (hi : P.info? elem = some ie) (hs : ie.size ≠ 0) (a b : Nat × Nat) (w : World) (ha : Plain w a.1) (hb : Plain w b.1) : (binOp .eql kt (adV a) (adV b)).run P w = .ok (.bool (decide (a = b))) w := by
  have h : (Op.equal kt (adV a) (adV b)).run P w = .ok (decide (a = b)) w := ptr_eq hk hi hs 9999 a b w ha hb
  simp only [binOp, Sem.run_bind, h, Result.andThen_ok, Sem.run_pure]
theorem ptr_check (hk : P.underlying kt = some (.pointer elem)) (em : Bool) (a : Nat × Nat) (w : World) : (Instr.checkKey em 10000 kt (adV a)).run P w = .ok () w := by
  show (Instr.checkKey em (9999 + 1) kt (adV a)).run P w = .ok () w
  rw [Instr.checkKey]
  simp only [Sem.run_bind, run_underlying hk, Result.andThen_ok, Sem.run_pure]
theorem ptr_find (hk : P.underlying kt = some (.pointer elem)) (hi : P.info? elem = some ie) (hs : ie.size ≠ 0) (x : Nat × Nat) (w : World) (hx : Plain w x.1) (es : List MapEntry) (l : List ((Nat × Nat) × Value)) (hl : ∀ p ∈ l, Plain w p.1.1) (h : es.map (fun e => (e.key, e.val)) = l.map (fun p => (adV p.1, p.2))) :
    (Instr.findKey kt (adV x) es).run P w = .ok ((l.findIdx? fun p => decide (p.1 = x)).map fun i => (i, ((l[i]?).map (·.2)).getD (.bool false))) w := by
  have hask : ∀ (es : List MapEntry) (l : List ((Nat × Nat) × Value)) (i : Nat), (∀ p ∈ l, Plain w p.1.1) → es.map (fun e => (e.key, e.val)) = l.map (fun p => (adV p.1, p.2)) →
      (Instr.findAsking kt (adV x) es i).run P w = .ok ((l.findIdx? fun p => decide (p.1 = x)).map fun j => (i + j, ((l[j]?).map (·.2)).getD (.bool false))) w := by
    intro es
    induction es with
    | nil =>
      intro l i _ h
      have : l = [] := by cases l; rfl; simp at h
      subst this
      rfl
    | cons e es ih =>
      intro l i hl h
      cases l with
      | nil => simp at h
      | cons p l =>
        simp only [List.map_cons, List.cons.injEq, Prod.mk.injEq] at h
        obtain ⟨⟨h1, h2⟩, h3⟩ := h
        have hq : (Op.equal kt (adV x) (adV p.1)).run P w = .ok (decide (x = p.1)) w := ptr_eq hk hi hs 9999 x p.1 w hx (hl p (List.mem_cons_self ..))
        unfold Instr.findAsking
        rw [h1, List.findIdx?_cons]
        simp only [Sem.run_bind, hq, Result.andThen_ok]
        by_cases he : p.1 = x
        · rw [decide_eq_true he, decide_eq_true he.symm]
          simp [h2]
        · rw [decide_eq_false he, decide_eq_false (fun e => he e.symm)]
          have h4 := ih l (i + 1) (fun q hq => hl q (List.mem_cons_of_mem _ hq)) h3
          simp only [Bool.false_eq_true, if_false, h4]
          cases (l.findIdx? fun p => decide (p.1 = x)) with
          | none => rfl
          | some j => simp; omega
  have h2 := hask es l 0 hl h
  have h3 : (Instr.findKey kt (adV x) es).run P w = (Instr.findAsking kt (adV x) es).run P w := by
    cases es with
    | nil => simp [Instr.findKey, run_underlying hk, Instr.findNow, Instr.findAsking]
    | cons e es => simp [Instr.findKey, run_underlying hk, Instr.findNow, Instr.sameNow]
  rw [h3, h2]
  simp
theorem MpR.getP (hk : P.underlying kt = some (.pointer elem)) (hi : P.info? elem = some ie) (hs : ie.size ≠ 0) {t : TypeId} (ht : P.underlying t = some (.map kt et)) {w : World} {b : Nat} {l : List ((Nat × Nat) × Value)} {z : Value} (hz : (zeroValue et).run P w = .ok z w) (h : MpR adV w b l) (k : Nat × Nat) (hx : Plain w k.1) (hl : ∀ p ∈ l, Plain w p.1.1) (c : Bool) :
    (Instr.lookup t (.map (some b)) (adV k) c).run P w = .ok (if c then .tuple #[(afind l k).getD z, .bool (afind l k).isSome] else (afind l k).getD z) w := by
  obtain ⟨es, cl, h1, h2, _⟩ := h
  have hf := ptr_find hk hi hs k w hx es.toList l hl h2
  have hc := ptr_check hk es.isEmpty k w
  rw [← idx_find]
  generalize hx : (l.findIdx? fun p => decide (p.1 = k)) = x at *
  cases x with
  | none => cases c <;> simp [Instr.lookup, run_underlying ht, MapKept.run_getObj_map h1, hc, hf, hz, Result.andThen]
  | some i => cases c <;> simp [Instr.lookup, run_underlying ht, MapKept.run_getObj_map h1, hc, hf, hz, Result.andThen]
/-- a new key -/
theorem MpR.newP (hk : P.underlying kt = some (.pointer elem)) (hi : P.info? elem = some ie) (hs : ie.size ≠ 0) {t : TypeId} (ht : P.underlying t = some (.map kt et)) {w : World} {b : Nat} {l : List ((Nat × Nat) × Value)} (h : MpR adV w b l) (k : Nat × Nat) (v : Value) (hx : Plain w k.1) (hl : ∀ p ∈ l, Plain w p.1.1) (hn : afind l k = none) :
    ∃ w', (Instr.mapUpdate t (.map (some b)) (adV k) v).run P w = .ok () w' ∧ MpR adV w' b (l ++ [(k, v)]) ∧ Upd (fun j => j = b) w w' := by
  obtain ⟨es, cl, h1, h2, h3, h4⟩ := h
  have hf := ptr_find hk hi hs k w hx es.toList l hl h2
  have hc := ptr_check hk false k w
  have hblt := (Array.getElem?_eq_some_iff.1 h1).1
  have hupd : ∀ o, Upd (fun j => j = b) w { w with heap := w.heap.setIfInBounds b o } := fun o =>
    ⟨rfl, rfl, rfl, by simp, fun i hi hF => by simp [Ne.symm (show i ≠ b from hF)]⟩
  rw [← idx_find] at hn
  generalize hx : (l.findIdx? fun p => decide (p.1 = k)) = x at *
  cases x with
  | none =>
    refine ⟨_, by simp [Instr.mapUpdate, run_underlying ht, MapKept.run_getObj_map h1, hc, hf, MapKept.run_setObj_map _ h1, Result.andThen]; rfl, ⟨es.push { key := adV k, val := v, born := cl }, cl + 1, by simp [hblt], ?_, ?_, ?_⟩, hupd _⟩
    · simp [h2]
    · simp only [Array.toList_push]
      rw [List.pairwise_append]
      refine ⟨h3, by simp, fun x hx y hy => ?_⟩
      rw [List.mem_singleton] at hy
      subst hy
      exact h4 x hx
    · intro e he
      simp only [Array.toList_push, List.mem_append, List.mem_singleton] at he
      rcases he with he | he
      · have := h4 e he; omega
      · subst he; simp
  | some i => cases hn
end
end Go.Hw

/- The classes in memory, by their numbers. -/
namespace Go.Hw
open Go.RowKit Tm
set_option linter.unusedVariables false
set_option linter.unusedSimpArgs false
abbrev blV (b : Nat) : Value := .pointer (some ⟨b, 0, none⟩)
def pV : Option (Nat × Nat) → Value
  | none => .pointer none
  | some p => adV p
def blk (bk : List Nat) (c : Nat) : Nat := bk.getD c 0
theorem blk_get {bk : List Nat} {c : Nat} (h : c < bk.length) : bk.getD c 0 = bk[c] := by
  rw [List.getD_eq_getElem?_getD, List.getElem?_eq_getElem h]
  rfl
/-- the cells of a class -/
def clCells (ad : Nat → Nat × Nat) (bk : List Nat) (x : Cl) : Array Value :=
  #[pV (x.up.map fun c => (blk bk c, 0)), .string x.nm, .string x.so, .bool x.mx, pV (x.tm.map ad), .int .i64 (x.ma : Int), .int .i64 (x.sz : Int), .int .i64 (x.dp : Int)]
/-- nodes in memory -/
structure NdR (T : List Nr) (ad : Nat → Nat × Nat) (S : Nat → Prop) (w : World) : Prop where
  inj : ∀ i j, i < T.length → j < T.length → ad i = ad j → i = j
  low : ∀ i, i < T.length → Plain w (ad i).1 ∧ S (ad i).1
  row : ∀ i r, T[i]? = some r → w.cell? ⟨(ad i).1, (ad i).2, none⟩ = some (.string r.nm) ∧ w.cell? ⟨(ad i).1, (ad i).2 + 1, none⟩ = some (.string r.so) ∧
    ∃ a cap, w.cell? ⟨(ad i).1, (ad i).2 + 2, none⟩ = some (.slice a r.ks.length cap) ∧ (0 < r.ks.length → ∃ g off, a = some ⟨g, off, none⟩ ∧ ∀ j k, r.ks[j]? = some k → k < T.length ∧ ad k = (g, off + j * 3))
theorem NdR.kept {T : List Nr} {ad : Nat → Nat × Nat} {S F : Nat → Prop} {w w' : World} (h : NdR T ad S w) (hu : Upd F w w') (hF : ∀ k, S k → ¬ F k) : NdR T ad S w' := by
  refine ⟨h.inj, fun i hi => ?_, fun i r hr => ?_⟩
  · obtain ⟨⟨cs, t, h1⟩, h2⟩ := h.low i hi
    exact ⟨⟨cs, t, hu.heap h1 (hF _ h2)⟩, h2⟩
  · obtain ⟨h1, h2, a, cap, h3, h4⟩ := h.row i r hr
    have hs := hF _ (h.low i (List.getElem?_eq_some_iff.1 hr).1).2
    exact ⟨hu.cell h1 hs, hu.cell h2 hs, a, cap, hu.cell h3 hs, h4⟩
/-- what a search may write -/
def Fb (bv bn : Nat) (bk : List Nat) (k : Nat) : Prop := k = bv ∨ k = bn ∨ k ∈ bk
structure UsR (N : Nat) (ad : Nat → Nat × Nat) (CT : TypeId) (bv bn : Nat) (bk : List Nat) (st : St) (w : World) : Prop where
  vs : MpR (fun s : ByteArray => Value.string s) w bv (st.vs.map fun e => (e.1, blV (blk bk e.2)))
  ns : MpR adV w bn (st.ns.map fun e => (ad e.1, blV (blk bk e.2)))
  len : bk.length = st.cs.length
  nd : (bv :: bn :: bk).Nodup
  row : ∀ c x, st.cs[c]? = some x → w.heap[blk bk c]? = some (.cells (clCells ad bk x) CT (0, 0))
  vlt : ∀ e ∈ st.vs, e.2 < st.cs.length
  nlt : ∀ e ∈ st.ns, e.2 < st.cs.length ∧ e.1 < N
  clt : ∀ x ∈ st.cs, (∀ d, x.up = some d → d < st.cs.length) ∧ (∀ i, x.tm = some i → i < N)
section
variable {N : Nat} {ad : Nat → Nat × Nat} {CT : TypeId} {bv bn : Nat} {bk : List Nat} {st : St} {w w' : World}
theorem UsR.ext {F : Nat → Prop} (h : UsR N ad CT bv bn bk st w) (hu : Upd F w w') (hF : ∀ k, Fb bv bn bk k → ¬ F k) : UsR N ad CT bv bn bk st w' :=
  ⟨h.vs.kept hu (hF _ (.inl rfl)), h.ns.kept hu (hF _ (.inr (.inl rfl))), h.len, h.nd, fun c x e => hu.heap (h.row c x e) (hF _ (.inr (.inr (by
    have hc := (List.getElem?_eq_some_iff.1 e).1
    rw [← h.len] at hc
    show bk.getD c 0 ∈ bk
    rw [blk_get hc]
    exact List.getElem_mem hc)))), h.vlt, h.nlt, h.clt⟩
theorem blk_mem {c : Nat} (h : c < bk.length) : blk bk c ∈ bk := by
  show bk.getD c 0 ∈ bk
  rw [blk_get h]
  exact List.getElem_mem h
theorem blk_inj (h : bk.Nodup) {c d : Nat} (hc : c < bk.length) (hd : d < bk.length) (e : blk bk c = blk bk d) : c = d := by
  have e' : bk.getD c 0 = bk.getD d 0 := e
  rw [blk_get hc, blk_get hd] at e'
  rcases Nat.lt_trichotomy c d with hlt | heq | hlt
  · exact absurd e' ((List.pairwise_iff_getElem.1 h) c d hc hd hlt)
  · exact heq
  · exact absurd e'.symm ((List.pairwise_iff_getElem.1 h) d c hd hc hlt)
theorem blk_snoc (b : Nat) {c : Nat} (h : c < bk.length) : blk (bk ++ [b]) c = blk bk c := by
  show (bk ++ [b]).getD c 0 = bk.getD c 0
  rw [List.getD_eq_getElem?_getD, List.getD_eq_getElem?_getD, List.getElem?_append_left h]
theorem blk_last (b : Nat) : blk (bk ++ [b]) bk.length = b := by
  show (bk ++ [b]).getD bk.length 0 = b
  rw [List.getD_eq_getElem?_getD, List.getElem?_append_right (Nat.le_refl _), Nat.sub_self]
  rfl
/-- one class is written anew -/
theorem UsR.put (h : UsR N ad CT bv bn bk st w) {c : Nat} (hc : c < st.cs.length) (x : Cl) (hx : (∀ d, x.up = some d → d < st.cs.length) ∧ (∀ i, x.tm = some i → i < N)) (hu : Upd (fun k => k = blk bk c) w w')
    (hrow : w'.heap[blk bk c]? = some (.cells (clCells ad bk x) CT (0, 0))) : UsR N ad CT bv bn bk (setC st c x) w' := by
  have hcb : c < bk.length := by rw [h.len]; exact hc
  have hm := blk_mem hcb
  have hn := h.nd
  rw [List.nodup_cons, List.nodup_cons] at hn
  have hl : (setC st c x).cs.length = st.cs.length := by show (st.cs.set c x).length = _; rw [List.length_set]
  refine ⟨h.vs.kept hu (fun e => hn.1 (by rw [e]; exact List.mem_cons_of_mem _ hm)), h.ns.kept hu (fun e => hn.2.1 (by rw [e]; exact hm)), by rw [hl]; exact h.len, h.nd, fun d y hy => ?_, fun e he => by rw [hl]; exact h.vlt e he, fun e he => by rw [hl]; exact h.nlt e he, fun y hy => ?_⟩
  · have hy' : (st.cs.set c x)[d]? = some y := hy
    rw [List.getElem?_set] at hy'
    by_cases e : c = d
    · subst e
      rw [if_pos rfl, if_pos hc] at hy'
      injection hy' with hy'
      rw [← hy']
      exact hrow
    · rw [if_neg e] at hy'
      have hd : d < bk.length := by rw [h.len]; exact (List.getElem?_eq_some_iff.1 hy').1
      exact hu.heap (h.row d y hy') (fun e2 => e (blk_inj hn.2.2 hd hcb e2).symm)
  · rw [hl]
    rcases List.mem_or_eq_of_mem_set (show y ∈ st.cs.set c x from hy) with hy | hy
    · exact h.clt y hy
    · rw [hy]; exact hx
theorem clCells_snoc (h : UsR N ad CT bv bn bk st w) (b : Nat) {x : Cl} (hx : x ∈ st.cs) : clCells ad (bk ++ [b]) x = clCells ad bk x := by
  unfold clCells
  cases hu : x.up with
  | none => rfl
  | some d =>
    have := (h.clt x hx).1 d hu
    rw [Option.map_some, Option.map_some, blk_snoc b (by rw [h.len]; exact this)]
/-- a class is made -/
theorem UsR.made (h : UsR N ad CT bv bn bk st w) {b : Nat} {st' : St} (x : Cl) (hx : x.up = none ∧ ∀ i, x.tm = some i → i < N) (hb : b ∉ (bv :: bn :: bk)) (hcs : st'.cs = st.cs ++ [x])
    (hvs : MpR (fun s : ByteArray => Value.string s) w' bv (st'.vs.map fun e => (e.1, blV (blk (bk ++ [b]) e.2)))) (hns : MpR adV w' bn (st'.ns.map fun e => (ad e.1, blV (blk (bk ++ [b]) e.2))))
    (hvl : ∀ e ∈ st'.vs, e.2 < st'.cs.length) (hnl : ∀ e ∈ st'.ns, e.2 < st'.cs.length ∧ e.1 < N)
    (hrow : w'.heap[b]? = some (.cells (clCells ad (bk ++ [b]) x) CT (0, 0))) (hkeep : ∀ k ∈ bk, ∀ o, w.heap[k]? = some o → w'.heap[k]? = some o) : UsR N ad CT bv bn (bk ++ [b]) st' w' := by
  have hn := h.nd
  refine ⟨hvs, hns, by rw [hcs, List.length_append, List.length_append, h.len]; rfl, ?_, fun c y hy => ?_, hvl, hnl, fun y hy => ?_⟩
  · have : (bv :: bn :: bk) ++ [b] = bv :: bn :: (bk ++ [b]) := rfl
    rw [← this, List.nodup_append]
    refine ⟨hn, by simp, fun x hx y hy => ?_⟩
    rw [List.mem_singleton] at hy
    rw [hy]
    intro e
    exact hb (by rw [← e]; exact hx)
  · rw [hcs] at hy
    by_cases hc : c < st.cs.length
    · rw [List.getElem?_append_left hc] at hy
      have hcb : c < bk.length := by rw [h.len]; exact hc
      rw [blk_snoc b hcb, clCells_snoc h b (List.mem_of_getElem? hy)]
      exact hkeep _ (blk_mem hcb) _ (h.row c y hy)
    · rw [List.getElem?_append_right (Nat.le_of_not_lt hc)] at hy
      have h0 : c - st.cs.length = 0 := by
        have := (List.getElem?_eq_some_iff.1 hy).1
        simp at this
        omega
      rw [h0] at hy
      injection hy with hy
      have hce : c = bk.length := by rw [h.len]; omega
      rw [hce, blk_last, ← hy]
      exact hrow
  · rw [hcs] at hy ⊢
    rw [List.length_append]
    rcases List.mem_append.1 hy with hy | hy
    · have := h.clt y hy
      exact ⟨fun d e => Nat.lt_of_lt_of_le (this.1 d e) (Nat.le_add_right _ _), this.2⟩
    · rw [List.mem_singleton] at hy
      rw [hy]
      exact ⟨fun d e => absurd (hx.1.symm.trans e) (by simp), hx.2⟩
theorem afind_map {κ κ' : Type} [DecidableEq κ] [DecidableEq κ'] (f : κ → κ') (g : Nat → Value) (l : List (κ × Nat)) (k : κ) (hf : ∀ e ∈ l, f e.1 = f k → e.1 = k) : afind (l.map fun e => (f e.1, g e.2)) (f k) = (fnd l k).map g := by
  unfold fnd
  induction l with
  | nil => rfl
  | cons e l ih =>
    rw [List.map_cons, afind_cons, List.find?_cons]
    by_cases h : e.1 = k
    · rw [h, if_pos rfl, decide_eq_true rfl]; rfl
    · rw [if_neg (fun e2 => h (hf e (List.mem_cons_self ..) e2)), decide_eq_false h]
      exact ih (fun e he => hf e (List.mem_cons_of_mem _ he))
theorem UsR.lt (h : UsR N ad CT bv bn bk st w) (k : Nat) (hk : Fb bv bn bk k) : k < w.heap.size := by
  rcases hk with hk | hk | hk
  · rw [hk]; exact h.vs.lt
  · rw [hk]; exact h.ns.lt
  · obtain ⟨c, hc, e⟩ := List.getElem_of_mem hk
    have hc' : c < st.cs.length := by rw [← h.len]; exact hc
    have h1 := h.row c _ (List.getElem?_eq_getElem hc')
    have h2 := (Array.getElem?_eq_some_iff.1 h1).1
    have h3 : blk bk c = k := by show bk.getD c 0 = k; rw [blk_get hc, e]
    rw [h3] at h2
    exact h2
theorem aput_snoc {κ : Type} [DecidableEq κ] {l : List (κ × Value)} {k : κ} (h : afind l k = none) (v : Value) : aput l k v = l ++ [(k, v)] := by
  induction l with
  | nil => rfl
  | cons p l ih =>
    rw [afind_cons] at h
    by_cases e : p.1 = k
    · rw [if_pos e] at h; cases h
    · rw [if_neg e] at h
      unfold aput
      rw [if_neg e, ih h]
      rfl
theorem ent_keep {κ κ' : Type} (f : κ → κ') (b : Nat) (l : List (κ × Nat)) (h : ∀ e ∈ l, e.2 < bk.length) : (l.map fun e => (f e.1, blV (blk (bk ++ [b]) e.2))) = l.map fun e => (f e.1, blV (blk bk e.2)) :=
  List.map_congr_left fun e he => by rw [blk_snoc b (h e he)]
theorem ent_snoc {κ κ' : Type} (f : κ → κ') (b : Nat) (l : List (κ × Nat)) (k : κ) (h : ∀ e ∈ l, e.2 < bk.length) : ((l ++ [(k, bk.length)]).map fun e => (f e.1, blV (blk (bk ++ [b]) e.2))) = (l.map fun e => (f e.1, blV (blk bk e.2))) ++ [(f k, blV b)] := by
  rw [List.map_append, ent_keep f b l h]
  show _ ++ [(f k, blV (blk (bk ++ [b]) bk.length))] = _
  rw [blk_last]
theorem fb_not {b : Nat} (h : ¬ Fb bv bn bk b) : b ∉ (bv :: bn :: bk) := fun hm => h (by
  rcases List.mem_cons.1 hm with e | hm
  · exact .inl e
  · rcases List.mem_cons.1 hm with e | hm
    · exact .inr (.inl e)
    · exact .inr (.inr hm))
theorem UsR.vn (h : UsR N ad CT bv bn bk st w) : bv ≠ bn ∧ bv ∉ bk ∧ bn ∉ bk := by
  have h1 := h.nd
  rw [List.nodup_cons, List.nodup_cons, List.mem_cons, not_or] at h1
  exact ⟨h1.1.1, h1.1.2, h1.2.1⟩
/-- a new class of a variable -/
theorem UsR.newv (h : UsR N ad CT bv bn bk st w) {nm so : By} {b : Nat} (hf : fnd st.vs nm = none) (hb : ¬ Fb bv bn bk b) (hrow : w.heap[b]? = some (.cells (clCells ad bk ⟨none, nm, so, false, none, 0, 0, 0⟩) CT (0, 0)))
    (hmp : MpR (fun s : ByteArray => Value.string s) w' bv (aput (st.vs.map fun e => (e.1, blV (blk bk e.2))) nm (blV b))) (hu : Upd (fun j => j = bv) w w') : UsR N ad CT bv bn (bk ++ [b]) { st with vs := st.vs ++ [(nm, st.cs.length)], cs := st.cs ++ [⟨none, nm, so, false, none, 0, 0, 0⟩] } w' := by
  have hvn := h.vn
  have hvl : ∀ e ∈ st.vs, e.2 < bk.length := fun e he => by rw [h.len]; exact h.vlt e he
  have hnl : ∀ e ∈ st.ns, e.2 < bk.length := fun e he => by rw [h.len]; exact (h.nlt e he).1
  refine h.made ⟨none, nm, so, false, none, 0, 0, 0⟩ ⟨rfl, fun i e => by cases e⟩ (fb_not hb) rfl ?_ ?_ ?_ ?_ ?_ ?_
  · show MpR _ w' bv ((st.vs ++ [(nm, st.cs.length)]).map fun e => (e.1, blV (blk (bk ++ [b]) e.2)))
    rw [← h.len, ent_snoc (fun s : By => s) b st.vs nm hvl, ← aput_snoc (by
      have := afind_map (fun s : By => s) (fun c => blV (blk bk c)) st.vs nm (fun e _ h => h)
      rw [this, hf]; rfl)]
    exact hmp
  · show MpR _ w' bn (st.ns.map fun e => (ad e.1, blV (blk (bk ++ [b]) e.2)))
    rw [ent_keep ad b st.ns hnl]
    exact h.ns.kept hu (fun e => hvn.1 e.symm)
  · intro e he
    show e.2 < (st.cs ++ [_]).length
    rw [List.length_append, List.length_singleton]
    rcases List.mem_append.1 he with he | he
    · exact Nat.lt_of_lt_of_le (h.vlt e he) (Nat.le_add_right _ _)
    · rw [List.mem_singleton] at he; rw [he]; exact Nat.lt_succ_self _
  · intro e he
    show e.2 < (st.cs ++ [_]).length ∧ _
    rw [List.length_append, List.length_singleton]
    exact ⟨Nat.lt_of_lt_of_le (h.nlt e he).1 (Nat.le_add_right _ _), (h.nlt e he).2⟩
  · exact hu.heap hrow (fun e => hb (.inl e))
  · intro k hk o ho
    exact hu.heap ho (fun e => hvn.2.1 (by rw [← e]; exact hk))
/-- a new class of an operation -/
theorem UsR.newo (h : UsR N ad CT bv bn bk st w) {i b : Nat} (hi : i < N) (hb : ¬ Fb bv bn bk b) (hrow : w.heap[b]? = some (.cells (clCells ad bk ⟨none, nul, nul, false, some i, 0, 0, 0⟩) CT (0, 0)))
    (hmp : MpR adV w' bn ((st.ns.map fun e => (ad e.1, blV (blk bk e.2))) ++ [(ad i, blV b)])) (hu : Upd (fun j => j = bn) w w') : UsR N ad CT bv bn (bk ++ [b]) { st with ns := st.ns ++ [(i, st.cs.length)], cs := st.cs ++ [⟨none, nul, nul, false, some i, 0, 0, 0⟩] } w' := by
  have hvn := h.vn
  have hvl : ∀ e ∈ st.vs, e.2 < bk.length := fun e he => by rw [h.len]; exact h.vlt e he
  have hnl : ∀ e ∈ st.ns, e.2 < bk.length := fun e he => by rw [h.len]; exact (h.nlt e he).1
  refine h.made ⟨none, nul, nul, false, some i, 0, 0, 0⟩ ⟨rfl, fun j e => by injection e with e; rw [← e]; exact hi⟩ (fb_not hb) rfl ?_ ?_ ?_ ?_ ?_ ?_
  · show MpR _ w' bv (st.vs.map fun e => (e.1, blV (blk (bk ++ [b]) e.2)))
    rw [ent_keep (fun s : By => s) b st.vs hvl]
    exact h.vs.kept hu hvn.1
  · show MpR _ w' bn ((st.ns ++ [(i, st.cs.length)]).map fun e => (ad e.1, blV (blk (bk ++ [b]) e.2)))
    rw [← h.len, ent_snoc ad b st.ns i hnl]
    exact hmp
  · intro e he
    show e.2 < (st.cs ++ [_]).length
    rw [List.length_append, List.length_singleton]
    exact Nat.lt_of_lt_of_le (h.vlt e he) (Nat.le_add_right _ _)
  · intro e he
    show e.2 < (st.cs ++ [_]).length ∧ _
    rw [List.length_append, List.length_singleton]
    rcases List.mem_append.1 he with he | he
    · exact ⟨Nat.lt_of_lt_of_le (h.nlt e he).1 (Nat.le_add_right _ _), (h.nlt e he).2⟩
    · rw [List.mem_singleton] at he; rw [he]; exact ⟨Nat.lt_succ_self _, hi⟩
  · exact hu.heap hrow (fun e => hb (.inr (.inl e)))
  · intro k hk o ho
    exact hu.heap ho (fun e => hvn.2.2 (by rw [← e]; exact hk))
end
end Go.Hw

/- The unifier in memory: its classes and the nodes. -/
namespace Go.Hw
open Go.RowKit Tm
set_option linter.unusedVariables false
set_option linter.unusedSimpArgs false
theorem rootF_some {cs : List Cl} : ∀ {F c r : Nat}, rootF cs F c = some r → ∃ x, cs[r]? = some x ∧ x.up = none
  | F + 1, c, r, h => by
    unfold rootF at h
    cases hx : cs[c]? with
    | none => rw [hx] at h; cases h
    | some x =>
      rw [hx] at h
      simp only at h
      cases hu : x.up with
      | none =>
        rw [hu] at h
        injection h with h
        subst h
        exact ⟨x, hx, hu⟩
      | some d => rw [hu] at h; exact rootF_some h
theorem classF_some {T : List Nr} {F i r : Nat} {st st' : St} (h : classF T F st i = some (st', r)) : ∃ x, st'.cs[r]? = some x ∧ x.up = none := by
  have hv : ∀ nm so, varF F st nm so = some (st', r) → ∃ x, st'.cs[r]? = some x ∧ x.up = none := fun nm so h => by
    unfold varF at h
    cases hf : fnd st.vs nm with
    | some c =>
      rw [hf] at h
      simp only at h
      cases hr : rootF st.cs F c with
      | none => rw [hr] at h; cases h
      | some q => rw [hr] at h; simp only [Option.map_some, Option.some.injEq, Prod.mk.injEq] at h; obtain ⟨rfl, rfl⟩ := h; exact rootF_some hr
    | none =>
      rw [hf] at h
      simp only at h
      cases hr : rootF (st.cs ++ [⟨none, nm, so, false, none, 0, 0, 0⟩]) F st.cs.length with
      | none => rw [hr] at h; cases h
      | some q => rw [hr] at h; simp only [Option.map_some, Option.some.injEq, Prod.mk.injEq] at h; obtain ⟨rfl, rfl⟩ := h; exact rootF_some hr
  unfold classF at h
  cases ht : T[i]? with
  | none => rw [ht] at h; cases h
  | some x =>
    rw [ht] at h
    simp only at h
    by_cases hs : x.so = nul
    · rw [if_pos hs] at h
      unfold opF at h
      cases hf : fnd st.ns i with
      | some c =>
        rw [hf] at h
        simp only at h
        cases hr : rootF st.cs F c with
        | none => rw [hr] at h; cases h
        | some q => rw [hr] at h; simp only [Option.map_some, Option.some.injEq, Prod.mk.injEq] at h; obtain ⟨rfl, rfl⟩ := h; exact rootF_some hr
      | none =>
        rw [hf] at h
        simp only at h
        cases hr : rootF (st.cs ++ [⟨none, nul, nul, false, some i, 0, 0, 0⟩]) F st.cs.length with
        | none => rw [hr] at h; cases h
        | some q => rw [hr] at h; simp only [Option.map_some, Option.some.injEq, Prod.mk.injEq] at h; obtain ⟨rfl, rfl⟩ := h; exact rootF_some hr
    · rw [if_neg hs] at h
      exact hv _ _ h
/-- a unification under way -/
structure Ur (T : List Nr) (ad : Nat → Nat × Nat) (S : Nat → Prop) (CT UT : TypeId) (bv bn ub : Nat) (bk : List Nat) (st : St) (w : World) : Prop where
  us : UsR T.length ad CT bv bn bk st w
  nd : NdR T ad S w
  u : w.heap[ub]? = some (.cells #[.map (some bv), .map (some bn)] UT (0, 0))
  un : ¬ Fb bv bn bk ub
  sn : ∀ k, S k → k < w.heap.size ∧ ¬ Fb bv bn bk k
/-- what a call leaves -/
structure Us' (T : List Nr) (ad : Nat → Nat × Nat) (S : Nat → Prop) (CT UT : TypeId) (bv bn ub : Nat) (bk bk' : List Nat) (st' : St) (w w' : World) : Prop where
  ur : Ur T ad S CT UT bv bn ub bk' st' w'
  upd : Upd (Fb bv bn bk) w w'
  pre : bk <+: bk'
  new : ∀ b ∈ bk', b ∈ bk ∨ w.heap.size ≤ b
section
variable {T : List Nr} {ad : Nat → Nat × Nat} {S : Nat → Prop} {CT UT : TypeId} {bv bn ub : Nat} {bk bk' bk'' : List Nat} {st st' st'' : St} {w w' w'' : World}
theorem Ur.step (h : Ur T ad S CT UT bv bn ub bk st w) (hm : UsR T.length ad CT bv bn bk' st' w') (hu : Upd (Fb bv bn bk) w w') (hp : bk <+: bk') (hb : ∀ b ∈ bk', b ∈ bk ∨ w.heap.size ≤ b) : Us' T ad S CT UT bv bn ub bk bk' st' w w' := by
  have hn : ∀ k, k < w.heap.size → ¬ Fb bv bn bk k → ¬ Fb bv bn bk' k := fun k hk hF hF' => by
    rcases hF' with e | e | e
    · exact hF (.inl e)
    · exact hF (.inr (.inl e))
    · rcases hb k e with e | e
      · exact hF (.inr (.inr e))
      · omega
  have hul : ub < w.heap.size := (Array.getElem?_eq_some_iff.1 h.u).1
  exact ⟨⟨hm, h.nd.kept hu (fun k hk => (h.sn k hk).2), hu.heap h.u h.un, hn _ hul h.un, fun k hk => ⟨Nat.lt_of_lt_of_le (h.sn k hk).1 hu.size, hn k (h.sn k hk).1 (h.sn k hk).2⟩⟩, hu, hp, hb⟩
theorem Ur.ext (h : Ur T ad S CT UT bv bn ub bk st w) (hu : Ext w w') : Ur T ad S CT UT bv bn ub bk st w' :=
  ⟨h.us.ext hu (fun _ _ h => h), h.nd.kept hu (fun _ _ h => h), hu.heap h.u (fun h => h), h.un, fun k hk => ⟨Nat.lt_of_lt_of_le (h.sn k hk).1 hu.size, (h.sn k hk).2⟩⟩
theorem Us'.refl (h : Ur T ad S CT UT bv bn ub bk st w) : Us' T ad S CT UT bv bn ub bk bk st w w := ⟨h, Upd.refl _ _, List.prefix_refl _, fun b hb => .inl hb⟩
theorem Us'.trans (h : Us' T ad S CT UT bv bn ub bk bk' st' w w') (h' : Us' T ad S CT UT bv bn ub bk' bk'' st'' w' w'') : Us' T ad S CT UT bv bn ub bk bk'' st'' w w'' := by
  refine ⟨h'.ur, h.upd.trans' h'.upd (fun j hj hF => ?_), h.pre.trans h'.pre, fun b hb => ?_⟩
  · rcases hF with e | e | e
    · exact .inl e
    · exact .inr (.inl e)
    · rcases h.new j e with e | e
      · exact .inr (.inr e)
      · omega
  · rcases h'.new b hb with e | e
    · exact h.new b e
    · exact .inr (Nat.le_trans h.upd.size e)
theorem Us'.ext (h : Us' T ad S CT UT bv bn ub bk bk' st' w w') (hu : Ext w' w'') : Us' T ad S CT UT bv bn ub bk bk' st' w w'' :=
  ⟨h.ur.ext hu, h.upd.ext hu, h.pre, h.new⟩
theorem pre_blk (h : bk <+: bk') {c : Nat} (hc : c < bk.length) : blk bk' c = blk bk c := by
  obtain ⟨t, rfl⟩ := h
  show (bk ++ t).getD c 0 = bk.getD c 0
  rw [List.getD_eq_getElem?_getD, List.getD_eq_getElem?_getD, List.getElem?_append_left hc]
/-- one class is written anew -/
theorem Us'.put (h : Us' T ad S CT UT bv bn ub bk bk' st w w') {c : Nat} (hc : c < st.cs.length) (x : Cl) (hx : (∀ d, x.up = some d → d < st.cs.length) ∧ (∀ i, x.tm = some i → i < T.length)) (hu : Upd (fun k => k = blk bk' c) w' w'')
    (hrow : w''.heap[blk bk' c]? = some (.cells (clCells ad bk' x) CT (0, 0))) : Us' T ad S CT UT bv bn ub bk bk' (setC st c x) w w'' := by
  have hm := h.ur.us.put hc x hx hu hrow
  exact h.trans (h.ur.step hm (hu.mono (fun k _ hk => .inr (.inr (by rw [hk]; exact blk_mem (by rw [h.ur.us.len]; exact hc))))) (List.prefix_refl _) (fun b hb => .inl hb))
end
end Go.Hw

/- The search for cycles, and the value of a class, over numbers; with tests that keep what is reckoned small. -/
namespace Go.Hw
open Go.RowKit Tm
set_option linter.unusedVariables false
set_option linter.unusedSimpArgs false
def acK (T : List Nr) (F : Nat) (ac : St → Nat → Option (St × Bool)) (c x : Nat) : St → List Nat → Option (St × Bool)
  | st, [] => some (st, true)
  | st, k :: ks => if (st.cs[c]?.map (·.tm)) = some (some x) then match classF T F st k with
    | none => none
    | some (st1, y) => match ac st1 y with
      | none => none
      | some (st2, false) => some (st2, false)
      | some (st2, true) => match st2.cs[c]?, st2.cs[y]? with
        | some C, some Y => if C.sz ≤ 2000 ∧ Y.sz ≤ 2000 ∧ C.dp ≤ 2000 ∧ Y.dp ≤ 2000 then acK T F ac c x (setC st2 c { C with sz := min (C.sz + Y.sz) 1001, dp := min (max C.dp (Y.dp + 1)) 61 }) ks else none
        | _, _ => none
    else none
def acG (T : List Nr) : Nat → St → Nat → Option (St × Bool)
  | 0, _, _ => none
  | F + 1, st, c => match st.cs[c]? with
    | none => none
    | some C => if C.ma = 1 then some (st, false) else match C.tm with
      | none => if C.mx = true then some (st, false) else if C.ma = 2 then some (st, true) else some (setC st c { C with ma := 2, sz := 1, dp := 1 }, true)
      | some x => if C.ma = 2 then some (st, true) else match T[x]? with
        | none => none
        | some X => match acK T F (acG T F) c x (setC st c { C with ma := 1, sz := 1, dp := 1 }) X.ks with
          | none => none
          | some (st1, false) => some (st1, false)
          | some (st1, true) => match st1.cs[c]? with
            | none => none
            | some C1 => some (setC st1 c { C1 with ma := 2 }, true)
/-- a node's class is there -/
def fndC (T : List Nr) (st : St) (i : Nat) : Bool := match T[i]? with
  | none => false
  | some r => if r.so = nul then (fnd st.ns i).isSome else (fnd st.vs r.nm).isSome
theorem opF_same {F i r : Nat} {st st' : St} (hf : (fnd st.ns i).isSome = true) (h : opF F st i = some (st', r)) : st' = st := by
  unfold opF at h
  cases hx : fnd st.ns i with
  | none => rw [hx] at hf; cases hf
  | some c =>
    rw [hx] at h
    simp only at h
    cases hr : rootF st.cs F c with
    | none => rw [hr] at h; cases h
    | some q => rw [hr] at h; simp only [Option.map_some, Option.some.injEq, Prod.mk.injEq] at h; exact h.1.symm
theorem varF_same {F r : Nat} {st st' : St} {nm so : By} (hf : (fnd st.vs nm).isSome = true) (h : varF F st nm so = some (st', r)) : st' = st := by
  unfold varF at h
  cases hx : fnd st.vs nm with
  | none => rw [hx] at hf; cases hf
  | some c =>
    rw [hx] at h
    simp only at h
    cases hr : rootF st.cs F c with
    | none => rw [hr] at h; cases h
    | some q => rw [hr] at h; simp only [Option.map_some, Option.some.injEq, Prod.mk.injEq] at h; exact h.1.symm
/-- the value of a class, all classes there already -/
def vaK (T : List Nr) (F : Nat) (st : St) (va : Nat → Option Tm) (c x : Nat) : List Nat → Option (List Tm)
  | [] => some []
  | k :: ks => if fndC T st k = true then match classF T F st k with
    | none => none
    | some (_, y) => match va y with
      | none => none
      | some t => match vaK T F st va c x ks with
        | none => none
        | some L => some (t :: L)
    else none
def vaG (T : List Nr) (st : St) : Nat → Nat → Option Tm
  | 0, _ => none
  | F + 1, c => match st.cs[c]? with
    | none => none
    | some C => match C.tm with
      | none => some (.mk C.nm C.so [])
      | some x => match T[x]? with
        | none => none
        | some X => (vaK T F st (vaG T st F) c x X.ks).map fun L => .mk X.nm nul L
theorem vaK_len {T : List Nr} {F : Nat} {st : St} {va : Nat → Option Tm} {c x : Nat} : ∀ {ks : List Nat} {L : List Tm}, vaK T F st va c x ks = some L → L.length = ks.length
  | [], L, h => by unfold vaK at h; injection h with h; rw [← h]; rfl
  | k :: ks, L, h => by
    unfold vaK at h
    by_cases hf : fndC T st k = true
    · rw [if_pos hf] at h
      cases hc : classF T F st k with
      | none => rw [hc] at h; cases h
      | some q =>
        obtain ⟨s1, y⟩ := q
        rw [hc] at h
        simp only at h
        cases hv : va y with
        | none => rw [hv] at h; cases h
        | some t =>
          rw [hv] at h
          simp only at h
          cases hr : vaK T F st va c x ks with
          | none => rw [hr] at h; cases h
          | some L' =>
            rw [hr] at h
            simp only [Option.some.injEq] at h
            rw [← h, List.length_cons, List.length_cons, vaK_len hr]
    · rw [if_neg hf] at h; cases h
/-- the k-th part -/
theorem vaK_at {T : List Nr} {F : Nat} {st : St} {va : Nat → Option Tm} {c x : Nat} : ∀ {ks : List Nat} {L : List Tm}, vaK T F st va c x ks = some L → ∀ k (hk : k < ks.length), fndC T st ks[k] = true ∧ ∃ s1 y, classF T F st ks[k] = some (s1, y) ∧ va y = some (tg L k)
  | [], L, h, k, hk => absurd hk (Nat.not_lt_zero _)
  | j :: ks, L, h, k, hk => by
    unfold vaK at h
    by_cases hf : fndC T st j = true
    · rw [if_pos hf] at h
      cases hc : classF T F st j with
      | none => rw [hc] at h; cases h
      | some q =>
        obtain ⟨s1, y⟩ := q
        rw [hc] at h
        simp only at h
        cases hv : va y with
        | none => rw [hv] at h; cases h
        | some t =>
          rw [hv] at h
          simp only at h
          cases hr : vaK T F st va c x ks with
          | none => rw [hr] at h; cases h
          | some L' =>
            rw [hr] at h
            simp only [Option.some.injEq] at h
            rw [← h]
            cases k with
            | zero => exact ⟨hf, s1, y, hc, hv⟩
            | succ k => exact vaK_at hr k (by simp at hk; omega)
    · rw [if_neg hf] at h; cases h
theorem setC_setC (st : St) (c : Nat) (x y : Cl) : setC (setC st c x) c y = setC st c y := by
  show ({ st with cs := (st.cs.set c x).set c y } : St) = { st with cs := st.cs.set c y }
  rw [List.set_set]
theorem setC_at (st : St) {c : Nat} (h : c < st.cs.length) (x : Cl) : (setC st c x).cs[c]? = some x := by
  show (st.cs.set c x)[c]? = _
  rw [List.getElem?_set, if_pos rfl, if_pos h]
theorem setC_len (st : St) (c : Nat) (x : Cl) : (setC st c x).cs.length = st.cs.length := List.length_set ..
end Go.Hw

/- A drawn region whose head only reads and whose tail is in order: the head by the quiet walk.  -/
namespace Go.Hw
open Go
theorem still_of_quiet {P : Program} {ops : Array Oper} {w : World} {Q : Act → Prop} : ∀ (l : List Oper) (a : Act), wpQuiet P ops (fun w' => ∃ _ : Unit, w' = w) Q l a → wpStill P ops w Q l a
  | [], _, h => h
  | o :: rest, a, h => by
    unfold wpQuiet at h
    unfold wpStill
    split
    · rename_i hw
      rw [if_pos hw] at h
      obtain ⟨v, hv, hn⟩ := h
      have hv := hv w ⟨(), rfl⟩
      have hn := still_of_quiet rest _ hn
      unfold Oper.quietAt at hv
      unfold Oper.still
      generalize (execOp a.eval o).run P w = r at hv
      cases r with
      | ok n w' =>
        cases n with
        | value u => obtain ⟨h1, h2⟩ := hv; exact ⟨h1, by rw [h2]; exact hn⟩
        | skip => obtain ⟨h1, h2⟩ := hv; exact ⟨h1, by rw [← h2]; exact hn⟩
        | enter f args => obtain ⟨h1, h2⟩ := hv; exact ⟨h1, v, h2.mono (fun e w'' h => ⟨h.1, h.2.elim fun _ h => h⟩), hn⟩
        | _ => cases hv
      | _ => cases hv
    · rename_i hw
      rw [if_neg hw] at h
      exact still_of_quiet rest _ h
theorem region_quiet_tail {P : Program} {id : Nat} {Q : Exit → Act → World → Prop} {a : Act} {w : World} {l : List Oper} (n : Nat) (hm : P.follows .mixedOrders = true) (hB : Region.lexTailB .any l.toArray n = true)
    (h : wpQuiet P l.toArray (fun w' => ∃ _ : Unit, w' = { w with drawn := w.drawn + 1 }) (fun a' => wpList P l.toArray Q (l.drop n) a' { w with drawn := w.drawn + 1 }) (l.take n) a) : (Code.region id l.toArray true).wp P Q a w :=
  wp_region_still_tail n hm hB (still_of_quiet _ _ h)
end Go.Hw

/- Unifiers: pure: a most general one whose variables are the least is unique; lists of bindings. -/
namespace Go.Hw
open Tm
set_option linter.unusedVariables false
set_option linter.unusedSimpArgs false
abbrev Su := By → By → Tm
abbrev vr (n s : By) : Tm := .mk n s []
/-- the variables of a term -/
def vof (t : Tm) : List Vd := vl (sbts t)
theorem vof_op (n : By) (L : List Tm) : vof (.mk n nul L) = L.flatMap vof := by
  unfold vof
  rw [sbts_eq]
  have h1 : ∀ M : List Tm, vl (M.flatMap sbts) = M.flatMap (fun x => vl (sbts x)) := by
    intro M
    induction M with
    | nil => rfl
    | cons x M ih => rw [List.flatMap_cons, vl_append, ih, List.flatMap_cons]
  rw [← List.singleton_append, vl_append, h1]
  rfl
theorem vof_self {n s : By} (h : s ≠ nul) (L : List Tm) : (n, s) ∈ vof (.mk n s L) := by
  unfold vof vl
  rw [List.mem_filterMap]
  exact ⟨_, mem_sbts_self _, by simp [Tm.sort, Tm.name, h]⟩
theorem vof_ne {t : Tm} {f : Vd} (h : f ∈ vof t) : f.2 ≠ nul := by
  unfold vof vl at h
  rw [List.mem_filterMap] at h
  obtain ⟨x, _, hx⟩ := h
  by_cases e : x.sort = nul
  · rw [if_pos e] at hx; cases hx
  · rw [if_neg e] at hx
    injection hx with hx
    rw [← hx]
    exact e
theorem vof_vr {n s : By} (h : s ≠ nul) : vof (vr n s) = [(n, s)] := by
  unfold vof
  rw [sbts_eq]
  simp [vl, Tm.sort, Tm.name, Tm.kids, h]
theorem vof_kid {t x : Tm} (h : x ∈ t.kids) {f : Vd} (hf : f ∈ vof x) : f ∈ vof t := by
  unfold vof vl at *
  rw [List.mem_filterMap] at *
  obtain ⟨y, hy, e⟩ := hf
  exact ⟨y, mem_sbts_kid h hy, e⟩
theorem sbT_var (σ : Su) {n s : By} (h : s ≠ nul) (L : List Tm) : sbT σ (.mk n s L) = σ n s := by
  unfold sbT
  rw [if_neg h]
theorem sbT_opn (σ : Su) (n : By) (L : List Tm) : sbT σ (.mk n nul L) = .mk n nul (L.map (sbT σ)) := sbT_op σ rfl
theorem sbT_congr {σ τ : Su} : ∀ t : Tm, (∀ f ∈ vof t, σ f.1 f.2 = τ f.1 f.2) → sbT σ t = sbT τ t := by
  refine Tm.ind (fun n s L ih h => ?_)
  by_cases hs : s = nul
  · subst hs
    rw [sbT_opn, sbT_opn]
    congr 1
    refine List.map_congr_left (fun x hx => ih x hx (fun f hf => h f ?_))
    rw [vof_op]
    exact List.mem_flatMap.2 ⟨x, hx, hf⟩
  · rw [sbT_var σ hs, sbT_var τ hs]
    exact h _ (vof_self hs L)
theorem sbT_comp (σ τ : Su) : ∀ t : Tm, sbT σ (sbT τ t) = sbT (fun n s => sbT σ (τ n s)) t := by
  refine Tm.ind (fun n s L ih => ?_)
  by_cases hs : s = nul
  · subst hs
    rw [sbT_opn, sbT_opn, sbT_opn, List.map_map]
    congr 1
    exact List.map_congr_left (fun x hx => ih x hx)
  · rw [sbT_var τ hs, sbT_var _ hs]
theorem sbT_id {σ : Su} : ∀ t : Tm, NoP t → (∀ f ∈ vof t, σ f.1 f.2 = vr f.1 f.2) → sbT σ t = t := by
  refine Tm.ind (fun n s L ih hp h => ?_)
  by_cases hs : s = nul
  · subst hs
    rw [sbT_opn]
    congr 1
    conv => rhs; rw [← List.map_id L]
    refine List.map_congr_left (fun x hx => ih x hx (hp.kid hx) (fun f hf => h f ?_))
    rw [vof_op]
    exact List.mem_flatMap.2 ⟨x, hx, hf⟩
  · rw [sbT_var σ hs, h _ (vof_self hs L)]
    have hk : L = [] := hp _ (mem_sbts_self _) hs
    rw [hk]
theorem sbT_fix {σ : Su} : ∀ t : Tm, NoP t → sbT σ t = t → ∀ f ∈ vof t, σ f.1 f.2 = vr f.1 f.2 := by
  refine Tm.ind (fun n s L ih hp h f hf => ?_)
  by_cases hs : s = nul
  · subst hs
    rw [sbT_opn] at h
    injection h with _ _ h
    rw [vof_op] at hf
    obtain ⟨x, hx, hf⟩ := List.mem_flatMap.1 hf
    have hx2 : sbT σ x = x := by
      have h2 : ∀ (M : List Tm), M.map (sbT σ) = M → ∀ y ∈ M, sbT σ y = y := by
        intro M
        induction M with
        | nil => intro _ y hy; cases hy
        | cons a M ihM =>
          intro e y hy
          rw [List.map_cons] at e
          injection e with e1 e2
          rcases List.mem_cons.1 hy with e3 | hy
          · rw [e3]; exact e1
          · exact ihM e2 y hy
      exact h2 L h x hx
    exact ih x hx (hp.kid hx) hx2 f hf
  · have hk : L = [] := hp _ (mem_sbts_self _) hs
    subst hk
    rw [vof_vr hs, List.mem_singleton] at hf
    subst hf
    rw [sbT_var σ hs] at h
    exact h
theorem mem_vof_sbT {σ : Su} {f : Vd} : ∀ t : Tm, f ∈ vof (sbT σ t) → ∃ g ∈ vof t, f ∈ vof (σ g.1 g.2) := by
  refine Tm.ind (fun n s L ih h => ?_)
  by_cases hs : s = nul
  · subst hs
    rw [sbT_opn, vof_op] at h
    obtain ⟨y, hy, hf⟩ := List.mem_flatMap.1 h
    obtain ⟨x, hx, rfl⟩ := List.mem_map.1 hy
    obtain ⟨g, hg, h2⟩ := ih x hx hf
    exact ⟨g, by rw [vof_op]; exact List.mem_flatMap.2 ⟨x, hx, hg⟩, h2⟩
  · rw [sbT_var σ hs] at h
    exact ⟨_, vof_self hs L, h⟩
theorem vof_sbT_of {σ : Su} {f g : Vd} : ∀ t : Tm, g ∈ vof t → NoP t → f ∈ vof (σ g.1 g.2) → f ∈ vof (sbT σ t) := by
  refine Tm.ind (fun n s L ih hg hp h => ?_)
  by_cases hs : s = nul
  · subst hs
    rw [vof_op] at hg
    obtain ⟨x, hx, hg⟩ := List.mem_flatMap.1 hg
    rw [sbT_opn, vof_op]
    exact List.mem_flatMap.2 ⟨_, List.mem_map_of_mem hx, ih x hx hg (hp.kid hx) h⟩
  · have hk : L = [] := hp _ (mem_sbts_self _) hs
    subst hk
    rw [vof_vr hs, List.mem_singleton] at hg
    subst hg
    rw [sbT_var σ hs]
    exact h
theorem nop_sbT {σ : Su} : ∀ t : Tm, (∀ f ∈ vof t, NoP (σ f.1 f.2)) → NoP (sbT σ t) := by
  refine Tm.ind (fun n s L ih h => ?_)
  by_cases hs : s = nul
  · subst hs
    rw [sbT_opn]
    intro x hx hne
    rw [sbts_eq, List.mem_cons] at hx
    rcases hx with e | hx
    · subst e
      exact absurd rfl hne
    · obtain ⟨y, hy, hx⟩ := List.mem_flatMap.1 hx
      obtain ⟨z, hz, rfl⟩ := List.mem_map.1 hy
      exact ih z hz (fun f hf => h f (by rw [vof_op]; exact List.mem_flatMap.2 ⟨z, hz, hf⟩)) x hx hne
  · rw [sbT_var σ hs]
    exact h _ (vof_self hs L)
theorem nop_vr (n s : By) : NoP (vr n s) := by
  intro x hx _
  rw [sbts_eq, List.mem_cons] at hx
  rcases hx with e | hx
  · subst e; rfl
  · cases hx
/-- a most general unifier over some variables that leads each to the least -/
structure Mg (X : List Vd) (P : Su → Prop) (θ : Su) : Prop where
  uni : P θ
  gen : ∀ σ : Su, P σ → ∀ f ∈ X, sbT σ (θ f.1 f.2) = σ f.1 f.2
  inX : ∀ f ∈ X, ∀ g ∈ vof (θ f.1 f.2), g ∈ X
  nop : ∀ f ∈ X, NoP (θ f.1 f.2)
  least : ∀ f ∈ X, ∀ g : Vd, g.2 ≠ nul → θ f.1 f.2 = vr g.1 g.2 → blt f.1 g.1 = false
theorem Mg.uniq {X : List Vd} {P : Su → Prop} {θ φ : Su} (hX : Cons X) (h : Mg X P θ) (k : Mg X P φ) : ∀ f ∈ X, θ f.1 f.2 = φ f.1 f.2 := by
  intro f hf
  have e1 := h.gen φ k.uni f hf
  have e2 := k.gen θ h.uni f hf
  have hn := h.nop f hf
  have e3 : sbT (fun n s => sbT θ (φ n s)) (θ f.1 f.2) = θ f.1 f.2 := by rw [← sbT_comp, e1, e2]
  have e4 := sbT_fix _ hn e3
  rw [← e1]
  symm
  refine sbT_id _ hn (fun g hg => ?_)
  have hgX := h.inX f hf g hg
  have hne := vof_ne hg
  have e5 := e4 g hg
  have hkn := k.nop g hgX
  cases hφ : φ g.1 g.2 with
  | mk m r L =>
    rw [hφ] at e5 hkn
    by_cases hr : r = nul
    · subst hr
      rw [sbT_opn] at e5
      injection e5 with _ e6 _
      exact absurd e6.symm hne
    · have hL : L = [] := hkn _ (mem_sbts_self _) hr
      subst hL
      rw [sbT_var _ hr] at e5
      have hmX : (m, r) ∈ X := k.inX g hgX _ (by rw [hφ]; exact vof_self hr [])
      have l1 := k.least g hgX (m, r) hr hφ
      have l2 := h.least (m, r) hmX g hne e5
      have hm : m = g.1 := by
        by_cases e : m = g.1
        · exact e
        · rcases blt_tri m g.1 e with h3 | h3
          · rw [h3] at l2; cases l2
          · rw [h3] at l1; cases l1
      have hr2 : r = g.2 := hX _ hmX _ hgX hm
      rw [hm, hr2]
/-- a binding: a name, a sort, a term -/
abbrev Bd := By × By × Tm
def bget (s : List Bd) (n : By) : Option Tm := (s.find? fun b => decide (b.1 = n)).map (·.2.2)
theorem bget_cons (b : Bd) (s : List Bd) (n : By) : bget (b :: s) n = if b.1 = n then some b.2.2 else bget s n := by
  unfold bget
  rw [List.find?_cons]
  by_cases h : b.1 = n
  · rw [if_pos h, decide_eq_true h]; rfl
  · rw [if_neg h, decide_eq_false h]
theorem bget_snoc (s : List Bd) (b : Bd) (n : By) : bget (s ++ [b]) n = (bget s n).or (if b.1 = n then some b.2.2 else none) := by
  induction s with
  | nil => rw [List.nil_append, bget_cons]; unfold bget; simp
  | cons a s ih =>
    rw [List.cons_append, bget_cons, bget_cons, ih]
    by_cases h : a.1 = n
    · rw [if_pos h, if_pos h]; rfl
    · rw [if_neg h, if_neg h]
theorem bget_some {s : List Bd} {n : By} {t : Tm} (h : bget s n = some t) : ∃ b ∈ s, b.1 = n ∧ b.2.2 = t := by
  induction s with
  | nil => cases h
  | cons a s ih =>
    rw [bget_cons] at h
    by_cases h1 : a.1 = n
    · rw [if_pos h1] at h
      injection h with h
      exact ⟨a, List.mem_cons_self .., h1, h⟩
    · rw [if_neg h1] at h
      obtain ⟨b, hb, h2⟩ := ih h
      exact ⟨b, List.mem_cons_of_mem _ hb, h2⟩
theorem bget_none {s : List Bd} {n : By} (h : bget s n = none) : ∀ b ∈ s, b.1 ≠ n := by
  induction s with
  | nil => intro b hb; cases hb
  | cons a s ih =>
    rw [bget_cons] at h
    by_cases h1 : a.1 = n
    · rw [if_pos h1] at h; cases h
    · rw [if_neg h1] at h
      intro b hb
      rcases List.mem_cons.1 hb with e | hb
      · rw [e]; exact h1
      · exact ih h b hb
end Go.Hw

/- Lists of bindings that solve: pure. -/
namespace Go.Hw
open Tm
set_option linter.unusedVariables false
set_option linter.unusedSimpArgs false
def one (x : By) (u : Tm) : Su := fun n s => if n = x then u else vr n s
def stp (σ : Su) (b : Bd) : Su := fun n s => sbT (one b.1 (sbT σ b.2.2)) (σ n s)
/-- all bindings put in -/
def sth (s : List Bd) : Su := s.foldl stp vr
theorem sth_snoc (s : List Bd) (b : Bd) : sth (s ++ [b]) = stp (sth s) b := by
  unfold sth
  rw [List.foldl_append]
  rfl
/-- what the reference's solving keeps -/
inductive Bi (X : List Vd) : List Bd → Prop where
  | nil : Bi X []
  | snoc {s : List Bd} {x so : By} {T : Tm} : Bi X s → (x, so) ∈ X → bget s x = none → NoP T → (∀ f ∈ vof T, f ∈ X) → (T.sort ≠ nul → bget s T.name = none ∧ blt T.name x = true) → (x, so) ∉ vof (sbT (sth s) T) → Bi X (s ++ [(x, so, T)])
def Sol (s : List Bd) (σ : Su) : Prop := ∀ b ∈ s, σ b.1 b.2.1 = sbT σ b.2.2
theorem sol_snoc {s : List Bd} {b : Bd} {σ : Su} : Sol (s ++ [b]) σ ↔ Sol s σ ∧ σ b.1 b.2.1 = sbT σ b.2.2 := by
  constructor
  · intro h
    exact ⟨fun c hc => h c (List.mem_append_left _ hc), h b (List.mem_append_right _ (List.mem_singleton.2 rfl))⟩
  · rintro ⟨h1, h2⟩ c hc
    rcases List.mem_append.1 hc with hc | hc
    · exact h1 c hc
    · rw [List.mem_singleton] at hc
      subst hc
      exact h2
structure Th (X : List Vd) (s : List Bd) : Prop where
  free : ∀ f ∈ X, ∀ g ∈ vof (sth s f.1 f.2), g ∈ X ∧ bget s g.1 = none
  unb : ∀ f ∈ X, bget s f.1 = none → sth s f.1 f.2 = vr f.1 f.2
  nop : ∀ f ∈ X, NoP (sth s f.1 f.2)
  sol : ∀ f ∈ X, ∀ T, bget s f.1 = some T → sth s f.1 f.2 = sbT (sth s) T
  gen : ∀ σ, Sol s σ → ∀ f ∈ X, sbT σ (sth s f.1 f.2) = σ f.1 f.2
  least : ∀ f ∈ X, ∀ g : Vd, g.2 ≠ nul → sth s f.1 f.2 = vr g.1 g.2 → blt f.1 g.1 = false
  mem : ∀ b ∈ s, (b.1, b.2.1) ∈ X ∧ NoP b.2.2 ∧ (∀ f ∈ vof b.2.2, f ∈ X) ∧ bget s b.1 = some b.2.2
  nd : s.Pairwise fun a b => a.1 ≠ b.1
  ord : ∀ i b, s[i]? = some b → b.2.2.sort ≠ nul → bget (s.take (i + 1)) b.2.2.name = none
theorem Bi.th {X : List Vd} (hX : Cons X) (hn : ∀ f ∈ X, f.2 ≠ nul) {s : List Bd} (h : Bi X s) : Th X s := by
  induction h with
  | nil =>
    refine ⟨fun f hf g hg => ?_, fun f _ _ => rfl, fun f _ => nop_vr _ _, fun f _ T h => (by cases h), fun σ _ f hf => sbT_var σ (hn f hf) [], fun f hf g hg e => ?_, fun b hb => (by cases hb), List.Pairwise.nil, fun i b h => (by simp at h)⟩
    · rw [show sth [] f.1 f.2 = vr f.1 f.2 from rfl, vof_vr (hn f hf), List.mem_singleton] at hg
      rw [hg]
      exact ⟨hf, rfl⟩
    · rw [show sth [] f.1 f.2 = vr f.1 f.2 from rfl] at e
      injection e with e1
      rw [e1, blt_irrefl]
  | @snoc s x so T hb hx hbx hnT hvT hord hocc ih =>
    have hso : so ≠ nul := hn _ hx
    obtain ⟨U, hU⟩ : ∃ U, sbT (sth s) T = U := ⟨_, rfl⟩
    have hstep : ∀ n m, sth (s ++ [(x, so, T)]) n m = sbT (one x U) (sth s n m) := fun n m => by
      rw [sth_snoc]
      show sbT (one x (sbT (sth s) T)) (sth s n m) = _
      rw [hU]
    rw [hU] at hocc
    have hUv : ∀ g ∈ vof U, g ∈ X ∧ bget s g.1 = none ∧ g.1 ≠ x := fun g hg => by
      obtain ⟨k, hk, hgk⟩ := mem_vof_sbT T (by rw [hU]; exact hg)
      obtain ⟨h1, h2⟩ := ih.free k (hvT k hk) g hgk
      refine ⟨h1, h2, fun e => hocc ?_⟩
      have : g = (x, so) := Prod.ext e (hX g h1 _ hx e)
      rw [← this]
      exact hg
    have hUn : NoP U := by rw [← hU]; exact nop_sbT T (fun f hf => ih.nop f (hvT f hf))
    have hUU : sbT (one x U) U = U := sbT_id U hUn (fun f hf => by
      show (if f.1 = x then U else vr f.1 f.2) = _
      rw [if_neg (hUv f hf).2.2])
    have hTT : sbT (sth (s ++ [(x, so, T)])) T = U := by
      rw [show sth (s ++ [(x, so, T)]) = fun n m => sbT (one x U) (sth s n m) from funext fun n => funext fun m => hstep n m, ← sbT_comp, hU, hUU]
    refine ⟨fun f hf g hg => ?_, fun f hf hu => ?_, fun f hf => ?_, fun f hf T' hT' => ?_, fun σ hσ f hf => ?_, fun f hf g hg e => ?_, fun b hb => ?_, ?_, fun i b hi hs => ?_⟩
    · rw [hstep] at hg
      obtain ⟨k, hk, hgk⟩ := mem_vof_sbT _ hg
      obtain ⟨k1, k2⟩ := ih.free f hf k hk
      rw [bget_snoc]
      by_cases e : k.1 = x
      · rw [show one x U k.1 k.2 = U from if_pos e] at hgk
        obtain ⟨h1, h2, h3⟩ := hUv g hgk
        refine ⟨h1, ?_⟩
        rw [h2, if_neg (fun e => h3 e.symm)]
        rfl
      · rw [show one x U k.1 k.2 = vr k.1 k.2 from if_neg e, vof_vr (hn k k1), List.mem_singleton] at hgk
        rw [hgk]
        refine ⟨k1, ?_⟩
        rw [k2, if_neg (fun h => e h.symm)]
        rfl
    · rw [bget_snoc] at hu
      have h1 : bget s f.1 = none := by
        cases h : bget s f.1 with
        | none => rfl
        | some t => rw [h] at hu; cases hu
      have h2 : ¬ x = f.1 := fun e => by rw [h1, if_pos e] at hu; cases hu
      rw [hstep, ih.unb f hf h1, sbT_var _ (hn f hf)]
      exact if_neg (fun e => h2 e.symm)
    · rw [hstep]
      refine nop_sbT _ (fun g hg => ?_)
      show NoP (if g.1 = x then U else vr g.1 g.2)
      split
      · exact hUn
      · exact nop_vr _ _
    · rw [bget_snoc] at hT'
      cases h : bget s f.1 with
      | some t =>
        rw [h] at hT'
        injection hT' with e
        subst e
        rw [hstep, ih.sol f hf t h, show sth (s ++ [(x, so, T)]) = fun n m => sbT (one x U) (sth s n m) from funext fun n => funext fun m => hstep n m, ← sbT_comp]
      | none =>
        rw [h] at hT'
        by_cases e : x = f.1
        · rw [if_pos e] at hT'
          injection hT' with e2
          subst e2
          rw [hTT, hstep, ih.unb f hf h, sbT_var _ (hn f hf)]
          exact if_pos e.symm
        · rw [if_neg e] at hT'; cases hT'
    · obtain ⟨h1, h2⟩ := sol_snoc.1 hσ
      have hg := ih.gen σ h1
      have hσU : sbT σ U = σ x so := by
        rw [← hU, sbT_comp]
        rw [show sbT (fun n s_1 => sbT σ (sth s n s_1)) T = sbT σ T from sbT_congr T (fun k hk => hg k (hvT k hk))]
        exact h2.symm
      rw [hstep, sbT_comp]
      rw [show sbT (fun n s_1 => sbT σ (one x U n s_1)) (sth s f.1 f.2) = sbT σ (sth s f.1 f.2) from sbT_congr _ (fun k hk => ?_)]
      · exact hg f hf
      · have hkX := (ih.free f hf k hk).1
        show sbT σ (if k.1 = x then U else vr k.1 k.2) = _
        by_cases e : k.1 = x
        · rw [if_pos e, hσU]
          have : so = k.2 := hX _ hx _ hkX e.symm
          rw [this, e]
        · rw [if_neg e, sbT_var _ (hn k hkX)]
    · rw [hstep] at e
      cases hF : sth s f.1 f.2 with
      | mk m r L =>
        rw [hF] at e
        by_cases hr : r = nul
        · subst hr
          rw [sbT_opn] at e
          injection e with _ e2 _
          exact absurd e2.symm hg
        · have hL : L = [] := by
            have := ih.nop f hf
            rw [hF] at this
            exact this _ (mem_sbts_self _) hr
          subst hL
          rw [sbT_var _ hr] at e
          have l1 := ih.least f hf (m, r) hr hF
          by_cases em : m = x
          · rw [show one x U m r = U from if_pos em] at e
            cases hT : T with
            | mk tn ts tL =>
              by_cases hts : ts = nul
              · subst hts
                rw [hT, sbT_opn] at hU
                rw [← hU] at e
                injection e with _ e2 _
                exact absurd e2.symm hg
              · rw [hT] at hord hU hvT
                obtain ⟨o1, o2⟩ := hord hts
                rw [sbT_var _ hts, ih.unb (tn, ts) (hvT _ (vof_self hts tL)) o1] at hU
                rw [← hU] at e
                injection e with e1 _ _
                rw [← e1]
                cases hb3 : blt f.1 tn with
                | false => rfl
                | true =>
                  have := blt_trans hb3 o2
                  rw [← em, l1] at this
                  cases this
          · rw [show one x U m r = vr m r from if_neg em] at e
            injection e with e1 _ _
            rw [← e1]
            exact l1
    · rw [bget_snoc]
      rcases List.mem_append.1 hb with hb | hb
      · obtain ⟨h1, h2, h3, h4⟩ := ih.mem b hb
        exact ⟨h1, h2, h3, by rw [h4]; rfl⟩
      · rw [List.mem_singleton] at hb
        subst hb
        exact ⟨hx, hnT, hvT, by rw [hbx]; show (if x = x then some T else none) = _; rw [if_pos rfl]⟩
    · rw [List.pairwise_append]
      refine ⟨ih.nd, List.pairwise_singleton _ _, fun a ha b hb => ?_⟩
      rw [List.mem_singleton] at hb
      rw [hb]
      exact bget_none hbx a ha
    · rcases Nat.lt_or_ge i s.length with hlt | hge
      · rw [List.getElem?_append_left hlt] at hi
        rw [List.take_append_of_le_length (by omega)]
        exact ih.ord i b hi hs
      · have hi0 : i = s.length := by
          have := (List.getElem?_eq_some_iff.1 hi).1
          simp only [List.length_append, List.length_cons, List.length_nil] at this
          omega
        subst hi0
        rw [List.getElem?_append_right (Nat.le_refl _), Nat.sub_self] at hi
        injection hi with hi
        subst hi
        rw [List.take_of_length_le (by simp), bget_snoc]
        obtain ⟨o1, o2⟩ := hord hs
        rw [o1, if_neg (fun e => by rw [show (x, so, T).1 = x from rfl] at e; rw [show (x, so, T).2.2 = T from rfl] at e; rw [← e, blt_irrefl] at o2; cases o2)]
        rfl
/-- the reference's walk -/
def wk : List Bd → Tm → Tm
  | [], t => t
  | b :: s, t => if t.sort ≠ nul ∧ t.name = b.1 then wk s b.2.2 else wk s t
theorem wk_app (s r : List Bd) : ∀ t, wk (s ++ r) t = wk r (wk s t) := by
  induction s with
  | nil => intro t; rfl
  | cons b s ih =>
    intro t
    simp only [List.cons_append, wk]
    split
    · exact ih _
    · exact ih _
theorem Bi.wk {X : List Vd} (hX : Cons X) (hn : ∀ f ∈ X, f.2 ≠ nul) {s : List Bd} (h : Bi X s) {t : Tm} (ht : NoP t) (hv : ∀ f ∈ vof t, f ∈ X) :
    (((wk s t).sort = nul ∨ bget s (wk s t).name = none) ∧ NoP (wk s t) ∧ (∀ f ∈ vof (wk s t), f ∈ X) ∧ (∀ σ, Sol s σ → sbT σ (wk s t) = sbT σ t)) := by
  induction h with
  | nil => exact ⟨.inr rfl, ht, hv, fun _ _ => rfl⟩
  | @snoc s x so T hb hx hbx hnT hvT hord hocc ih =>
    obtain ⟨i1, i2, i3, i4⟩ := ih
    rw [wk_app]
    simp only [Go.Hw.wk]
    by_cases hc : (Go.Hw.wk s t).sort ≠ nul ∧ (Go.Hw.wk s t).name = x
    · rw [if_pos hc]
      refine ⟨?_, hnT, hvT, fun σ hσ => ?_⟩
      · by_cases hT : T.sort = nul
        · exact .inl hT
        · obtain ⟨o1, o2⟩ := hord hT
          refine .inr ?_
          rw [bget_snoc, o1, if_neg (fun e => by rw [show (x, so, T).1 = x from rfl] at e; rw [← e, blt_irrefl] at o2; cases o2)]
          rfl
      · obtain ⟨h1, h2⟩ := sol_snoc.1 hσ
        rw [← i4 σ h1]
        generalize Go.Hw.wk s t = W at hc i3 i4
        obtain ⟨m, r, L⟩ := W
        simp only [Tm.sort, Tm.name] at hc
        obtain ⟨c1, c2⟩ := hc
        rw [sbT_var σ c1]
        have : r = so := hX _ (i3 _ (vof_self c1 L)) _ hx c2
        rw [this, c2]
        exact h2.symm
    · rw [if_neg hc]
      refine ⟨?_, i2, i3, fun σ hσ => i4 σ (sol_snoc.1 hσ).1⟩
      rcases i1 with i1 | i1
      · exact .inl i1
      · by_cases e : (Go.Hw.wk s t).sort = nul
        · exact .inl e
        · refine .inr ?_
          rw [bget_snoc, i1, if_neg (fun h => hc ⟨e, h.symm⟩)]
          rfl
end Go.Hw

/- What a term reaches through bindings: pure. -/
namespace Go.Hw
open Tm
set_option linter.unusedVariables false
set_option linter.unusedSimpArgs false
/-- the names that a term reaches on ways that avoid some -/
inductive Rch (s : List Bd) (A : By → Prop) : Tm → By → Prop where
  | here {n so : By} {L : List Tm} : so ≠ nul → ¬ A n → Rch s A (.mk n so L) n
  | step {n so m : By} {L : List Tm} {T : Tm} : so ≠ nul → ¬ A n → bget s n = some T → Rch s A T m → Rch s A (.mk n so L) m
  | kid {n m : By} {L : List Tm} {x : Tm} : x ∈ L → Rch s A x m → Rch s A (.mk n nul L) m
theorem Rch.mono {s : List Bd} {A B : By → Prop} (h : ∀ n, B n → A n) {t : Tm} {m : By} (hr : Rch s A t m) : Rch s B t m := by
  induction hr with
  | here h1 h2 => exact .here h1 (fun e => h2 (h _ e))
  | step h1 h2 h3 _ ih => exact .step h1 (fun e => h2 (h _ e)) h3 ih
  | kid h1 _ ih => exact .kid h1 ih
theorem Rch.cut {s : List Bd} {A : By → Prop} {n : By} {T : Tm} (hb : bget s n = some T) {t : Tm} {m : By} (hr : Rch s A t m) : Rch s (fun k => A k ∨ k = n) t m ∨ m = n ∨ Rch s (fun k => A k ∨ k = n) T m := by
  induction hr with
  | @here n' so L h1 h2 =>
    by_cases e : n' = n
    · exact .inr (.inl e)
    · exact .inl (.here h1 (fun h => h.elim h2 e))
  | @step n' so m L T' h1 h2 h3 h4 ih =>
    by_cases e : n' = n
    · subst e
      rw [hb] at h3
      injection h3 with h3
      subst h3
      rcases ih with ih | ih | ih
      · exact .inr (.inr ih)
      · exact .inr (.inl ih)
      · exact .inr (.inr ih)
    · rcases ih with ih | ih | ih
      · exact .inl (.step h1 (fun h => h.elim h2 e) h3 ih)
      · exact .inr (.inl ih)
      · exact .inr (.inr ih)
  | kid h1 _ ih =>
    rcases ih with ih | ih | ih
    · exact .inl (.kid h1 ih)
    · exact .inr (.inl ih)
    · exact .inr (.inr ih)
theorem Rch.cut0 {s : List Bd} {A : By → Prop} {n : By} (hb : bget s n = none) {t : Tm} {m : By} (hr : Rch s A t m) : Rch s (fun k => A k ∨ k = n) t m ∨ m = n := by
  induction hr with
  | @here n' so L h1 h2 =>
    by_cases e : n' = n
    · exact .inr e
    · exact .inl (.here h1 (fun h => h.elim h2 e))
  | @step n' so m L T' h1 h2 h3 h4 ih =>
    by_cases e : n' = n
    · subst e
      rw [hb] at h3
      cases h3
    · rcases ih with ih | ih
      · exact .inl (.step h1 (fun h => h.elim h2 e) h3 ih)
      · exact .inr ih
  | kid h1 _ ih =>
    rcases ih with ih | ih
    · exact .inl (.kid h1 ih)
    · exact .inr ih
theorem Rch.trans {s : List Bd} {A : By → Prop} {t T : Tm} {n m : By} (hr : Rch s A t n) (hb : bget s n = some T) (h2 : Rch s A T m) : Rch s A t m := by
  induction hr with
  | here h3 h4 => exact .step h3 h4 hb h2
  | step h3 h4 h5 _ ih => exact .step h3 h4 h5 (ih hb)
  | kid h3 _ ih => exact .kid h3 (ih hb)
theorem Rch.not {s : List Bd} {A : By → Prop} {t : Tm} {n : By} (hr : Rch s A t n) : ¬ A n := by
  induction hr with
  | here _ h => exact h
  | step _ _ _ _ ih => exact ih
  | kid _ _ ih => exact ih
theorem Rch.wide {s : List Bd} {A B : By → Prop} (hcl : ∀ p T, B p → ¬ A p → bget s p = some T → ∀ m, Rch s A T m → B m) {t : Tm} {m : By} (hr : Rch s A t m) : B m ∨ Rch s B t m := by
  induction hr with
  | @here n so L h1 h2 =>
    by_cases e : B n
    · exact .inl e
    · exact .inr (.here h1 e)
  | @step n so m L T h1 h2 h3 h4 ih =>
    by_cases e : B n
    · exact .inl (hcl n T e h2 h3 m h4)
    · rcases ih with ih | ih
      · exact .inl ih
      · exact .inr (.step h1 e h3 ih)
  | kid h1 _ ih =>
    rcases ih with ih | ih
    · exact .inl ih
    · exact .inr (.kid h1 ih)
/-- what reach answers for a term and a list -/
def ReachP (s : List Bd) (t : Tm) (l l' : List By) : Prop := ∀ m, m ∈ l' ↔ m ∈ l ∨ Rch s (fun k => k ∈ l) t m
theorem reach_in {s : List Bd} {n so : By} {L : List Tm} {l : List By} (hs : so ≠ nul) (h : n ∈ l) : ReachP s (.mk n so L) l l := fun m => by
  constructor
  · exact .inl
  · rintro (h1 | h1)
    · exact h1
    · cases h1 with
      | here _ h2 => exact absurd h h2
      | step _ h2 _ _ => exact absurd h h2
      | kid _ _ => exact absurd rfl hs
theorem reach_un {s : List Bd} {n so : By} {L : List Tm} {l : List By} (hs : so ≠ nul) (h : n ∉ l) (hb : bget s n = none) : ReachP s (.mk n so L) l (l ++ [n]) := fun m => by
  rw [List.mem_append, List.mem_singleton]
  constructor
  · rintro (h1 | h1)
    · exact .inl h1
    · rw [h1]; exact .inr (.here hs h)
  · rintro (h1 | h1)
    · exact .inl h1
    · cases h1 with
      | here _ _ => exact .inr rfl
      | step _ _ h2 _ => rw [hb] at h2; cases h2
      | kid _ _ => exact absurd rfl hs
theorem reach_bd {s : List Bd} {n so : By} {L : List Tm} {T : Tm} {l l' : List By} (hs : so ≠ nul) (h : n ∉ l) (hb : bget s n = some T) (hr : ReachP s T (l ++ [n]) l') : ReachP s (.mk n so L) l l' := fun m => by
  have hA : ∀ k, (k ∈ l ++ [n]) ↔ (k ∈ l ∨ k = n) := fun k => by rw [List.mem_append, List.mem_singleton]
  rw [hr m, hA]
  constructor
  · rintro ((h1 | h1) | h1)
    · exact .inl h1
    · rw [h1]; exact .inr (.here hs h)
    · exact .inr (.step hs h hb (h1.mono (fun k hk => (hA k).2 (.inl hk))))
  · rintro (h1 | h1)
    · exact .inl (.inl h1)
    · cases h1 with
      | here _ _ => exact .inl (.inr rfl)
      | step _ _ h2 h3 =>
        rw [hb] at h2
        injection h2 with h2
        subst h2
        rcases h3.cut hb with h4 | h4 | h4
        · exact .inr (h4.mono (fun k hk => (hA k).1 hk))
        · exact .inl (.inr h4)
        · exact .inr (h4.mono (fun k hk => (hA k).1 hk))
      | kid _ _ => exact absurd rfl hs
/-- the list behind some parts -/
def ReachL (s : List Bd) (L : List Tm) (l l' : List By) : Prop := ∀ m, m ∈ l' ↔ m ∈ l ∨ ∃ x ∈ L, Rch s (fun k => k ∈ l) x m
theorem reachL_nil (s : List Bd) (l : List By) : ReachL s [] l l := fun m => by
  constructor
  · exact .inl
  · rintro (h | ⟨x, hx, _⟩)
    · exact h
    · cases hx
theorem reachL_snoc {s : List Bd} {L : List Tm} {x : Tm} {l l1 l2 : List By} (h1 : ReachL s L l l1) (h2 : ReachP s x l1 l2) : ReachL s (L ++ [x]) l l2 := fun m => by
  rw [h2 m, h1 m]
  constructor
  · rintro ((h | ⟨y, hy, h⟩) | h)
    · exact .inl h
    · exact .inr ⟨y, List.mem_append_left _ hy, h⟩
    · exact .inr ⟨x, List.mem_append_right _ (List.mem_singleton.2 rfl), h.mono (fun k hk => (h1 k).2 (.inl hk))⟩
  · rintro (h | ⟨y, hy, h⟩)
    · exact .inl (.inl h)
    · rcases List.mem_append.1 hy with hy | hy
      · exact .inl (.inr ⟨y, hy, h⟩)
      · rw [List.mem_singleton] at hy
        subst hy
        rcases h.wide (B := fun k => k ∈ l1) (fun p T hp hA hb m hm => by
          rcases (h1 p).1 hp with h3 | ⟨z, hz, h3⟩
          · exact absurd h3 hA
          · exact (h1 m).2 (.inr ⟨z, hz, h3.trans hb hm⟩)) with h4 | h4
        · exact .inl ((h1 m).1 h4)
        · exact .inr h4
theorem reach_op {s : List Bd} {n : By} {L : List Tm} {l l' : List By} (h : ReachL s L l l') : ReachP s (.mk n nul L) l l' := fun m => by
  rw [h m]
  constructor
  · rintro (h | ⟨x, hx, h⟩)
    · exact .inl h
    · exact .inr (.kid hx h)
  · rintro (h | h)
    · exact .inl h
    · cases h with
      | here h1 _ => exact absurd rfl h1
      | step h1 _ _ _ => exact absurd rfl h1
      | kid h1 h2 => exact .inr ⟨_, h1, h2⟩
theorem Rch.more {s : List Bd} {A : By → Prop} {b : Bd} (hb : bget s b.1 = none) {t : Tm} {m : By} (hr : Rch s A t m) : Rch (s ++ [b]) A t m := by
  induction hr with
  | here h1 h2 => exact .here h1 h2
  | step h1 h2 h3 _ ih => exact .step h1 h2 (by rw [bget_snoc, h3]; rfl) ih
  | kid h1 _ ih => exact .kid h1 ih
theorem Rch.of_vof {s : List Bd} {A : By → Prop} {g : Vd} {m : By} (hr : Rch s A (vr g.1 g.2) m) : ∀ t : Tm, NoP t → g ∈ vof t → Rch s A t m := by
  refine Tm.ind (fun n so L ih hp hg => ?_)
  by_cases hs : so = nul
  · subst hs
    rw [vof_op] at hg
    obtain ⟨x, hx, hg⟩ := List.mem_flatMap.1 hg
    exact .kid hx (ih x hx (hp.kid hx) hg)
  · have hk : L = [] := hp _ (mem_sbts_self _) hs
    subst hk
    rw [vof_vr hs, List.mem_singleton] at hg
    subst hg
    exact hr
abbrev nofs : By → Prop := fun _ => False
theorem Bi.reach {X : List Vd} (hX : Cons X) (hn : ∀ f ∈ X, f.2 ≠ nul) {s : List Bd} (h : Bi X s) : ∀ f ∈ X, ∀ g ∈ vof (sth s f.1 f.2), Rch s nofs (vr f.1 f.2) g.1 := by
  induction h with
  | nil =>
    intro f hf g hg
    rw [show sth [] f.1 f.2 = vr f.1 f.2 from rfl, vof_vr (hn f hf), List.mem_singleton] at hg
    rw [hg]
    exact .here (hn f hf) (fun h => h)
  | @snoc s x so T hb hx hbx hnT hvT hord hocc ih =>
    have th := hb.th hX hn
    intro f hf g hg
    rw [sth_snoc] at hg
    obtain ⟨k, hk, hgk⟩ := mem_vof_sbT _ hg
    have hkX := (th.free f hf k hk).1
    have h1 := (ih f hf k hk).more (b := (x, so, T)) hbx
    by_cases e : k.1 = x
    · rw [show one (x, so, T).1 (sbT (sth s) (x, so, T).2.2) k.1 k.2 = sbT (sth s) T from if_pos e] at hgk
      obtain ⟨j, hj, hgj⟩ := mem_vof_sbT T hgk
      have h2 := (ih j (hvT j hj) g hgj).more (b := (x, so, T)) hbx
      have h3 := Rch.of_vof h2 T hnT hj
      refine h1.trans (T := T) ?_ h3
      rw [bget_snoc, e, hbx, if_pos rfl]
      rfl
    · rw [show one (x, so, T).1 (sbT (sth s) (x, so, T).2.2) k.1 k.2 = vr k.1 k.2 from if_neg e, vof_vr (hn k hkX), List.mem_singleton] at hgk
      rw [hgk]
      exact h1
theorem Bi.reach_iff {X : List Vd} (hX : Cons X) (hn : ∀ f ∈ X, f.2 ≠ nul) {s : List Bd} (h : Bi X s) {x : Vd} (hx : x ∈ X) (hu : bget s x.1 = none) {t : Tm} (hp : NoP t) (hv : ∀ f ∈ vof t, f ∈ X) : Rch s nofs t x.1 ↔ x ∈ vof (sbT (sth s) t) := by
  have th := h.th hX hn
  constructor
  · intro hr
    have : ∀ (t : Tm) (m : By), Rch s nofs t m → m = x.1 → NoP t → (∀ f ∈ vof t, f ∈ X) → x ∈ vof (sbT (sth s) t) := by
      intro t m hr
      induction hr with
      | @here n so L h1 h2 =>
        intro e hp hv
        subst e
        have hnX := hv _ (vof_self h1 L)
        have e2 : so = x.2 := hX _ hnX _ hx rfl
        rw [sbT_var _ h1, e2, th.unb x hx hu, vof_vr (hn x hx)]
        exact List.mem_singleton.2 rfl
      | @step n so m L T h1 h2 h3 h4 ih =>
        intro e hp hv
        have hnX := hv _ (vof_self h1 L)
        obtain ⟨b, hb, b1, b2⟩ := bget_some h3
        obtain ⟨_, m2, m3, _⟩ := th.mem b hb
        rw [b2] at m2 m3
        rw [sbT_var _ h1, th.sol (n, so) hnX T h3]
        exact ih e m2 m3
      | @kid n m L x' h1 h2 ih =>
        intro e hp hv
        rw [sbT_opn, vof_op]
        exact List.mem_flatMap.2 ⟨_, List.mem_map_of_mem h1, ih e (hp.kid h1) (fun f hf => hv f (by rw [vof_op]; exact List.mem_flatMap.2 ⟨x', h1, hf⟩))⟩
    exact this t x.1 hr rfl hp hv
  · intro hm
    obtain ⟨g, hg, hxg⟩ := mem_vof_sbT t hm
    exact Rch.of_vof (h.reach hX hn g (hv g hg) x hxg) t hp hg
/-- the reference's answer is most general -/
theorem Bi.mg {X : List Vd} (hX : Cons X) (hn : ∀ f ∈ X, f.2 ≠ nul) {s : List Bd} (h : Bi X s) : Mg X (Sol s) (sth s) := by
  have th := h.th hX hn
  refine ⟨fun b hb => ?_, th.gen, fun f hf g hg => (th.free f hf g hg).1, th.nop, th.least⟩
  obtain ⟨h1, _, _, h4⟩ := th.mem b hb
  exact th.sol _ h1 _ h4
/-- how many are not yet bound -/
def unbn (X : List Vd) (s : List Bd) : Nat := (X.filter fun f => (bget s f.1).isNone).length
theorem filter_lt' {α : Type} (p q : α → Bool) (h : ∀ x, q x = true → p x = true) : ∀ {l : List α} {a : α}, a ∈ l → p a = true → q a = false → (l.filter q).length < (l.filter p).length
  | x :: l, a, ha, hp, hq => by
    have hle : ∀ l : List α, (l.filter q).length ≤ (l.filter p).length := by
      intro l
      induction l with
      | nil => simp
      | cons y l ih =>
        simp only [List.filter_cons]
        by_cases hy : q y = true
        · simp [hy, h y hy, ih]
        · by_cases hy' : p y = true <;> simp [hy, hy'] <;> omega
    rcases List.mem_cons.1 ha with e | ha
    · subst e
      have := hle l
      simp [hp, hq]
      omega
    · have ih := filter_lt' p q h ha hp hq
      simp only [List.filter_cons]
      by_cases hy : q x = true
      · simp [hy, h x hy, ih]
      · by_cases hy' : p x = true <;> simp [hy, hy'] <;> omega
theorem unbn_snoc {X : List Vd} {s : List Bd} {x so : By} {T : Tm} (hx : (x, so) ∈ X) (hb : bget s x = none) : unbn X (s ++ [(x, so, T)]) < unbn X s := by
  refine filter_lt' _ _ (fun f hf => ?_) hx (by rw [hb]; rfl) (by rw [bget_snoc, hb, if_pos rfl]; rfl)
  rw [bget_snoc] at hf
  cases h : bget s f.1 with
  | none => rfl
  | some t => rw [h] at hf; cases hf
end Go.Hw
