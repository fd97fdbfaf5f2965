/- The texts TY TZ TYK L6 US MR UT UV UY QT UM UP VX L7 UW, one behind the other. -/
import Derived.Test.YtlkcjmaiahnodaaGreatDoorYAD
import Derived.Test.YtlkcjmaiahnodaaGreatDoorYAC
import Derived.Test.YtlkcjmaiahnodaaGreatDoorYAB
import Derived.LaidEqlPtr
import Derived.StillTail
import Derived.Deep.Quiet
import Derived.Maps.RangeRun
/- Rewriting, pure: matching, filling, the redex of a step. -/
namespace Go.Hw
open Tm
set_option linter.unusedVariables false
set_option linter.unusedSimpArgs false
abbrev Sb := By → Option Tm
def Sb.put (σ : Sb) (n : By) (t : Tm) : Sb := fun m => if m = n then some t else σ m
def Sb.le (σ τ : Sb) : Prop := ∀ n x, σ n = some x → τ n = some x
theorem Sb.le.trans {σ τ ρ : Sb} (h : σ.le τ) (h2 : τ.le ρ) : σ.le ρ := fun n x e => h2 n x (h n x e)
def sb0 : Sb := fun _ => none
end Go.Hw

/- Subterms at paths are well-formed, and known: pure. -/
namespace Go.Hw
open Tm
set_option linter.unusedVariables false
set_option linter.unusedSimpArgs false
end Go.Hw

/- What a rewriting leaves is known: pure. -/
namespace Go.Hw
open Tm
set_option linter.unusedVariables false
set_option linter.unusedSimpArgs false
end Go.Hw

/- Arrays of a call's own: a block whose first cells are known. -/
namespace Go.Hw
open Go.RowKit
set_option linter.unusedVariables false
set_option linter.unusedSimpArgs false

def Arr (w : World) (b : Nat) (T : TypeId) (vs : List Value) : Prop := ∃ cur : Array Value, w.heap[b]? = some (.cells cur T (0, 0)) ∧ ∀ (j : Nat) (v : Value), vs[j]? = some v → cur[j]? = some v
theorem Arr.lt {w : World} {b : Nat} {T : TypeId} {vs : List Value} (h : Arr w b T vs) : b < w.heap.size := by
  obtain ⟨cur, hb, _⟩ := h
  exact (Array.getElem?_eq_some_iff.1 hb).1
theorem Arr.cell {w : World} {b : Nat} {T : TypeId} {vs : List Value} (h : Arr w b T vs) {j : Nat} {v : Value} (hv : vs[j]? = some v) : w.cell? ⟨b, j, none⟩ = some v := by
  obtain ⟨cur, hb, hc⟩ := h
  exact cellRow hb j v (hc j v hv)
theorem Arr.kept {F : Nat → Prop} {w w' : World} {b : Nat} {T : TypeId} {vs : List Value} (h : Arr w b T vs) (hu : Upd F w w') (hF : ¬ F b) : Arr w' b T vs := by
  obtain ⟨cur, hb, hc⟩ := h
  exact ⟨cur, hu.heap hb hF, hc⟩
theorem Arr.set {w : World} {b : Nat} {T : TypeId} {vs : List Value} (h : Arr w b T vs) {j : Nat} (hj : j < vs.length) (u : Value) : Arr (w.setCell ⟨b, j, none⟩ u) b T (vs.set j u) := by
  obtain ⟨cur, hb, hc⟩ := h
  have hsz : j < cur.size := by
    have := hc j vs[j] (by simp [hj])
    exact (Array.getElem?_eq_some_iff.1 this).1
  refine ⟨_, setBlock hb j u, fun i v hi => ?_⟩
  by_cases e : i = j
  · subst e
    rw [List.getElem?_set_self hj] at hi
    rw [← hi]
    simp [hsz]
  · rw [List.getElem?_set_ne (Ne.symm e)] at hi
    have := hc i v hi
    rw [← this]
    simp [Array.getElem?_setIfInBounds, Ne.symm e]
theorem Arr.new (w : World) (T : TypeId) (cs : Array Value) : Arr (w.alloc (.cells cs T)) w.heap.size T cs.toList :=
  ⟨cs, alloc0 w _, fun j v h => by simpa using h⟩
end Go.Hw

/- Unify as it runs, over numbers: nodes and classes by their places in lists. -/
namespace Go.Hw
open Go.RowKit Tm
set_option linter.unusedVariables false
set_option linter.unusedSimpArgs false
structure Nr where
  nm : By
  so : By
  ks : List Nat
structure Cl where
  up : Option Nat
  nm : By
  so : By
  mx : Bool
  tm : Option Nat
  ma : Nat
  sz : Nat
  dp : Nat
structure St where
  vs : List (By × Nat)
  ns : List (Nat × Nat)
  cs : List Cl
def fnd {κ : Type} [DecidableEq κ] (l : List (κ × Nat)) (k : κ) : Option Nat := (l.find? fun e => decide (e.1 = k)).map (·.2)
def rootF (cs : List Cl) : Nat → Nat → Option Nat
  | 0, _ => none
  | f + 1, c => match cs[c]? with
    | none => none
    | some x => match x.up with
      | none => some c
      | some d => rootF cs f d
def varF (F : Nat) (st : St) (nm so : By) : Option (St × Nat) := match fnd st.vs nm with
  | some c => (rootF st.cs F c).map fun r => (st, r)
  | none => (rootF (st.cs ++ [⟨none, nm, so, false, none, 0, 0, 0⟩]) F st.cs.length).map fun r => ({ st with vs := st.vs ++ [(nm, st.cs.length)], cs := st.cs ++ [⟨none, nm, so, false, none, 0, 0, 0⟩] }, r)
def opF (F : Nat) (st : St) (i : Nat) : Option (St × Nat) := match fnd st.ns i with
  | some c => (rootF st.cs F c).map fun r => (st, r)
  | none => (rootF (st.cs ++ [⟨none, nul, nul, false, some i, 0, 0, 0⟩]) F st.cs.length).map fun r => ({ st with ns := st.ns ++ [(i, st.cs.length)], cs := st.cs ++ [⟨none, nul, nul, false, some i, 0, 0, 0⟩] }, r)
def classF (T : List Nr) (F : Nat) (st : St) (i : Nat) : Option (St × Nat) := match T[i]? with
  | none => none
  | some r => if r.so = nul then opF F st i else varF F st r.nm r.so
def joinC (A B : Cl) : Cl :=
  { A with
    mx := A.mx || B.mx || (decide (A.so ≠ nul) && decide (B.so ≠ nul) && decide (A.so ≠ B.so))
    nm := if A.nm = nul ∨ (B.nm ≠ nul ∧ blt B.nm A.nm = true) then B.nm else A.nm
    so := if A.nm = nul ∨ (B.nm ≠ nul ∧ blt B.nm A.nm = true) then B.so else A.so
    tm := match A.tm with | none => B.tm | some x => some x }
def unL (un : St → Nat → Nat → Option (St × Bool)) : St → List Nat → List Nat → Option (St × Bool)
  | st, x :: xs, y :: ys => match un st x y with
    | none => none
    | some (st1, false) => some (st1, false)
    | some (st1, true) => unL un st1 xs ys
  | st, _, _ => some (st, true)
def unF (T : List Nr) : Nat → St → Nat → Nat → Option (St × Bool)
  | 0, _, _, _ => none
  | F + 1, st, s, t => match classF T F st s with
    | none => none
    | some (st1, a) => match classF T F st1 t with
      | none => none
      | some (st2, b) => if a = b then some (st2, true) else
        match st2.cs[a]?, st2.cs[b]? with
        | some A, some B =>
          let st3 : St := { st2 with cs := (st2.cs.set b { B with up := some a }).set a (joinC A B) }
          match A.tm, B.tm with
          | some x, some y => match T[x]?, T[y]? with
            | some X, some Y => if X.nm ≠ Y.nm ∨ X.ks.length ≠ Y.ks.length then some (st3, false) else unL (unF T F) st3 X.ks Y.ks
            | _, _ => none
          | _, _ => some (st3, true)
        | _, _ => none
def setC (st : St) (c : Nat) (x : Cl) : St := { st with cs := st.cs.set c x }
end Go.Hw

/- Maps whose keys are addresses of plain rows. -/
namespace Go.Hw
open Go.RowKit
set_option linter.unusedVariables false
set_option linter.unusedSimpArgs false
abbrev adV (p : Nat × Nat) : Value := .pointer (some ⟨p.1, p.2, none⟩)
def Plain (w : World) (b : Nat) : Prop := ∃ cs t, w.heap[b]? = some (.cells cs t (0, 0))
theorem Plain.ext {w w' : World} {b : Nat} (h : Plain w b) (hu : Ext w w') : Plain w' b := by
  obtain ⟨cs, t, h⟩ := h
  exact ⟨cs, t, hu.heap h (fun h => h)⟩
section
variable {P : Program} {kt et elem : TypeId} {ie : TypeInfo}
theorem ptr_eq (hk : P.underlying kt = some (.pointer elem)) (hi : P.info? elem = some ie) (hs : ie.size ≠ 0) (d : Nat) (a b : Nat × Nat) (w : World) (ha : Plain w a.1) (hb : Plain w b.1) : (Op.equalIn (d + 1) kt (adV a) (adV b)).run P w = .ok (decide (a = b)) w := by
  by_cases hab : a = b
  · subst hab
    rw [decide_eq_true rfl]
    simp [Op.equalIn, run_underlying hk, sizeOf, typeInfo, hi, hs, run_sameAddr_same]
  · obtain ⟨ca, ta, ha⟩ := ha
    obtain ⟨cb, tb, hb⟩ := hb
    have h1 := run_sameAddr_other (P := P) (w := w) (a := ⟨a.1, a.2, none⟩) (b := ⟨b.1, b.2, none⟩) (fun e => hab (by injection e with e1 e2; exact Prod.ext e1 e2)) ha hb
    rw [decide_eq_false hab]
    simp [Op.equalIn, run_underlying hk, sizeOf, typeInfo, hi, hs, h1]
theorem ptr_bin (hk : P.underlying kt = some (.pointer elem)) (hi : P.info? elem = some ie) (hs : ie.size ≠ 0) (a b : Nat × Nat) (w : World) (ha : Plain w a.1) (hb : Plain w b.1) : (binOp .eql kt (adV a) (adV b)).run P w = .ok (.bool (decide (a = b))) w := by
  have h : (Op.equal kt (adV a) (adV b)).run P w = .ok (decide (a = b)) w := ptr_eq hk hi hs 9999 a b w ha hb
  simp only [binOp, Sem.run_bind, h, Result.andThen_ok, Sem.run_pure]
theorem ptr_check (hk : P.underlying kt = some (.pointer elem)) (em : Bool) (a : Nat × Nat) (w : World) : (Instr.checkKey em 10000 kt (adV a)).run P w = .ok () w := by
  show (Instr.checkKey em (9999 + 1) kt (adV a)).run P w = .ok () w
  rw [Instr.checkKey]
  simp only [Sem.run_bind, run_underlying hk, Result.andThen_ok, Sem.run_pure]
theorem ptr_find (hk : P.underlying kt = some (.pointer elem)) (hi : P.info? elem = some ie) (hs : ie.size ≠ 0) (x : Nat × Nat) (w : World) (hx : Plain w x.1) (es : List MapEntry) (l : List ((Nat × Nat) × Value)) (hl : ∀ p ∈ l, Plain w p.1.1) (h : es.map (fun e => (e.key, e.val)) = l.map (fun p => (adV p.1, p.2))) :
    (Instr.findKey kt (adV x) es).run P w = .ok ((l.findIdx? fun p => decide (p.1 = x)).map fun i => (i, ((l[i]?).map (·.2)).getD (.bool false))) w := by
  have hask : ∀ (es : List MapEntry) (l : List ((Nat × Nat) × Value)) (i : Nat), (∀ p ∈ l, Plain w p.1.1) → es.map (fun e => (e.key, e.val)) = l.map (fun p => (adV p.1, p.2)) →
      (Instr.findAsking kt (adV x) es i).run P w = .ok ((l.findIdx? fun p => decide (p.1 = x)).map fun j => (i + j, ((l[j]?).map (·.2)).getD (.bool false))) w := by
    intro es
    induction es with
    | nil =>
      intro l i _ h
      have : l = [] := by cases l; rfl; simp at h
      subst this
      rfl
    | cons e es ih =>
      intro l i hl h
      cases l with
      | nil => simp at h
      | cons p l =>
        simp only [List.map_cons, List.cons.injEq, Prod.mk.injEq] at h
        obtain ⟨⟨h1, h2⟩, h3⟩ := h
        have hq : (Op.equal kt (adV x) (adV p.1)).run P w = .ok (decide (x = p.1)) w := ptr_eq hk hi hs 9999 x p.1 w hx (hl p (List.mem_cons_self ..))
        unfold Instr.findAsking
        rw [h1, List.findIdx?_cons]
        simp only [Sem.run_bind, hq, Result.andThen_ok]
        by_cases he : p.1 = x
        · rw [decide_eq_true he, decide_eq_true he.symm]
          simp [h2]
        · rw [decide_eq_false he, decide_eq_false (fun e => he e.symm)]
          have h4 := ih l (i + 1) (fun q hq => hl q (List.mem_cons_of_mem _ hq)) h3
          simp only [Bool.false_eq_true, if_false, h4]
          cases (l.findIdx? fun p => decide (p.1 = x)) with
          | none => rfl
          | some j => simp; omega
  have h2 := hask es l 0 hl h
  have h3 : (Instr.findKey kt (adV x) es).run P w = (Instr.findAsking kt (adV x) es).run P w := by
    cases es with
    | nil => simp [Instr.findKey, run_underlying hk, Instr.findNow, Instr.findAsking]
    | cons e es => simp [Instr.findKey, run_underlying hk, Instr.findNow, Instr.sameNow]
  rw [h3, h2]
  simp
theorem MpR.getP (hk : P.underlying kt = some (.pointer elem)) (hi : P.info? elem = some ie) (hs : ie.size ≠ 0) {t : TypeId} (ht : P.underlying t = some (.map kt et)) {w : World} {b : Nat} {l : List ((Nat × Nat) × Value)} {z : Value} (hz : (zeroValue et).run P w = .ok z w) (h : MpR adV w b l) (k : Nat × Nat) (hx : Plain w k.1) (hl : ∀ p ∈ l, Plain w p.1.1) (c : Bool) :
    (Instr.lookup t (.map (some b)) (adV k) c).run P w = .ok (if c then .tuple #[(afind l k).getD z, .bool (afind l k).isSome] else (afind l k).getD z) w := by
  obtain ⟨es, cl, h1, h2, _⟩ := h
  have hf := ptr_find hk hi hs k w hx es.toList l hl h2
  have hc := ptr_check hk es.isEmpty k w
  rw [← idx_find]
  generalize hx : (l.findIdx? fun p => decide (p.1 = k)) = x at *
  cases x with
  | none => cases c <;> simp [Instr.lookup, run_underlying ht, MapKept.run_getObj_map h1, hc, hf, hz, Result.andThen]
  | some i => cases c <;> simp [Instr.lookup, run_underlying ht, MapKept.run_getObj_map h1, hc, hf, hz, Result.andThen]
theorem MpR.newP (hk : P.underlying kt = some (.pointer elem)) (hi : P.info? elem = some ie) (hs : ie.size ≠ 0) {t : TypeId} (ht : P.underlying t = some (.map kt et)) {w : World} {b : Nat} {l : List ((Nat × Nat) × Value)} (h : MpR adV w b l) (k : Nat × Nat) (v : Value) (hx : Plain w k.1) (hl : ∀ p ∈ l, Plain w p.1.1) (hn : afind l k = none) :
    ∃ w', (Instr.mapUpdate t (.map (some b)) (adV k) v).run P w = .ok () w' ∧ MpR adV w' b (l ++ [(k, v)]) ∧ Upd (fun j => j = b) w w' := by
  obtain ⟨es, cl, h1, h2, h3, h4⟩ := h
  have hf := ptr_find hk hi hs k w hx es.toList l hl h2
  have hc := ptr_check hk false k w
  have hblt := (Array.getElem?_eq_some_iff.1 h1).1
  have hupd : ∀ o, Upd (fun j => j = b) w { w with heap := w.heap.setIfInBounds b o } := fun o =>
    ⟨rfl, rfl, rfl, by simp, fun i hi hF => by simp [Ne.symm (show i ≠ b from hF)]⟩
  rw [← idx_find] at hn
  generalize hx : (l.findIdx? fun p => decide (p.1 = k)) = x at *
  cases x with
  | none =>
    refine ⟨_, by simp [Instr.mapUpdate, run_underlying ht, MapKept.run_getObj_map h1, hc, hf, MapKept.run_setObj_map _ h1, Result.andThen]; rfl, ⟨es.push { key := adV k, val := v, born := cl }, cl + 1, by simp [hblt], ?_, ?_, ?_⟩, hupd _⟩
    · simp [h2]
    · simp only [Array.toList_push]
      rw [List.pairwise_append]
      refine ⟨h3, by simp, fun x hx y hy => ?_⟩
      rw [List.mem_singleton] at hy
      subst hy
      exact h4 x hx
    · intro e he
      simp only [Array.toList_push, List.mem_append, List.mem_singleton] at he
      rcases he with he | he
      · have := h4 e he; omega
      · subst he; simp
  | some i => cases hn
end
end Go.Hw

/- The classes in memory, by their numbers. -/
namespace Go.Hw
open Go.RowKit Tm
set_option linter.unusedVariables false
set_option linter.unusedSimpArgs false
abbrev blV (b : Nat) : Value := .pointer (some ⟨b, 0, none⟩)
def pV : Option (Nat × Nat) → Value
  | none => .pointer none
  | some p => adV p
def blk (bk : List Nat) (c : Nat) : Nat := bk.getD c 0
theorem blk_get {bk : List Nat} {c : Nat} (h : c < bk.length) : bk.getD c 0 = bk[c] := by
  rw [List.getD_eq_getElem?_getD, List.getElem?_eq_getElem h]
  rfl
def clCells (ad : Nat → Nat × Nat) (bk : List Nat) (x : Cl) : Array Value :=
  #[pV (x.up.map fun c => (blk bk c, 0)), .string x.nm, .string x.so, .bool x.mx, pV (x.tm.map ad), .int .i64 (x.ma : Int), .int .i64 (x.sz : Int), .int .i64 (x.dp : Int)]
structure NdR (T : List Nr) (ad : Nat → Nat × Nat) (S : Nat → Prop) (w : World) : Prop where
  inj : ∀ i j, i < T.length → j < T.length → ad i = ad j → i = j
  low : ∀ i, i < T.length → Plain w (ad i).1 ∧ S (ad i).1
  row : ∀ i r, T[i]? = some r → w.cell? ⟨(ad i).1, (ad i).2, none⟩ = some (.string r.nm) ∧ w.cell? ⟨(ad i).1, (ad i).2 + 1, none⟩ = some (.string r.so) ∧
    ∃ a cap, w.cell? ⟨(ad i).1, (ad i).2 + 2, none⟩ = some (.slice a r.ks.length cap) ∧ (0 < r.ks.length → ∃ g off, a = some ⟨g, off, none⟩ ∧ ∀ j k, r.ks[j]? = some k → k < T.length ∧ ad k = (g, off + j * 3))
theorem NdR.kept {T : List Nr} {ad : Nat → Nat × Nat} {S F : Nat → Prop} {w w' : World} (h : NdR T ad S w) (hu : Upd F w w') (hF : ∀ k, S k → ¬ F k) : NdR T ad S w' := by
  refine ⟨h.inj, fun i hi => ?_, fun i r hr => ?_⟩
  · obtain ⟨⟨cs, t, h1⟩, h2⟩ := h.low i hi
    exact ⟨⟨cs, t, hu.heap h1 (hF _ h2)⟩, h2⟩
  · obtain ⟨h1, h2, a, cap, h3, h4⟩ := h.row i r hr
    have hs := hF _ (h.low i (List.getElem?_eq_some_iff.1 hr).1).2
    exact ⟨hu.cell h1 hs, hu.cell h2 hs, a, cap, hu.cell h3 hs, h4⟩
def Fb (bv bn : Nat) (bk : List Nat) (k : Nat) : Prop := k = bv ∨ k = bn ∨ k ∈ bk
structure UsR (N : Nat) (ad : Nat → Nat × Nat) (CT : TypeId) (bv bn : Nat) (bk : List Nat) (st : St) (w : World) : Prop where
  vs : MpR (fun s : ByteArray => Value.string s) w bv (st.vs.map fun e => (e.1, blV (blk bk e.2)))
  ns : MpR adV w bn (st.ns.map fun e => (ad e.1, blV (blk bk e.2)))
  len : bk.length = st.cs.length
  nd : (bv :: bn :: bk).Nodup
  row : ∀ c x, st.cs[c]? = some x → w.heap[blk bk c]? = some (.cells (clCells ad bk x) CT (0, 0))
  vlt : ∀ e ∈ st.vs, e.2 < st.cs.length
  nlt : ∀ e ∈ st.ns, e.2 < st.cs.length ∧ e.1 < N
  clt : ∀ x ∈ st.cs, (∀ d, x.up = some d → d < st.cs.length) ∧ (∀ i, x.tm = some i → i < N)
section
variable {N : Nat} {ad : Nat → Nat × Nat} {CT : TypeId} {bv bn : Nat} {bk : List Nat} {st : St} {w w' : World}
theorem UsR.ext {F : Nat → Prop} (h : UsR N ad CT bv bn bk st w) (hu : Upd F w w') (hF : ∀ k, Fb bv bn bk k → ¬ F k) : UsR N ad CT bv bn bk st w' :=
  ⟨h.vs.kept hu (hF _ (.inl rfl)), h.ns.kept hu (hF _ (.inr (.inl rfl))), h.len, h.nd, fun c x e => hu.heap (h.row c x e) (hF _ (.inr (.inr (by
    have hc := (List.getElem?_eq_some_iff.1 e).1
    rw [← h.len] at hc
    show bk.getD c 0 ∈ bk
    rw [blk_get hc]
    exact List.getElem_mem hc)))), h.vlt, h.nlt, h.clt⟩
theorem blk_mem {c : Nat} (h : c < bk.length) : blk bk c ∈ bk := by
  show bk.getD c 0 ∈ bk
  rw [blk_get h]
  exact List.getElem_mem h
theorem blk_inj (h : bk.Nodup) {c d : Nat} (hc : c < bk.length) (hd : d < bk.length) (e : blk bk c = blk bk d) : c = d := by
  have e' : bk.getD c 0 = bk.getD d 0 := e
  rw [blk_get hc, blk_get hd] at e'
  rcases Nat.lt_trichotomy c d with hlt | heq | hlt
  · exact absurd e' ((List.pairwise_iff_getElem.1 h) c d hc hd hlt)
  · exact heq
  · exact absurd e'.symm ((List.pairwise_iff_getElem.1 h) d c hd hc hlt)
theorem blk_snoc (b : Nat) {c : Nat} (h : c < bk.length) : blk (bk ++ [b]) c = blk bk c := by
  show (bk ++ [b]).getD c 0 = bk.getD c 0
  rw [List.getD_eq_getElem?_getD, List.getD_eq_getElem?_getD, List.getElem?_append_left h]
theorem blk_last (b : Nat) : blk (bk ++ [b]) bk.length = b := by
  show (bk ++ [b]).getD bk.length 0 = b
  rw [List.getD_eq_getElem?_getD, List.getElem?_append_right (Nat.le_refl _), Nat.sub_self]
  rfl
theorem UsR.put (h : UsR N ad CT bv bn bk st w) {c : Nat} (hc : c < st.cs.length) (x : Cl) (hx : (∀ d, x.up = some d → d < st.cs.length) ∧ (∀ i, x.tm = some i → i < N)) (hu : Upd (fun k => k = blk bk c) w w')
    (hrow : w'.heap[blk bk c]? = some (.cells (clCells ad bk x) CT (0, 0))) : UsR N ad CT bv bn bk (setC st c x) w' := by
  have hcb : c < bk.length := by rw [h.len]; exact hc
  have hm := blk_mem hcb
  have hn := h.nd
  rw [List.nodup_cons, List.nodup_cons] at hn
  have hl : (setC st c x).cs.length = st.cs.length := by show (st.cs.set c x).length = _; rw [List.length_set]
  refine ⟨h.vs.kept hu (fun e => hn.1 (by rw [e]; exact List.mem_cons_of_mem _ hm)), h.ns.kept hu (fun e => hn.2.1 (by rw [e]; exact hm)), by rw [hl]; exact h.len, h.nd, fun d y hy => ?_, fun e he => by rw [hl]; exact h.vlt e he, fun e he => by rw [hl]; exact h.nlt e he, fun y hy => ?_⟩
  · have hy' : (st.cs.set c x)[d]? = some y := hy
    rw [List.getElem?_set] at hy'
    by_cases e : c = d
    · subst e
      rw [if_pos rfl, if_pos hc] at hy'
      injection hy' with hy'
      rw [← hy']
      exact hrow
    · rw [if_neg e] at hy'
      have hd : d < bk.length := by rw [h.len]; exact (List.getElem?_eq_some_iff.1 hy').1
      exact hu.heap (h.row d y hy') (fun e2 => e (blk_inj hn.2.2 hd hcb e2).symm)
  · rw [hl]
    rcases List.mem_or_eq_of_mem_set (show y ∈ st.cs.set c x from hy) with hy | hy
    · exact h.clt y hy
    · rw [hy]; exact hx
theorem clCells_snoc (h : UsR N ad CT bv bn bk st w) (b : Nat) {x : Cl} (hx : x ∈ st.cs) : clCells ad (bk ++ [b]) x = clCells ad bk x := by
  unfold clCells
  cases hu : x.up with
  | none => rfl
  | some d =>
    have := (h.clt x hx).1 d hu
    rw [Option.map_some, Option.map_some, blk_snoc b (by rw [h.len]; exact this)]
theorem UsR.made (h : UsR N ad CT bv bn bk st w) {b : Nat} {st' : St} (x : Cl) (hx : x.up = none ∧ ∀ i, x.tm = some i → i < N) (hb : b ∉ (bv :: bn :: bk)) (hcs : st'.cs = st.cs ++ [x])
    (hvs : MpR (fun s : ByteArray => Value.string s) w' bv (st'.vs.map fun e => (e.1, blV (blk (bk ++ [b]) e.2)))) (hns : MpR adV w' bn (st'.ns.map fun e => (ad e.1, blV (blk (bk ++ [b]) e.2))))
    (hvl : ∀ e ∈ st'.vs, e.2 < st'.cs.length) (hnl : ∀ e ∈ st'.ns, e.2 < st'.cs.length ∧ e.1 < N)
    (hrow : w'.heap[b]? = some (.cells (clCells ad (bk ++ [b]) x) CT (0, 0))) (hkeep : ∀ k ∈ bk, ∀ o, w.heap[k]? = some o → w'.heap[k]? = some o) : UsR N ad CT bv bn (bk ++ [b]) st' w' := by
  have hn := h.nd
  refine ⟨hvs, hns, by rw [hcs, List.length_append, List.length_append, h.len]; rfl, ?_, fun c y hy => ?_, hvl, hnl, fun y hy => ?_⟩
  · have : (bv :: bn :: bk) ++ [b] = bv :: bn :: (bk ++ [b]) := rfl
    rw [← this, List.nodup_append]
    refine ⟨hn, by simp, fun x hx y hy => ?_⟩
    rw [List.mem_singleton] at hy
    rw [hy]
    intro e
    exact hb (by rw [← e]; exact hx)
  · rw [hcs] at hy
    by_cases hc : c < st.cs.length
    · rw [List.getElem?_append_left hc] at hy
      have hcb : c < bk.length := by rw [h.len]; exact hc
      rw [blk_snoc b hcb, clCells_snoc h b (List.mem_of_getElem? hy)]
      exact hkeep _ (blk_mem hcb) _ (h.row c y hy)
    · rw [List.getElem?_append_right (Nat.le_of_not_lt hc)] at hy
      have h0 : c - st.cs.length = 0 := by
        have := (List.getElem?_eq_some_iff.1 hy).1
        simp at this
        omega
      rw [h0] at hy
      injection hy with hy
      have hce : c = bk.length := by rw [h.len]; omega
      rw [hce, blk_last, ← hy]
      exact hrow
  · rw [hcs] at hy ⊢
    rw [List.length_append]
    rcases List.mem_append.1 hy with hy | hy
    · have := h.clt y hy
      exact ⟨fun d e => Nat.lt_of_lt_of_le (this.1 d e) (Nat.le_add_right _ _), this.2⟩
    · rw [List.mem_singleton] at hy
      rw [hy]
      exact ⟨fun d e => absurd (hx.1.symm.trans e) (by simp), hx.2⟩
theorem afind_map {κ κ' : Type} [DecidableEq κ] [DecidableEq κ'] (f : κ → κ') (g : Nat → Value) (l : List (κ × Nat)) (k : κ) (hf : ∀ e ∈ l, f e.1 = f k → e.1 = k) : afind (l.map fun e => (f e.1, g e.2)) (f k) = (fnd l k).map g := by
  unfold fnd
  induction l with
  | nil => rfl
  | cons e l ih =>
    rw [List.map_cons, afind_cons, List.find?_cons]
    by_cases h : e.1 = k
    · rw [h, if_pos rfl, decide_eq_true rfl]; rfl
    · rw [if_neg (fun e2 => h (hf e (List.mem_cons_self ..) e2)), decide_eq_false h]
      exact ih (fun e he => hf e (List.mem_cons_of_mem _ he))
theorem UsR.lt (h : UsR N ad CT bv bn bk st w) (k : Nat) (hk : Fb bv bn bk k) : k < w.heap.size := by
  rcases hk with hk | hk | hk
  · rw [hk]; exact h.vs.lt
  · rw [hk]; exact h.ns.lt
  · obtain ⟨c, hc, e⟩ := List.getElem_of_mem hk
    have hc' : c < st.cs.length := by rw [← h.len]; exact hc
    have h1 := h.row c _ (List.getElem?_eq_getElem hc')
    have h2 := (Array.getElem?_eq_some_iff.1 h1).1
    have h3 : blk bk c = k := by show bk.getD c 0 = k; rw [blk_get hc, e]
    rw [h3] at h2
    exact h2
theorem aput_snoc {κ : Type} [DecidableEq κ] {l : List (κ × Value)} {k : κ} (h : afind l k = none) (v : Value) : aput l k v = l ++ [(k, v)] := by
  induction l with
  | nil => rfl
  | cons p l ih =>
    rw [afind_cons] at h
    by_cases e : p.1 = k
    · rw [if_pos e] at h; cases h
    · rw [if_neg e] at h
      unfold aput
      rw [if_neg e, ih h]
      rfl
theorem ent_keep {κ κ' : Type} (f : κ → κ') (b : Nat) (l : List (κ × Nat)) (h : ∀ e ∈ l, e.2 < bk.length) : (l.map fun e => (f e.1, blV (blk (bk ++ [b]) e.2))) = l.map fun e => (f e.1, blV (blk bk e.2)) :=
  List.map_congr_left fun e he => by rw [blk_snoc b (h e he)]
theorem ent_snoc {κ κ' : Type} (f : κ → κ') (b : Nat) (l : List (κ × Nat)) (k : κ) (h : ∀ e ∈ l, e.2 < bk.length) : ((l ++ [(k, bk.length)]).map fun e => (f e.1, blV (blk (bk ++ [b]) e.2))) = (l.map fun e => (f e.1, blV (blk bk e.2))) ++ [(f k, blV b)] := by
  rw [List.map_append, ent_keep f b l h]
  show _ ++ [(f k, blV (blk (bk ++ [b]) bk.length))] = _
  rw [blk_last]
theorem fb_not {b : Nat} (h : ¬ Fb bv bn bk b) : b ∉ (bv :: bn :: bk) := fun hm => h (by
  rcases List.mem_cons.1 hm with e | hm
  · exact .inl e
  · rcases List.mem_cons.1 hm with e | hm
    · exact .inr (.inl e)
    · exact .inr (.inr hm))
theorem UsR.vn (h : UsR N ad CT bv bn bk st w) : bv ≠ bn ∧ bv ∉ bk ∧ bn ∉ bk := by
  have h1 := h.nd
  rw [List.nodup_cons, List.nodup_cons, List.mem_cons, not_or] at h1
  exact ⟨h1.1.1, h1.1.2, h1.2.1⟩
theorem UsR.newv (h : UsR N ad CT bv bn bk st w) {nm so : By} {b : Nat} (hf : fnd st.vs nm = none) (hb : ¬ Fb bv bn bk b) (hrow : w.heap[b]? = some (.cells (clCells ad bk ⟨none, nm, so, false, none, 0, 0, 0⟩) CT (0, 0)))
    (hmp : MpR (fun s : ByteArray => Value.string s) w' bv (aput (st.vs.map fun e => (e.1, blV (blk bk e.2))) nm (blV b))) (hu : Upd (fun j => j = bv) w w') : UsR N ad CT bv bn (bk ++ [b]) { st with vs := st.vs ++ [(nm, st.cs.length)], cs := st.cs ++ [⟨none, nm, so, false, none, 0, 0, 0⟩] } w' := by
  have hvn := h.vn
  have hvl : ∀ e ∈ st.vs, e.2 < bk.length := fun e he => by rw [h.len]; exact h.vlt e he
  have hnl : ∀ e ∈ st.ns, e.2 < bk.length := fun e he => by rw [h.len]; exact (h.nlt e he).1
  refine h.made ⟨none, nm, so, false, none, 0, 0, 0⟩ ⟨rfl, fun i e => by cases e⟩ (fb_not hb) rfl ?_ ?_ ?_ ?_ ?_ ?_
  · show MpR _ w' bv ((st.vs ++ [(nm, st.cs.length)]).map fun e => (e.1, blV (blk (bk ++ [b]) e.2)))
    rw [← h.len, ent_snoc (fun s : By => s) b st.vs nm hvl, ← aput_snoc (by
      have := afind_map (fun s : By => s) (fun c => blV (blk bk c)) st.vs nm (fun e _ h => h)
      rw [this, hf]; rfl)]
    exact hmp
  · show MpR _ w' bn (st.ns.map fun e => (ad e.1, blV (blk (bk ++ [b]) e.2)))
    rw [ent_keep ad b st.ns hnl]
    exact h.ns.kept hu (fun e => hvn.1 e.symm)
  · intro e he
    show e.2 < (st.cs ++ [_]).length
    rw [List.length_append, List.length_singleton]
    rcases List.mem_append.1 he with he | he
    · exact Nat.lt_of_lt_of_le (h.vlt e he) (Nat.le_add_right _ _)
    · rw [List.mem_singleton] at he; rw [he]; exact Nat.lt_succ_self _
  · intro e he
    show e.2 < (st.cs ++ [_]).length ∧ _
    rw [List.length_append, List.length_singleton]
    exact ⟨Nat.lt_of_lt_of_le (h.nlt e he).1 (Nat.le_add_right _ _), (h.nlt e he).2⟩
  · exact hu.heap hrow (fun e => hb (.inl e))
  · intro k hk o ho
    exact hu.heap ho (fun e => hvn.2.1 (by rw [← e]; exact hk))
theorem UsR.newo (h : UsR N ad CT bv bn bk st w) {i b : Nat} (hi : i < N) (hb : ¬ Fb bv bn bk b) (hrow : w.heap[b]? = some (.cells (clCells ad bk ⟨none, nul, nul, false, some i, 0, 0, 0⟩) CT (0, 0)))
    (hmp : MpR adV w' bn ((st.ns.map fun e => (ad e.1, blV (blk bk e.2))) ++ [(ad i, blV b)])) (hu : Upd (fun j => j = bn) w w') : UsR N ad CT bv bn (bk ++ [b]) { st with ns := st.ns ++ [(i, st.cs.length)], cs := st.cs ++ [⟨none, nul, nul, false, some i, 0, 0, 0⟩] } w' := by
  have hvn := h.vn
  have hvl : ∀ e ∈ st.vs, e.2 < bk.length := fun e he => by rw [h.len]; exact h.vlt e he
  have hnl : ∀ e ∈ st.ns, e.2 < bk.length := fun e he => by rw [h.len]; exact (h.nlt e he).1
  refine h.made ⟨none, nul, nul, false, some i, 0, 0, 0⟩ ⟨rfl, fun j e => by injection e with e; rw [← e]; exact hi⟩ (fb_not hb) rfl ?_ ?_ ?_ ?_ ?_ ?_
  · show MpR _ w' bv (st.vs.map fun e => (e.1, blV (blk (bk ++ [b]) e.2)))
    rw [ent_keep (fun s : By => s) b st.vs hvl]
    exact h.vs.kept hu hvn.1
  · show MpR _ w' bn ((st.ns ++ [(i, st.cs.length)]).map fun e => (ad e.1, blV (blk (bk ++ [b]) e.2)))
    rw [← h.len, ent_snoc ad b st.ns i hnl]
    exact hmp
  · intro e he
    show e.2 < (st.cs ++ [_]).length
    rw [List.length_append, List.length_singleton]
    exact Nat.lt_of_lt_of_le (h.vlt e he) (Nat.le_add_right _ _)
  · intro e he
    show e.2 < (st.cs ++ [_]).length ∧ _
    rw [List.length_append, List.length_singleton]
    rcases List.mem_append.1 he with he | he
    · exact ⟨Nat.lt_of_lt_of_le (h.nlt e he).1 (Nat.le_add_right _ _), (h.nlt e he).2⟩
    · rw [List.mem_singleton] at he; rw [he]; exact ⟨Nat.lt_succ_self _, hi⟩
  · exact hu.heap hrow (fun e => hb (.inr (.inl e)))
  · intro k hk o ho
    exact hu.heap ho (fun e => hvn.2.2 (by rw [← e]; exact hk))
end
end Go.Hw

/- The unifier in memory: its classes and the nodes. -/
namespace Go.Hw
open Go.RowKit Tm
set_option linter.unusedVariables false
set_option linter.unusedSimpArgs false
theorem rootF_some {cs : List Cl} : ∀ {F c r : Nat}, rootF cs F c = some r → ∃ x, cs[r]? = some x ∧ x.up = none
  | F + 1, c, r, h => by
    unfold rootF at h
    cases hx : cs[c]? with
    | none => rw [hx] at h; cases h
    | some x =>
      rw [hx] at h
      simp only at h
      cases hu : x.up with
      | none =>
        rw [hu] at h
        injection h with h
        subst h
        exact ⟨x, hx, hu⟩
      | some d => rw [hu] at h; exact rootF_some h
theorem classF_some {T : List Nr} {F i r : Nat} {st st' : St} (h : classF T F st i = some (st', r)) : ∃ x, st'.cs[r]? = some x ∧ x.up = none := by
  have hv : ∀ nm so, varF F st nm so = some (st', r) → ∃ x, st'.cs[r]? = some x ∧ x.up = none := fun nm so h => by
    unfold varF at h
    cases hf : fnd st.vs nm with
    | some c =>
      rw [hf] at h
      simp only at h
      cases hr : rootF st.cs F c with
      | none => rw [hr] at h; cases h
      | some q => rw [hr] at h; simp only [Option.map_some, Option.some.injEq, Prod.mk.injEq] at h; obtain ⟨rfl, rfl⟩ := h; exact rootF_some hr
    | none =>
      rw [hf] at h
      simp only at h
      cases hr : rootF (st.cs ++ [⟨none, nm, so, false, none, 0, 0, 0⟩]) F st.cs.length with
      | none => rw [hr] at h; cases h
      | some q => rw [hr] at h; simp only [Option.map_some, Option.some.injEq, Prod.mk.injEq] at h; obtain ⟨rfl, rfl⟩ := h; exact rootF_some hr
  unfold classF at h
  cases ht : T[i]? with
  | none => rw [ht] at h; cases h
  | some x =>
    rw [ht] at h
    simp only at h
    by_cases hs : x.so = nul
    · rw [if_pos hs] at h
      unfold opF at h
      cases hf : fnd st.ns i with
      | some c =>
        rw [hf] at h
        simp only at h
        cases hr : rootF st.cs F c with
        | none => rw [hr] at h; cases h
        | some q => rw [hr] at h; simp only [Option.map_some, Option.some.injEq, Prod.mk.injEq] at h; obtain ⟨rfl, rfl⟩ := h; exact rootF_some hr
      | none =>
        rw [hf] at h
        simp only at h
        cases hr : rootF (st.cs ++ [⟨none, nul, nul, false, some i, 0, 0, 0⟩]) F st.cs.length with
        | none => rw [hr] at h; cases h
        | some q => rw [hr] at h; simp only [Option.map_some, Option.some.injEq, Prod.mk.injEq] at h; obtain ⟨rfl, rfl⟩ := h; exact rootF_some hr
    · rw [if_neg hs] at h
      exact hv _ _ h
structure Ur (T : List Nr) (ad : Nat → Nat × Nat) (S : Nat → Prop) (CT UT : TypeId) (bv bn ub : Nat) (bk : List Nat) (st : St) (w : World) : Prop where
  us : UsR T.length ad CT bv bn bk st w
  nd : NdR T ad S w
  u : w.heap[ub]? = some (.cells #[.map (some bv), .map (some bn)] UT (0, 0))
  un : ¬ Fb bv bn bk ub
  sn : ∀ k, S k → k < w.heap.size ∧ ¬ Fb bv bn bk k
structure Us' (T : List Nr) (ad : Nat → Nat × Nat) (S : Nat → Prop) (CT UT : TypeId) (bv bn ub : Nat) (bk bk' : List Nat) (st' : St) (w w' : World) : Prop where
  ur : Ur T ad S CT UT bv bn ub bk' st' w'
  upd : Upd (Fb bv bn bk) w w'
  pre : bk <+: bk'
  new : ∀ b ∈ bk', b ∈ bk ∨ w.heap.size ≤ b
section
variable {T : List Nr} {ad : Nat → Nat × Nat} {S : Nat → Prop} {CT UT : TypeId} {bv bn ub : Nat} {bk bk' bk'' : List Nat} {st st' st'' : St} {w w' w'' : World}
theorem Ur.step (h : Ur T ad S CT UT bv bn ub bk st w) (hm : UsR T.length ad CT bv bn bk' st' w') (hu : Upd (Fb bv bn bk) w w') (hp : bk <+: bk') (hb : ∀ b ∈ bk', b ∈ bk ∨ w.heap.size ≤ b) : Us' T ad S CT UT bv bn ub bk bk' st' w w' := by
  have hn : ∀ k, k < w.heap.size → ¬ Fb bv bn bk k → ¬ Fb bv bn bk' k := fun k hk hF hF' => by
    rcases hF' with e | e | e
    · exact hF (.inl e)
    · exact hF (.inr (.inl e))
    · rcases hb k e with e | e
      · exact hF (.inr (.inr e))
      · omega
  have hul : ub < w.heap.size := (Array.getElem?_eq_some_iff.1 h.u).1
  exact ⟨⟨hm, h.nd.kept hu (fun k hk => (h.sn k hk).2), hu.heap h.u h.un, hn _ hul h.un, fun k hk => ⟨Nat.lt_of_lt_of_le (h.sn k hk).1 hu.size, hn k (h.sn k hk).1 (h.sn k hk).2⟩⟩, hu, hp, hb⟩
theorem Ur.ext (h : Ur T ad S CT UT bv bn ub bk st w) (hu : Ext w w') : Ur T ad S CT UT bv bn ub bk st w' :=
  ⟨h.us.ext hu (fun _ _ h => h), h.nd.kept hu (fun _ _ h => h), hu.heap h.u (fun h => h), h.un, fun k hk => ⟨Nat.lt_of_lt_of_le (h.sn k hk).1 hu.size, (h.sn k hk).2⟩⟩
theorem Us'.refl (h : Ur T ad S CT UT bv bn ub bk st w) : Us' T ad S CT UT bv bn ub bk bk st w w := ⟨h, Upd.refl _ _, List.prefix_refl _, fun b hb => .inl hb⟩
theorem Us'.trans (h : Us' T ad S CT UT bv bn ub bk bk' st' w w') (h' : Us' T ad S CT UT bv bn ub bk' bk'' st'' w' w'') : Us' T ad S CT UT bv bn ub bk bk'' st'' w w'' := by
  refine ⟨h'.ur, h.upd.trans' h'.upd (fun j hj hF => ?_), h.pre.trans h'.pre, fun b hb => ?_⟩
  · rcases hF with e | e | e
    · exact .inl e
    · exact .inr (.inl e)
    · rcases h.new j e with e | e
      · exact .inr (.inr e)
      · omega
  · rcases h'.new b hb with e | e
    · exact h.new b e
    · exact .inr (Nat.le_trans h.upd.size e)
theorem Us'.ext (h : Us' T ad S CT UT bv bn ub bk bk' st' w w') (hu : Ext w' w'') : Us' T ad S CT UT bv bn ub bk bk' st' w w'' :=
  ⟨h.ur.ext hu, h.upd.ext hu, h.pre, h.new⟩
theorem pre_blk (h : bk <+: bk') {c : Nat} (hc : c < bk.length) : blk bk' c = blk bk c := by
  obtain ⟨t, rfl⟩ := h
  show (bk ++ t).getD c 0 = bk.getD c 0
  rw [List.getD_eq_getElem?_getD, List.getD_eq_getElem?_getD, List.getElem?_append_left hc]
theorem Us'.put (h : Us' T ad S CT UT bv bn ub bk bk' st w w') {c : Nat} (hc : c < st.cs.length) (x : Cl) (hx : (∀ d, x.up = some d → d < st.cs.length) ∧ (∀ i, x.tm = some i → i < T.length)) (hu : Upd (fun k => k = blk bk' c) w' w'')
    (hrow : w''.heap[blk bk' c]? = some (.cells (clCells ad bk' x) CT (0, 0))) : Us' T ad S CT UT bv bn ub bk bk' (setC st c x) w w'' := by
  have hm := h.ur.us.put hc x hx hu hrow
  exact h.trans (h.ur.step hm (hu.mono (fun k _ hk => .inr (.inr (by rw [hk]; exact blk_mem (by rw [h.ur.us.len]; exact hc))))) (List.prefix_refl _) (fun b hb => .inl hb))
end
end Go.Hw

/- The search for cycles, and the value of a class, over numbers; with tests that keep what is reckoned small. -/
namespace Go.Hw
open Go.RowKit Tm
set_option linter.unusedVariables false
set_option linter.unusedSimpArgs false
def acK (T : List Nr) (F : Nat) (ac : St → Nat → Option (St × Bool)) (c x : Nat) : St → List Nat → Option (St × Bool)
  | st, [] => some (st, true)
  | st, k :: ks => if (st.cs[c]?.map (·.tm)) = some (some x) then match classF T F st k with
    | none => none
    | some (st1, y) => match ac st1 y with
      | none => none
      | some (st2, false) => some (st2, false)
      | some (st2, true) => match st2.cs[c]?, st2.cs[y]? with
        | some C, some Y => if C.sz ≤ 2000 ∧ Y.sz ≤ 2000 ∧ C.dp ≤ 2000 ∧ Y.dp ≤ 2000 then acK T F ac c x (setC st2 c { C with sz := min (C.sz + Y.sz) 1001, dp := min (max C.dp (Y.dp + 1)) 61 }) ks else none
        | _, _ => none
    else none
def acG (T : List Nr) : Nat → St → Nat → Option (St × Bool)
  | 0, _, _ => none
  | F + 1, st, c => match st.cs[c]? with
    | none => none
    | some C => if C.ma = 1 then some (st, false) else match C.tm with
      | none => if C.mx = true then some (st, false) else if C.ma = 2 then some (st, true) else some (setC st c { C with ma := 2, sz := 1, dp := 1 }, true)
      | some x => if C.ma = 2 then some (st, true) else match T[x]? with
        | none => none
        | some X => match acK T F (acG T F) c x (setC st c { C with ma := 1, sz := 1, dp := 1 }) X.ks with
          | none => none
          | some (st1, false) => some (st1, false)
          | some (st1, true) => match st1.cs[c]? with
            | none => none
            | some C1 => some (setC st1 c { C1 with ma := 2 }, true)
def fndC (T : List Nr) (st : St) (i : Nat) : Bool := match T[i]? with
  | none => false
  | some r => if r.so = nul then (fnd st.ns i).isSome else (fnd st.vs r.nm).isSome
theorem opF_same {F i r : Nat} {st st' : St} (hf : (fnd st.ns i).isSome = true) (h : opF F st i = some (st', r)) : st' = st := by
  unfold opF at h
  cases hx : fnd st.ns i with
  | none => rw [hx] at hf; cases hf
  | some c =>
    rw [hx] at h
    simp only at h
    cases hr : rootF st.cs F c with
    | none => rw [hr] at h; cases h
    | some q => rw [hr] at h; simp only [Option.map_some, Option.some.injEq, Prod.mk.injEq] at h; exact h.1.symm
theorem varF_same {F r : Nat} {st st' : St} {nm so : By} (hf : (fnd st.vs nm).isSome = true) (h : varF F st nm so = some (st', r)) : st' = st := by
  unfold varF at h
  cases hx : fnd st.vs nm with
  | none => rw [hx] at hf; cases hf
  | some c =>
    rw [hx] at h
    simp only at h
    cases hr : rootF st.cs F c with
    | none => rw [hr] at h; cases h
    | some q => rw [hr] at h; simp only [Option.map_some, Option.some.injEq, Prod.mk.injEq] at h; exact h.1.symm
def vaK (T : List Nr) (F : Nat) (st : St) (va : Nat → Option Tm) (c x : Nat) : List Nat → Option (List Tm)
  | [] => some []
  | k :: ks => if fndC T st k = true then match classF T F st k with
    | none => none
    | some (_, y) => match va y with
      | none => none
      | some t => match vaK T F st va c x ks with
        | none => none
        | some L => some (t :: L)
    else none
def vaG (T : List Nr) (st : St) : Nat → Nat → Option Tm
  | 0, _ => none
  | F + 1, c => match st.cs[c]? with
    | none => none
    | some C => match C.tm with
      | none => some (.mk C.nm C.so [])
      | some x => match T[x]? with
        | none => none
        | some X => (vaK T F st (vaG T st F) c x X.ks).map fun L => .mk X.nm nul L
theorem vaK_len {T : List Nr} {F : Nat} {st : St} {va : Nat → Option Tm} {c x : Nat} : ∀ {ks : List Nat} {L : List Tm}, vaK T F st va c x ks = some L → L.length = ks.length
  | [], L, h => by unfold vaK at h; injection h with h; rw [← h]; rfl
  | k :: ks, L, h => by
    unfold vaK at h
    by_cases hf : fndC T st k = true
    · rw [if_pos hf] at h
      cases hc : classF T F st k with
      | none => rw [hc] at h; cases h
      | some q =>
        obtain ⟨s1, y⟩ := q
        rw [hc] at h
        simp only at h
        cases hv : va y with
        | none => rw [hv] at h; cases h
        | some t =>
          rw [hv] at h
          simp only at h
          cases hr : vaK T F st va c x ks with
          | none => rw [hr] at h; cases h
          | some L' =>
            rw [hr] at h
            simp only [Option.some.injEq] at h
            rw [← h, List.length_cons, List.length_cons, vaK_len hr]
    · rw [if_neg hf] at h; cases h
theorem vaK_at {T : List Nr} {F : Nat} {st : St} {va : Nat → Option Tm} {c x : Nat} : ∀ {ks : List Nat} {L : List Tm}, vaK T F st va c x ks = some L → ∀ k (hk : k < ks.length), fndC T st ks[k] = true ∧ ∃ s1 y, classF T F st ks[k] = some (s1, y) ∧ va y = some (tg L k)
  | [], L, h, k, hk => absurd hk (Nat.not_lt_zero _)
  | j :: ks, L, h, k, hk => by
    unfold vaK at h
    by_cases hf : fndC T st j = true
    · rw [if_pos hf] at h
      cases hc : classF T F st j with
      | none => rw [hc] at h; cases h
      | some q =>
        obtain ⟨s1, y⟩ := q
        rw [hc] at h
        simp only at h
        cases hv : va y with
        | none => rw [hv] at h; cases h
        | some t =>
          rw [hv] at h
          simp only at h
          cases hr : vaK T F st va c x ks with
          | none => rw [hr] at h; cases h
          | some L' =>
            rw [hr] at h
            simp only [Option.some.injEq] at h
            rw [← h]
            cases k with
            | zero => exact ⟨hf, s1, y, hc, hv⟩
            | succ k => exact vaK_at hr k (by simp at hk; omega)
    · rw [if_neg hf] at h; cases h
theorem setC_setC (st : St) (c : Nat) (x y : Cl) : setC (setC st c x) c y = setC st c y := by
  show ({ st with cs := (st.cs.set c x).set c y } : St) = { st with cs := st.cs.set c y }
  rw [List.set_set]
theorem setC_at (st : St) {c : Nat} (h : c < st.cs.length) (x : Cl) : (setC st c x).cs[c]? = some x := by
  show (st.cs.set c x)[c]? = _
  rw [List.getElem?_set, if_pos rfl, if_pos h]
theorem setC_len (st : St) (c : Nat) (x : Cl) : (setC st c x).cs.length = st.cs.length := List.length_set ..
end Go.Hw

/- A drawn region whose head only reads and whose tail is in order: the head by the quiet walk.  -/
namespace Go.Hw
open Go
theorem still_of_quiet {P : Program} {ops : Array Oper} {w : World} {Q : Act → Prop} : ∀ (l : List Oper) (a : Act), wpQuiet P ops (fun w' => ∃ _ : Unit, w' = w) Q l a → wpStill P ops w Q l a
  | [], _, h => h
  | o :: rest, a, h => by
    unfold wpQuiet at h
    unfold wpStill
    split
    · rename_i hw
      rw [if_pos hw] at h
      obtain ⟨v, hv, hn⟩ := h
      have hv := hv w ⟨(), rfl⟩
      have hn := still_of_quiet rest _ hn
      unfold Oper.quietAt at hv
      unfold Oper.still
      generalize (execOp a.eval o).run P w = r at hv
      cases r with
      | ok n w' =>
        cases n with
        | value u => obtain ⟨h1, h2⟩ := hv; exact ⟨h1, by rw [h2]; exact hn⟩
        | skip => obtain ⟨h1, h2⟩ := hv; exact ⟨h1, by rw [← h2]; exact hn⟩
        | enter f args => obtain ⟨h1, h2⟩ := hv; exact ⟨h1, v, h2.mono (fun e w'' h => ⟨h.1, h.2.elim fun _ h => h⟩), hn⟩
        | _ => cases hv
      | _ => cases hv
    · rename_i hw
      rw [if_neg hw] at h
      exact still_of_quiet rest _ h
theorem region_quiet_tail {P : Program} {id : Nat} {Q : Exit → Act → World → Prop} {a : Act} {w : World} {l : List Oper} (n : Nat) (hm : P.follows .mixedOrders = true) (hB : Region.lexTailB .any l.toArray n = true)
    (h : wpQuiet P l.toArray (fun w' => ∃ _ : Unit, w' = { w with drawn := w.drawn + 1 }) (fun a' => wpList P l.toArray Q (l.drop n) a' { w with drawn := w.drawn + 1 }) (l.take n) a) : (Code.region id l.toArray true).wp P Q a w :=
  wp_region_still_tail n hm hB (still_of_quiet _ _ h)
end Go.Hw

/- Matching with bindings: pure. -/
namespace Go.Hw
open Tm
set_option linter.unusedVariables false
set_option linter.unusedSimpArgs false
theorem tg_drop (L : List Tm) (k : Nat) (h : k < L.length) : L.drop k = tg L k :: L.drop (k + 1) := by
  rw [List.drop_eq_getElem_cons h]
  unfold tg
  rw [List.getD_eq_getElem?_getD, List.getElem?_eq_getElem h]
  rfl
def bsu (B : List Bd) : Su := fun n s => (bget B n).getD (vr n s)
structure MtI (X : List Vd) (Y : Tm → Prop) (B : List Bd) : Prop where
  inX : ∀ b ∈ B, (b.1, b.2.1) ∈ X
  dist : B.Pairwise fun a b => a.1 ≠ b.1
  val : ∀ b ∈ B, Y b.2.2
  srt : ∀ b ∈ B, b.2.2.sort ≠ nul → b.2.2.sort = b.2.1
theorem MtI.nil (X : List Vd) (Y : Tm → Prop) : MtI X Y [] := ⟨fun _ h => (by cases h), List.Pairwise.nil, fun _ h => (by cases h), fun _ h => (by cases h)⟩
def slfB (b : Bd) : Bool := decide (b.2.2 = vr b.1 b.2.1)
def srtB (B : List Bd) : List Bd := B.foldl (fun l b => if slfB b = true then l else addB l b) []
theorem srtB_snoc (B : List Bd) (b : Bd) : srtB (B ++ [b]) = if slfB b = true then srtB B else addB (srtB B) b := by
  unfold srtB
  rw [List.foldl_append]
  rfl
theorem srtB_spec (B : List Bd) (h : B.Pairwise fun a b => a.1 ≠ b.1) : AscK (Prod.fst : Bd → By) (srtB B) ∧ ∀ b, b ∈ srtB B ↔ b ∈ B ∧ slfB b = false := by
  have key : ∀ N (B : List Bd), B.length = N → B.Pairwise (fun a b => a.1 ≠ b.1) → AscK (Prod.fst : Bd → By) (srtB B) ∧ ∀ b, b ∈ srtB B ↔ b ∈ B ∧ slfB b = false := by
    intro N
    induction N with
    | zero =>
      intro B hN _
      have : B = [] := List.eq_nil_of_length_eq_zero hN
      subst this
      exact ⟨List.Pairwise.nil, fun b => by simp [srtB]⟩
    | succ N ih =>
      intro B hN hd
      have hne : B ≠ [] := fun e => by rw [e] at hN; simp at hN
      obtain ⟨A, x, rfl⟩ : ∃ A x, B = A ++ [x] := ⟨B.dropLast, B.getLast hne, (List.dropLast_concat_getLast hne).symm⟩
      have hl : A.length = N := by simpa using hN
      rw [List.pairwise_append] at hd
      obtain ⟨d1, _, d3⟩ := hd
      obtain ⟨i1, i2⟩ := ih A hl d1
      rw [srtB_snoc]
      cases hx : slfB x with
      | true =>
        rw [if_pos rfl]
        refine ⟨i1, fun b => ?_⟩
        rw [i2 b, List.mem_append, List.mem_singleton]
        constructor
        · rintro ⟨h1, h2⟩; exact ⟨.inl h1, h2⟩
        · rintro ⟨h1 | h1, h2⟩
          · exact ⟨h1, h2⟩
          · rw [h1, hx] at h2; cases h2
      | false =>
        rw [if_neg (by simp)]
        refine ⟨addB_asc i1 (fun c hc => ?_), fun b => ?_⟩
        · exact d3 c ((i2 c).1 hc).1 x (List.mem_singleton.2 rfl)
        · rw [mem_addB, i2 b, List.mem_append, List.mem_singleton]
          constructor
          · rintro (⟨h1, h2⟩ | h1)
            · exact ⟨.inl h1, h2⟩
            · rw [h1]; exact ⟨.inr rfl, hx⟩
          · rintro ⟨h1 | h1, h2⟩
            · exact .inl ⟨h1, h2⟩
            · exact .inr h1
  exact key B.length B rfl h
end Go.Hw

/- Substitutions applied and composed: pure. -/
namespace Go.Hw
open Tm
set_option linter.unusedVariables false
set_option linter.unusedSimpArgs false
section
variable (nm : By → Bool)
def okBd (s : List Bd) (i : Nat) : Bool :=
  nm (bg' s i).1 && nm (bg' s i).2.1 && (decide (i = 0) || blt (bg' s (i - 1)).1 (bg' s i).1) && wf nm (bg' s i).2.2 && (decide ((bg' s i).2.2.sort = nul) || (decide ((bg' s i).2.2.sort = (bg' s i).2.1) && !decide ((bg' s i).2.2.name = (bg' s i).1)))
where bg' (s : List Bd) (i : Nat) : Bd := s.getD i (nul, nul, default)
def vldB (s : List Bd) : Bool := decide (s.length ≤ 1000) && (List.range s.length).all (okBd nm s)
def bsrt (s : List Bd) (n : By) : Option By := (s.find? fun b => decide (b.1 = n)).map (·.2.1)
def sbB (s : List Bd) (t : Tm) : Tm := sbT (bsu s) t
def clsh (s : List Bd) (t : Tm) : Bool := (varsT t).any fun f => match bsrt s f.1 with | some so => !decide (so = f.2) | none => false
def app1 (s : List Bd) (t : Tm) : Tm × Int :=
  if clsh s t = true then (.mk nul nul [], 11) else if 1000 < (sbB s t).size ∨ 60 < (sbB s t).depth then (.mk nul nul [], 4) else if wf nm (sbB s t) = false then (.mk nul nul [], 11) else (sbB s t, 0)
def appF (s : List Bd) (t : Tm) : Tm × Int := if (vldB nm s && wf nm t) = true then app1 nm s t else (.mk nul nul [], 1)
def cmpA (b : List Bd) : List Bd → List Bd × Int
  | [] => ([], 0)
  | x :: l => if (app1 nm b x.2.2).2 = 0 then (if (cmpA b l).2 = 0 then ((x.1, x.2.1, (app1 nm b x.2.2).1) :: (cmpA b l).1, 0) else ([], (cmpA b l).2)) else ([], (app1 nm b x.2.2).2)
def cmpF (a b : List Bd) : List Bd × Int :=
  if (vldB nm a && vldB nm b) = false then ([], 1) else
  if (cmpA nm b a).2 = 0 then
    (if 1000 < (srtB ((cmpA nm b a).1 ++ b.filter fun x => (bget a x.1).isNone)).length then ([], 4) else (srtB ((cmpA nm b a).1 ++ b.filter fun x => (bget a x.1).isNone), 0))
  else ([], (cmpA nm b a).2)
end
theorem bsrt_none {s : List Bd} {n : By} : bsrt s n = none ↔ bget s n = none := by
  unfold bsrt bget
  cases s.find? _ <;> simp
theorem bget_of {s : List Bd} (hd : s.Pairwise fun a b => a.1 ≠ b.1) {b : Bd} (hb : b ∈ s) : bget s b.1 = some b.2.2 ∧ bsrt s b.1 = some b.2.1 := by
  induction s with
  | nil => cases hb
  | cons a s ih =>
    obtain ⟨h1, h2⟩ := List.pairwise_cons.1 hd
    unfold bget bsrt
    rw [List.find?_cons]
    rcases List.mem_cons.1 hb with e | hb
    · subst e
      rw [decide_eq_true rfl]
      exact ⟨rfl, rfl⟩
    · rw [decide_eq_false (h1 b hb)]
      exact ih h2 hb
theorem bsrt_some {s : List Bd} {n so : By} (h : bsrt s n = some so) : ∃ b ∈ s, b.1 = n ∧ b.2.1 = so := by
  unfold bsrt at h
  cases hf : s.find? (fun b => decide (b.1 = n)) with
  | none => rw [hf] at h; cases h
  | some b =>
    rw [hf] at h
    injection h with h
    have h1 := List.find?_some hf
    exact ⟨b, List.mem_of_find?_eq_some hf, of_decide_eq_true h1, h⟩
theorem asc_dist {l : List Bd} (h : AscK (Prod.fst : Bd → By) l) : l.Pairwise fun a b => a.1 ≠ b.1 := h.imp (fun {a b} hab e => by rw [e, blt_irrefl] at hab; cases hab)
theorem okBd_at {nm : By → Bool} {s : List Bd} (h : vldB nm s = true) : s.length ≤ 1000 ∧ ∀ i, i < s.length → okBd nm s i = true := by
  unfold vldB at h
  rw [Bool.and_eq_true, decide_eq_true_eq, List.all_eq_true] at h
  exact ⟨h.1, fun i hi => h.2 i (List.mem_range.2 hi)⟩
theorem vldB_spec {nm : By → Bool} {s : List Bd} (h : vldB nm s = true) : s.length ≤ 1000 ∧ AscK (Prod.fst : Bd → By) s ∧ ∀ b ∈ s, nm b.1 = true ∧ nm b.2.1 = true ∧ wf nm b.2.2 = true ∧ (b.2.2.sort ≠ nul → b.2.2.sort = b.2.1 ∧ b.2.2.name ≠ b.1) := by
  obtain ⟨h1, h2⟩ := okBd_at h
  have hg : ∀ i (hi : i < s.length), okBd.bg' s i = s[i] := fun i hi => by unfold okBd.bg'; rw [List.getD_eq_getElem?_getD, List.getElem?_eq_getElem hi]; rfl
  have hp : ∀ i (hi : i < s.length), nm s[i].1 = true ∧ nm s[i].2.1 = true ∧ (i = 0 ∨ blt (okBd.bg' s (i - 1)).1 s[i].1 = true) ∧ wf nm s[i].2.2 = true ∧ (s[i].2.2.sort ≠ nul → s[i].2.2.sort = s[i].2.1 ∧ s[i].2.2.name ≠ s[i].1) := fun i hi => by
    have h3 := h2 i hi
    unfold okBd at h3
    rw [hg i hi] at h3
    simp only [Bool.and_eq_true, Bool.or_eq_true, decide_eq_true_eq, Bool.not_eq_true', decide_eq_false_iff_not] at h3
    obtain ⟨⟨⟨⟨a, b⟩, c⟩, d⟩, e⟩ := h3
    exact ⟨a, b, c, d, fun hs => e.resolve_left hs⟩
  refine ⟨h1, ?_, fun b hb => ?_⟩
  · have hstep : ∀ i, i + 1 < s.length → blt (okBd.bg' s i).1 (okBd.bg' s (i + 1)).1 = true := fun i hi => by
      have := (hp (i + 1) hi).2.2.1
      rw [hg (i + 1) hi]
      exact this.resolve_left (by omega)
    have hlt : ∀ d i, i + d + 1 < s.length → blt (okBd.bg' s i).1 (okBd.bg' s (i + d + 1)).1 = true := by
      intro d
      induction d with
      | zero => intro i hi; exact hstep i hi
      | succ d ih =>
        intro i hi
        exact blt_trans (ih i (by omega)) (hstep (i + d + 1) (by omega))
    unfold AscK
    rw [List.pairwise_iff_getElem]
    intro i j hi hj hij
    have := hlt (j - i - 1) i (by omega)
    rw [show i + (j - i - 1) + 1 = j by omega, hg i hi, hg j hj] at this
    exact this
  · obtain ⟨i, hi, rfl⟩ := List.getElem_of_mem hb
    obtain ⟨a, b, _, d, e⟩ := hp i hi
    exact ⟨a, b, d, e⟩
theorem vldB_mk {nm : By → Bool} {s : List Bd} (h1 : s.length ≤ 1000) (h2 : AscK (Prod.fst : Bd → By) s) (h3 : ∀ b ∈ s, nm b.1 = true ∧ nm b.2.1 = true ∧ wf nm b.2.2 = true ∧ (b.2.2.sort ≠ nul → b.2.2.sort = b.2.1 ∧ b.2.2.name ≠ b.1)) : vldB nm s = true := by
  unfold vldB
  rw [Bool.and_eq_true, decide_eq_true_eq, List.all_eq_true]
  refine ⟨h1, fun i hi => ?_⟩
  have hi := List.mem_range.1 hi
  have hg : ∀ i (hi : i < s.length), okBd.bg' s i = s[i] := fun i hi => by unfold okBd.bg'; rw [List.getD_eq_getElem?_getD, List.getElem?_eq_getElem hi]; rfl
  obtain ⟨a, b, c, d⟩ := h3 _ (List.getElem_mem hi)
  unfold okBd
  rw [hg i hi]
  simp only [Bool.and_eq_true, Bool.or_eq_true, decide_eq_true_eq, Bool.not_eq_true', decide_eq_false_iff_not]
  refine ⟨⟨⟨⟨a, b⟩, ?_⟩, c⟩, ?_⟩
  · by_cases h0 : i = 0
    · exact .inl h0
    · refine .inr ?_
      rw [hg (i - 1) (by omega)]
      unfold AscK at h2
      rw [List.pairwise_iff_getElem] at h2
      exact h2 (i - 1) i (by omega) hi (by omega)
  · by_cases hs : s[i].2.2.sort = nul
    · exact .inl hs
    · exact .inr (d hs)
end Go.Hw

/- A range over a map: the names that are done. -/
namespace Go.Hw
open Go.RowKit Go.ChangeMaps
set_option linter.unusedVariables false
set_option linter.unusedSimpArgs false
def NmE (es : List MapEntry) (N : List ByteArray) : Prop := es.map (·.key) = N.map Value.string
theorem NmE.of {es : List MapEntry} {l : List (ByteArray × Value)} (h : es.map (fun e => (e.key, e.val)) = l.map (fun p => (Value.string p.1, p.2))) : NmE es (l.map (·.1)) := by
  have := congrArg (List.map Prod.fst) h
  unfold NmE
  rw [List.map_map, List.map_map] at this
  rw [List.map_map]
  exact this
theorem NmE.name {es : List MapEntry} {N : List ByteArray} (h : NmE es N) {e : MapEntry} (he : e ∈ es) : ∃ n ∈ N, e.key = .string n := by
  have h1 : e.key ∈ N.map Value.string := by rw [← h]; exact List.mem_map.2 ⟨e, he, rfl⟩
  obtain ⟨n, hn, h2⟩ := List.mem_map.1 h1
  exact ⟨n, hn, h2.symm⟩
theorem NmE.ent {es : List MapEntry} {N : List ByteArray} (h : NmE es N) {n : ByteArray} (hn : n ∈ N) : ∃ e ∈ es, e.key = .string n := by
  have h1 : Value.string n ∈ es.map (·.key) := by rw [h]; exact List.mem_map.2 ⟨n, hn, rfl⟩
  obtain ⟨e, he, h2⟩ := List.mem_map.1 h1
  exact ⟨e, he, h2⟩
theorem NmE.uniq {es : List MapEntry} {N : List ByteArray} (h : NmE es N) (hd : N.Nodup) {x y : MapEntry} (hx : x ∈ es) (hy : y ∈ es) (hk : x.key = y.key) : x = y := by
  have hnd : (es.map (·.key)).Nodup := by
    rw [h]
    exact List.Pairwise.map _ (fun a b hab e => hab (by injection e)) hd
  obtain ⟨i, hi, rfl⟩ := List.getElem_of_mem hx
  obtain ⟨j, hj, rfl⟩ := List.getElem_of_mem hy
  have hij := (List.pairwise_iff_getElem.1 hnd)
  rcases Nat.lt_trichotomy i j with h2 | h2 | h2
  · exact absurd (by rw [List.getElem_map, List.getElem_map]; exact hk) (hij i j (by simpa using hi) (by simpa using hj) h2)
  · subst h2; rfl
  · exact absurd (by rw [List.getElem_map, List.getElem_map]; exact hk.symm) (hij j i (by simpa using hj) (by simpa using hi) h2)
theorem contains_push' (s : Array Nat) (n k : Nat) : (s.push n).contains k = (s.contains k || (k == n)) := by
  rw [Array.contains_push]
  try (cases s.contains k <;> cases (k == n) <;> rfl)
structure SnI (es : List MapEntry) (seen : Array Nat) (D : List ByteArray) : Prop where
  dn : D.Nodup
  sub : ∀ n ∈ D, ∃ e ∈ es, e.key = .string n ∧ seen.contains e.born = true
  all : ∀ e ∈ es, seen.contains e.born = true → ∃ n ∈ D, e.key = .string n
theorem SnI.start (es : List MapEntry) : SnI es #[] [] := ⟨List.nodup_nil, fun n h => (by cases h), fun e _ h => (by simp at h)⟩
theorem SnI.next {es : List MapEntry} {seen : Array Nat} {D N : List ByteArray} (hm : NmE es N) (hd : N.Nodup) (hn : (es.map (·.born)).Nodup) (h : SnI es seen D) {e : MapEntry} (he : e ∈ es) (hs : seen.contains e.born = false) {n : ByteArray} (hk : e.key = .string n) : SnI es (seen.push e.born) (D ++ [n]) := by
  refine ⟨?_, fun m hm2 => ?_, fun x hx hsx => ?_⟩
  · rw [List.nodup_append]
    refine ⟨h.dn, by simp, fun a ha b hb e2 => ?_⟩
    rw [List.mem_singleton] at hb
    subst hb
    subst e2
    obtain ⟨x, hx, hkx, c⟩ := h.sub a ha
    have hxe : x = e := hm.uniq hd hx he (by rw [hkx, hk])
    rw [hxe, hs] at c
    cases c
  · rcases List.mem_append.1 hm2 with hm2 | hm2
    · obtain ⟨x, hx, a, b⟩ := h.sub m hm2
      exact ⟨x, hx, a, by rw [contains_push', b]; rfl⟩
    · rw [List.mem_singleton] at hm2
      subst hm2
      exact ⟨e, he, hk, by rw [contains_push', beq_self_eq_true, Bool.or_true]⟩
  · rw [contains_push', Bool.or_eq_true, beq_iff_eq] at hsx
    rcases hsx with hsx | hsx
    · obtain ⟨m, h1, h2⟩ := h.all x hx hsx
      exact ⟨m, List.mem_append_left _ h1, h2⟩
    · have hxe : x = e := born_inj hn hx he hsx
      rw [hxe]
      exact ⟨n, List.mem_append_right _ (List.mem_singleton.2 rfl), hk⟩
theorem SnI.fin {es : Array MapEntry} {seen : Array Nat} {D N : List ByteArray} (hm : NmE es.toList N) (h : SnI es.toList seen D) (h0 : (leftOf es seen).size = 0) : ∀ n, n ∈ D ↔ n ∈ N := fun n =>
  ⟨fun hn => by
    obtain ⟨e, he, hk, _⟩ := h.sub n hn
    obtain ⟨m, hm2, hk2⟩ := hm.name he
    rw [hk] at hk2
    injection hk2 with hk2
    rw [hk2]; exact hm2, fun hn => by
    obtain ⟨e, he, hk⟩ := hm.ent hn
    obtain ⟨m, hm2, hk2⟩ := h.all e he (all_seen es seen h0 e he)
    rw [hk] at hk2
    injection hk2 with hk2
    rw [hk2]; exact hm2⟩
theorem SnI.sub' {es : List MapEntry} {seen : Array Nat} {D N : List ByteArray} (hm : NmE es N) (h : SnI es seen D) : ∀ n ∈ D, n ∈ N := fun n hn => by
  obtain ⟨e, he, hk, _⟩ := h.sub n hn
  obtain ⟨m, hm2, hk2⟩ := hm.name he
  rw [hk] at hk2
  injection hk2 with hk2
  rw [hk2]; exact hm2
theorem SnI.alike {es es' : List MapEntry} {seen : Array Nat} {D : List ByteArray} (h : SnI es seen D) (he : es.map (fun e => (e.key, e.born)) = es'.map (fun e => (e.key, e.born))) : SnI es' seen D := by
  have h1 : ∀ e' ∈ es', ∃ e ∈ es, e.key = e'.key ∧ e.born = e'.born := fun e' h' => by
    have : (e'.key, e'.born) ∈ es.map (fun e => (e.key, e.born)) := by rw [he]; exact List.mem_map.2 ⟨e', h', rfl⟩
    obtain ⟨e, h2, h3⟩ := List.mem_map.1 this
    injection h3 with h4 h5
    exact ⟨e, h2, h4, h5⟩
  have h2 : ∀ e ∈ es, ∃ e' ∈ es', e'.key = e.key ∧ e'.born = e.born := fun e h' => by
    have : (e.key, e.born) ∈ es'.map (fun e => (e.key, e.born)) := by rw [← he]; exact List.mem_map.2 ⟨e, h', rfl⟩
    obtain ⟨e, h2, h3⟩ := List.mem_map.1 this
    injection h3 with h4 h5
    exact ⟨e, h2, h4, h5⟩
  refine ⟨h.dn, fun n hn => ?_, fun e' h' hs => ?_⟩
  · obtain ⟨e, h3, hk, hs⟩ := h.sub n hn
    obtain ⟨e', h4, h5, h6⟩ := h2 e h3
    exact ⟨e', h4, h5.trans hk, by rw [h6]; exact hs⟩
  · obtain ⟨e, h3, h4, h5⟩ := h1 e' h'
    obtain ⟨n, hn, hk⟩ := h.all e h3 (by rw [h5]; exact hs)
    exact ⟨n, hn, h4.symm.trans hk⟩
end Go.Hw

/- A drawn region walked once, as in L4: and the blocks that its operations make are told apart. -/
namespace Go.Hw.PF
open Go.RowKit Go.Hw
set_option linter.unusedVariables false
set_option linter.unusedSimpArgs false

section
variable {P : Program} {ops : Array Oper} {Q : Exit → Act → World → Prop} {α : Type} {w0 : World} {Qt : Act → World → Prop} {dp : Nat → List Nat} {n : Nat} {md : Region.Mode} {fl : List Nat} {snk : Nat}

structure Ann (α : Type) where
  val : α → Value
  R : α → World → Prop
  st : ∀ x W W', R x W → Ext W W' → R x W'
  f : α → Option Nat
  lt : ∀ x W k, R x W → f x = some k → k < W.heap.size

variable {ann : Nat → Option (Ann α)}
abbrev Fct := Nat × Option Nat × (World → Prop)
def Apt (G : List Fct) : Prop := G.Pairwise fun g h => ∀ k, g.2.1 = some k → h.2.1 ≠ some k
def Can (P : Program) (ops : Array Oper) (Qt : Act → World → Prop) (w0 : World) (dp : Nat → List Nat) (ann : Nat → Option (Ann α)) : List Oper → Nat → List Fct → Act → Prop
  | [], _, G, a => ∀ W, Ext w0 W → (∀ g ∈ G, g.2.2 W) → Apt G → Qt a W
  | o :: r, i, G, a => match ann i with
    | none => if Region.wanted o (yielded ops a.tmps) then ∃ v, (∀ W, Ext w0 W → (∀ g ∈ G, g.1 ∈ dp i → g.2.2 W) → (execOp a.eval o).run P W = .ok (.value v) W) ∧ Can P ops Qt w0 dp ann r (i + 1) G (a.put o.dst v)
        else Can P ops Qt w0 dp ann r (i + 1) G (a.put o.dst undef)
    | some A => Region.wanted o (yielded ops a.tmps) = true ∧
        (∀ W, Ext w0 W → (∀ g ∈ G, g.1 ∈ dp i → g.2.2 W) → ∀ K : Act → World → Prop, (∀ x W', Ext W W' → A.R x W' → (∀ k, A.f x = some k → W.heap.size ≤ k) → K (a.put o.dst (A.val x)) W') → o.wp P a W K (fun _ _ _ => False)) ∧
        ∀ x, Can P ops Qt w0 dp ann r (i + 1) (G ++ [(i, A.f x, A.R x)]) (a.put o.dst (A.val x))

def FactAt (P : Program) (ops : Array Oper) (w0 : World) (dp : Nat → List Nat) (ann : Nat → Option (Ann α)) (X : Nat → α) (V : Nat → Value) (i : Nat) (o : Oper) (a : Act) : Prop :=
  match ann i with
  | none => (Region.wanted o (yielded ops a.tmps) = true → ∀ W, Ext w0 W → (∀ j A, j < i → j ∈ dp i → ann j = some A → A.R (X j) W) → (execOp a.eval o).run P W = .ok (.value (V i)) W) ∧
      (Region.wanted o (yielded ops a.tmps) = false → V i = undef)
  | some A => Region.wanted o (yielded ops a.tmps) = true ∧ V i = A.val (X i) ∧
      ∀ W, Ext w0 W → (∀ j A, j < i → j ∈ dp i → ann j = some A → A.R (X j) W) → ∀ K : Act → World → Prop, (∀ x W', Ext W W' → A.R x W' → (∀ k, A.f x = some k → W.heap.size ≤ k) → K (a.put o.dst (A.val x)) W') → o.wp P a W K (fun _ _ _ => False)

def Good (P : Program) (ops : Array Oper) (Qt : Act → World → Prop) (w0 : World) (dp : Nat → List Nat) (ann : Nat → Option (Ann α)) (X : Nat → α) (V : Nat → Value) : List Oper → Nat → Act → Prop
  | [], k, a => ∀ W, Ext w0 W → (∀ j A, j < k → ann j = some A → A.R (X j) W) → (∀ i j A B, i < k → j < k → i ≠ j → ann i = some A → ann j = some B → ∀ b, A.f (X i) = some b → B.f (X j) ≠ some b) → Qt a W
  | o :: r, k, a => FactAt P ops w0 dp ann X V k o a ∧ Good P ops Qt w0 dp ann X V r (k + 1) (a.put o.dst (V k))

theorem FactAt.congr {X : Nat → α} {V V' : Nat → Value} {i : Nat} {o : Oper} {a : Act} (h : V i = V' i) (hf : FactAt P ops w0 dp ann X V i o a) : FactAt P ops w0 dp ann X V' i o a := by
  unfold FactAt at *
  rw [← h]; exact hf
theorem Good.congr {X : Nat → α} {V V' : Nat → Value} : ∀ (r : List Oper) (k : Nat) (a : Act), (∀ j, k ≤ j → V j = V' j) → Good P ops Qt w0 dp ann X V r k a → Good P ops Qt w0 dp ann X V' r k a
  | [], _, _, _, h => h
  | o :: r, k, a, he, h => ⟨h.1.congr (he k (Nat.le_refl _)), by rw [← he k (Nat.le_refl _)]; exact Good.congr r (k + 1) _ (fun j hj => he j (by omega)) h.2⟩

theorem good_of_can (X : Nat → α) : ∀ (r : List Oper) (k : Nat) (G : List Fct) (a : Act), Can P ops Qt w0 dp ann r k G a →
    (∀ g ∈ G, ∃ A, ann g.1 = some A ∧ g.1 < k ∧ g.2 = (A.f (X g.1), A.R (X g.1))) → G.Pairwise (fun g h => g.1 ≠ h.1) → ∃ V, Good P ops Qt w0 dp ann X V r k a
  | [], k, G, a, h, hG, hN => ⟨fun _ => undef, fun W hW hR hD => h W hW (fun g hg => by obtain ⟨A, h1, h2, h3⟩ := hG g hg; rw [h3]; exact hR _ _ h2 h1) (by
      unfold Apt
      refine List.Pairwise.imp_of_mem (fun {g g'} hg hg' hne b e1 e2 => ?_) hN
      obtain ⟨A, h1, h2, h3⟩ := hG g hg
      obtain ⟨A', h1', h2', h3'⟩ := hG g' hg'
      rw [h3] at e1
      rw [h3'] at e2
      exact hD _ _ A A' h2 h2' hne h1 h1' b e1 e2)⟩
  | o :: r, k, G, a, h, hG, hN => by
    have hH : ∀ W, (∀ j A, j < k → j ∈ dp k → ann j = some A → A.R (X j) W) → ∀ g ∈ G, g.1 ∈ dp k → g.2.2 W := fun W hR g hg hd => by
      obtain ⟨A, h1, h2, h3⟩ := hG g hg
      rw [h3]; exact hR _ _ h2 hd h1
    unfold Can at h
    have hG' : ∀ g ∈ G, ∃ A, ann g.1 = some A ∧ g.1 < k + 1 ∧ g.2 = (A.f (X g.1), A.R (X g.1)) := fun g hg => by
      obtain ⟨A, h1, h2, h3⟩ := hG g hg
      exact ⟨A, h1, by omega, h3⟩
    cases ha : ann k with
    | none =>
      rw [ha] at h
      simp only at h
      by_cases hw : Region.wanted o (yielded ops a.tmps) = true
      · rw [if_pos hw] at h
        obtain ⟨v, hv, h⟩ := h
        obtain ⟨V, hV⟩ := good_of_can X r (k + 1) G _ h hG' hN
        refine ⟨fun j => if j = k then v else V j, ?_, ?_⟩
        · unfold FactAt
          rw [ha]
          simp only [if_true]
          exact ⟨fun _ W hW hR => hv W hW (hH W hR), fun h => by rw [hw] at h; cases h⟩
        · rw [show (fun j => if j = k then v else V j) k = v from if_pos rfl]
          exact hV.congr _ _ _ (fun j hj => by rw [if_neg (by omega)])
      · rw [if_neg hw] at h
        obtain ⟨V, hV⟩ := good_of_can X r (k + 1) G _ h hG' hN
        refine ⟨fun j => if j = k then undef else V j, ?_, ?_⟩
        · unfold FactAt
          rw [ha]
          simp only [if_true]
          exact ⟨fun h => absurd h hw, fun _ => trivial⟩
        · rw [show (fun j => if j = k then undef else V j) k = undef from if_pos rfl]
          exact hV.congr _ _ _ (fun j hj => by rw [if_neg (by omega)])
    | some A =>
      rw [ha] at h
      simp only at h
      obtain ⟨hw, hm, h⟩ := h
      obtain ⟨V, hV⟩ := good_of_can X r (k + 1) _ _ (h (X k)) (fun g hg => by
        rcases List.mem_append.1 hg with h1 | h1
        · exact hG' g h1
        · simp only [List.mem_singleton] at h1
          subst h1
          exact ⟨A, ha, Nat.lt_succ_self _, rfl⟩) (List.pairwise_append.2 ⟨hN, List.pairwise_singleton _ _, fun g hg g' hg' e => by
        rw [List.mem_singleton] at hg'
        subst hg'
        obtain ⟨_, _, h2, _⟩ := hG g hg
        simp only at e
        omega⟩)
      refine ⟨fun j => if j = k then A.val (X k) else V j, ?_, ?_⟩
      · unfold FactAt
        rw [ha]
        simp only [if_true]
        exact ⟨hw, trivial, fun W hW hR K hK => hm W hW (hH W hR) K hK⟩
      · rw [show (fun j => if j = k then A.val (X k) else V j) k = A.val (X k) from if_pos rfl]
        exact hV.congr _ _ _ (fun j hj => by rw [if_neg (by omega)])

theorem Good.at {X : Nat → α} {V : Nat → Value} : ∀ (r : List Oper) (k : Nat) (a : Act), Good P ops Qt w0 dp ann X V r k a → ∀ i o, r[i]? = some o → FactAt P ops w0 dp ann X V (k + i) o (frL V (r.take i) k a)
  | [], _, _, _, i, o, h => by simp at h
  | p :: r, k, a, h, 0, o, ho => by simp at ho; subst ho; exact h.1
  | p :: r, k, a, h, i + 1, o, ho => by
    rw [List.getElem?_cons_succ] at ho
    have := Good.at r (k + 1) _ h.2 i o ho
    rw [show k + (i + 1) = k + 1 + i by omega]
    exact this
theorem Good.fin {X : Nat → α} {V : Nat → Value} : ∀ (r : List Oper) (k : Nat) (a : Act), Good P ops Qt w0 dp ann X V r k a → ∀ W, Ext w0 W → (∀ j A, j < k + r.length → ann j = some A → A.R (X j) W) → (∀ i j A B, i < k + r.length → j < k + r.length → i ≠ j → ann i = some A → ann j = some B → ∀ b, A.f (X i) = some b → B.f (X j) ≠ some b) → Qt (frL V r k a) W
  | [], _, _, h, W, hW, hR, hD => h W hW hR hD
  | p :: r, k, a, h, W, hW, hR, hD => Good.fin r (k + 1) _ h.2 W hW (fun j A hj => hR j A (by simp only [List.length_cons]; omega)) (fun i j A B hi hj => hD i j A B (by simp only [List.length_cons]; omega) (by simp only [List.length_cons]; omega))
theorem Good.same {sz : Nat} {an : Nat → Bool} {tail : List (Nat × Nat)} (hp : ParS ops n sz dp an tail fl snk) {a0 : Act} {l : Array Bool} (hd : Deps .any ops l) (hsz : a0.tmps.size = sz) {X X' : Nat → α} {V V' : Nat → Value}
    (hV : Good P ops Qt w0 dp ann X V (ops.toList.take n) 0 a0) (hV' : Good P ops Qt w0 dp ann X' V' (ops.toList.take n) 0 a0) (hX : ∀ j, j < n → l.getD j false = true → X' j = X j)
    {W : World} (hW : Ext w0 W) (hR : ∀ j A, j < n → l.getD j false = true → ann j = some A → A.R (X j) W) : ∀ j, j < n → l.getD j false = true → V' j = V j := by
  intro j
  induction j using Nat.strongRecOn with
  | _ j ih =>
    intro hj hl
    have hjs : j < ops.size := Nat.lt_of_lt_of_le hj hp.le
    have ho : ops[j]? = some ops[j] := Array.getElem?_eq_getElem hjs
    have hot : (ops.toList.take n)[j]? = some ops[j] := by rw [List.getElem?_take_of_lt hj]; simp
    have hall : ∀ e ∈ ops[j].after, Region.binds .any e = true → l.getD e.on false = true := fun e he hb => hd.back j _ ho hl e he hb
    have f1 := hV.at _ _ _ j _ hot
    have f2 := hV'.at _ _ _ j _ hot
    rw [Nat.zero_add] at f1 f2
    rw [List.take_take, Nat.min_eq_left (Nat.le_of_lt hj)] at f1 f2
    have hclo := hp.closed hd j _ ho hall
    have hsame : ∀ t ∈ ops[j].looksAt ops, (frL V (ops.toList.take j) 0 a0).tmps[t]? = (frL V' (ops.toList.take j) 0 a0).tmps[t]? := by
      intro t ht
      by_cases hx : ∃ k p, k < j ∧ ops[k]? = some p ∧ p.dst = some t
      · obtain ⟨k, p, hk, hpk, hdk⟩ := hx
        have hkn : k < n := by omega
        have hkl : l.getD k false = true := by
          obtain ⟨e, he, hb, hon⟩ := hp.reads j k _ p t hj hkn ho hpk ht hdk
          have := hall e he hb
          rw [hon] at this; exact this
        have hu : ∀ (i : Nat) q, (ops.toList.take j)[i]? = some q → q.dst = some t → i = k := fun i q hq hqd => by
          have hi : i < j := by
            have := (List.getElem?_eq_some_iff.1 hq).1
            rw [List.length_take] at this; omega
          rw [List.getElem?_take_of_lt hi] at hq
          exact hp.uniq k i p q t hkn (by omega) hpk (by simpa using hq) hdk hqd
        have hk2 : (ops.toList.take j)[k]? = some p := by rw [List.getElem?_take_of_lt hk]; simpa using hpk
        rw [frL_in V t _ 0 a0 k p hk2 hdk (by rw [hsz]; exact hp.dst _ _ _ hkn hpk hdk) hu, frL_in V' t _ 0 a0 k p hk2 hdk (by rw [hsz]; exact hp.dst _ _ _ hkn hpk hdk) hu, Nat.zero_add, ih k hk hkn hkl]
      · have hno : ∀ (k : Nat) p, (ops.toList.take j)[k]? = some p → p.dst ≠ some t := fun k p hpk hdk => by
          have hk : k < j := by
            have := (List.getElem?_eq_some_iff.1 hpk).1
            rw [List.length_take] at this; omega
          rw [List.getElem?_take_of_lt hk] at hpk
          exact hx ⟨k, p, hk, by simpa using hpk, hdk⟩
        rw [frL_out V t _ 0 a0 hno, frL_out V' t _ 0 a0 hno]
    obtain ⟨s1, s2⟩ := same_at (ops := ops) (fun cs b => Region.noSelect_spec hp.nosel j _ cs b ho) hsame
    unfold FactAt at f1 f2
    cases ha : ann j with
    | none =>
      rw [ha] at f1 f2
      simp only at f1 f2
      cases hw : Region.wanted ops[j] (yielded ops (frL V (ops.toList.take j) 0 a0).tmps) with
      | true =>
        have r1 := f1.1 hw W hW (fun k A hk hdk hak => hR k A (by omega) (hclo k hdk) hak)
        have r2 := f2.1 (by rw [← s2]; exact hw) W hW (fun k A hk hdk hak => by rw [hX k (by omega) (hclo k hdk)]; exact hR k A (by omega) (hclo k hdk) hak)
        rw [← s1, r1] at r2
        injection r2 with r2
        injection r2 with r2
        exact r2.symm
      | false => rw [f1.2 hw, f2.2 (by rw [← s2]; exact hw)]
    | some A =>
      rw [ha] at f1 f2
      simp only at f1 f2
      rw [f1.2.1, f2.2.1, hX j hj hl]
theorem mix_floats {sz : Nat} {an : Nat → Bool} {tail : List (Nat × Nat)} {l0 : List Oper} (hp : ParS l0.toArray n sz dp an tail fl snk) (han : ∀ i, (ann i).isSome = an i) {a0 : Act} (hsz : a0.tmps.size = sz) {W : World} (hW : Ext w0 W) {X : Nat → α} {V : Nat → Value}
    (hV : Good P l0.toArray (fun a W => wpMix P l0.toArray Q (fun _ => True) (pickO l0 tail) a W) w0 dp ann X V (l0.take n) 0 a0) (hR : ∀ j A, j < n → ann j = some A → A.R (X j) W) (hD : ∀ i j A B, i < n → j < n → i ≠ j → ann i = some A → ann j = some B → ∀ b, A.f (X i) = some b → B.f (X j) ≠ some b) :
    ∀ (U : List Nat) (l : Array Bool) (b : Act), Deps .any l0.toArray l → (∀ j ∈ U, j < n ∧ fl.contains j = true) → (∀ j, j < n → l.getD j false = false → j ∈ U) →
      mixB .any l0.toArray snk (U.map (fun k => (k, 0)) ++ tail) l = true → FrS l0.toArray n a0 l V b → wpMix P l0.toArray Q (fun _ => True) (pickO l0 (U.map (fun k => (k, 0)) ++ tail)) b W := by
  intro U
  induction U with
  | nil =>
    intro l b hd _ hU _ hF
    have hall : ∀ j, j < n → l.getD j false = true := fun j hj => by
      cases h : l.getD j false with
      | true => rfl
      | false => cases hU j hj h
    have hb := hF.all hp hsz hall
    have hfin := hV.fin _ _ _ W hW (fun j A hj ha => hR j A (by simp at hj; omega) ha) (fun i j A B hi hj => hD i j A B (by simp at hi; omega) (by simp at hj; omega))
    rw [hb]
    exact hfin
  | cons i U ih =>
    intro l b hd hUn hU hB hF
    simp only [List.map_cons, List.cons_append] at hB ⊢
    simp only [mixB, Bool.and_eq_true, decide_eq_true_eq, Bool.not_eq_true'] at hB
    obtain ⟨⟨⟨⟨hi, _⟩, _⟩, _⟩, hB⟩ := hB
    have hi : i ∈ Region.ready .any l0.toArray l := by simpa using hi
    obtain ⟨hin, hfl⟩ := hUn i (List.mem_cons_self)
    obtain ⟨hun, o, ho, hall⟩ := mem_ready.1 hi
    have ho' : l0[i]? = some o := by simpa using ho
    obtain ⟨hfo, hann⟩ := hp.flo i o hin hfl ho
    have hclo := hp.closed hd i o ho hall
    have hot : (l0.take n)[i]? = some o := by rw [List.getElem?_take_of_lt hin]; simpa using ho
    have fa := hV.at _ _ _ i _ hot
    rw [Nat.zero_add, List.take_take, Nat.min_eq_left (Nat.le_of_lt hin)] at fa
    have hlook := hF.look hp hsz hin ho hall
    obtain ⟨s1, s2⟩ := same_at (ops := l0.toArray) (fun cs b => Region.noSelect_spec hp.nosel i _ cs b ho) hlook
    have s1 : execOp (frL V (l0.take i) 0 a0).eval o = execOp b.eval o := s1
    have s2 : Region.wanted o (yielded l0.toArray (frL V (l0.take i) 0 a0).tmps) = Region.wanted o (yielded l0.toArray b.tmps) := s2
    have ha : ann i = none := by
      have := han i
      rw [hann] at this
      cases h : ann i with
      | none => rfl
      | some A => rw [h] at this; cases this
    unfold FactAt at fa
    rw [ha] at fa
    simp only at fa
    have hnext := ih (l.setIfInBounds i true) (b.put o.dst (V i)) (hd.step hi) (fun j hj => hUn j (List.mem_cons_of_mem _ hj)) (fun j hj hl => by
      by_cases e : i = j
      · subst e
        exfalso
        have his : i < l.size := by rw [hd.size]; exact (Array.getElem?_eq_some_iff.1 ho).1
        simp [his] at hl
      · rw [getD_set_ne false e] at hl
        rcases List.mem_cons.1 (hU j hj hl) with h | h
        · exact absurd h.symm e
        · exact h) hB (hF.step hp hsz hin ho (fun _ _ _ => rfl))
    simp only [pickO, ho', wpMix]
    cases hw : Region.wanted o (yielded l0.toArray b.tmps) with
    | true =>
      rw [if_pos rfl]
      have hr := fa.1 (by rw [s2]; exact hw) W hW (fun j A hj hdj haj => hR j A (by omega) haj)
      rw [s1] at hr
      exact ⟨V i, fun W' _ => float_run hfo hr W', hnext⟩
    | false =>
      rw [if_neg (by simp)]
      have hv := fa.2 (by rw [s2]; exact hw)
      rw [← hv]
      exact hnext
theorem par_fin {sz : Nat} {an : Nat → Bool} {tail : List (Nat × Nat)} {l0 : List Oper} (hp : ParS l0.toArray n sz dp an tail fl snk) (han : ∀ i, (ann i).isSome = an i)
    (hQ : ∀ c a d v w, Q (.panic c) (Act.put a d v) w → Q (.panic c) a w) {a0 : Act} (hsz : a0.tmps.size = sz) {f : Nat} {l : Array Bool} {b : Act} {W : World} {X : Nat → α} {V : Nat → Value} (hd : Deps .any l0.toArray l) (hout : ∀ j, n ≤ j → l.getD j false = false) (hW : Ext w0 W)
    (hR : ∀ j A, j < n → l.getD j false = true → ann j = some A → A.R (X j) W) (hD : ∀ i j A B, i < n → j < n → l.getD i false = true → l.getD j false = true → i ≠ j → ann i = some A → ann j = some B → ∀ b, A.f (X i) = some b → B.f (X j) ≠ some b)
    (hV : Good P l0.toArray (fun a W => wpMix P l0.toArray Q (fun _ => True) (pickO l0 tail) a W) w0 dp ann X V (l0.take n) 0 a0)
    (hF : FrS l0.toArray n a0 l V b) (hall : ∀ j, j < n → fl.contains j = false → l.getD j false = true) (hf : remN n l + tail.length ≤ f) : wpAny P .any l0.toArray Q f l b W := by
  have hUf : ∀ j ∈ ((List.range n).filter fun j => !l.getD j false), j < n ∧ fl.contains j = true := fun j hj => by
    obtain ⟨h1, h2⟩ := List.mem_filter.1 hj
    have h1 := List.mem_range.1 h1
    refine ⟨h1, ?_⟩
    cases hc : fl.contains j with
    | true => rfl
    | false => have := hall j h1 hc; rw [this] at h2; cases h2
  have hUs : ((List.range n).filter fun j => !l.getD j false) ∈ subs ((List.range n).filter fun j => fl.contains j) := by
    have := filter_subs (fun j => !l.getD j false) ((List.range n).filter fun j => fl.contains j)
    rw [List.filter_filter] at this
    have e : ((List.range n).filter fun j => !l.getD j false) = ((List.range n).filter fun j => (!l.getD j false) && fl.contains j) := by
      apply List.filter_congr
      intro j hj
      cases hl : l.getD j false with
      | true => rfl
      | false =>
        have := hUf j (List.mem_filter.2 ⟨hj, by rw [hl]; rfl⟩)
        rw [this.2]; rfl
    rw [e]; exact this
  have hm := hp.mix _ hUs
  have hl : l = Array.ofFn (n := l0.toArray.size) fun j => decide (j.val < n) && !((List.range n).filter fun j => !l.getD j false).contains j.val := by
    apply Array.ext
    · simp [hd.size]
    · intro j h1 h2
      rw [Array.getElem_ofFn]
      have hg : l.getD j false = l[j] := by rw [Array.getD_eq_getD_getElem?, Array.getElem?_eq_getElem h1]; rfl
      by_cases hj : j < n
      · simp only [hj, decide_true, Bool.true_and]
        rw [← hg]
        cases h : l.getD j false with
        | true => simp [h, -Array.getD_eq_getD_getElem?]
        | false => simp [h, hj, -Array.getD_eq_getD_getElem?]
      · have := hout j (by omega)
        rw [← hg, this]
        simp [hj]
  rw [← hl] at hm
  have hlen : (((List.range n).filter fun j => !l.getD j false).map (fun k => (k, 0)) ++ tail).length ≤ f := by
    rw [List.length_append, List.length_map]
    exact hf
  have hAl : ∀ j A, j < n → ann j = some A → l.getD j false = true := fun j A hj ha => by
    refine hall j hj ?_
    cases hc : fl.contains j with
    | false => rfl
    | true =>
      have hjs : j < l0.toArray.size := Nat.lt_of_lt_of_le hj hp.le
      have := (hp.flo j _ hj hc (Array.getElem?_eq_getElem hjs)).2
      rw [← han, ha] at this; cases this
  have hR2 : ∀ j A, j < n → ann j = some A → A.R (X j) W := fun j A hj ha => hR j A hj (hAl j A hj ha) ha
  have hD2 : ∀ i j A B, i < n → j < n → i ≠ j → ann i = some A → ann j = some B → ∀ b, A.f (X i) = some b → B.f (X j) ≠ some b := fun i j A B hi hj hne ha hb => hD i j A B hi hj (hAl i A hi ha) (hAl j B hj hb) hne ha hb
  have h2 := mix_floats (Q := Q) hp han hsz hW hV hR2 hD2 _ l b hd hUf (fun j hj h => List.mem_filter.2 ⟨List.mem_range.2 hj, by rw [h]; rfl⟩) hm hF
  have h3 := wpTill_of_mix (P := P) (S := fun _ => True) (n := snk) hp.nosel hp.sink hQ _ l b W hd (.inl trivial) hm h2
  exact wpAny_le hlen (wpAny_of_till _ _ _ _ h3)
theorem par_sound {sz : Nat} {an : Nat → Bool} {tail : List (Nat × Nat)} {l0 : List Oper} [Inhabited α] (hp : ParS l0.toArray n sz dp an tail fl snk) (han : ∀ i, (ann i).isSome = an i)
    (hQ : ∀ c a d v w, Q (.panic c) (Act.put a d v) w → Q (.panic c) a w) {a0 : Act} (hsz : a0.tmps.size = sz)
    (hC : Can P l0.toArray (fun a W => wpMix P l0.toArray Q (fun _ => True) (pickO l0 tail) a W) w0 dp ann (l0.take n) 0 [] a0) :
    ∀ (f : Nat) (l : Array Bool) (b : Act) (W : World) (X : Nat → α) (V : Nat → Value), Deps .any l0.toArray l → (∀ j, n ≤ j → l.getD j false = false) → Ext w0 W →
      (∀ j A, j < n → l.getD j false = true → ann j = some A → A.R (X j) W) →
      (∀ i j A B, i < n → j < n → l.getD i false = true → l.getD j false = true → i ≠ j → ann i = some A → ann j = some B → ∀ b, A.f (X i) = some b → B.f (X j) ≠ some b) →
      Good P l0.toArray (fun a W => wpMix P l0.toArray Q (fun _ => True) (pickO l0 tail) a W) w0 dp ann X V (l0.take n) 0 a0 →
      FrS l0.toArray n a0 l V b → remN n l + tail.length ≤ f → wpAny P .any l0.toArray Q f l b W := by
  intro f
  induction f with
  | zero =>
    intro l b W X V hd hout hW hR hD hV hF hf
    have hr0 : remN n l = 0 := by omega
    have hall := remN_zero hr0
    exact par_fin hp han hQ hsz hd hout hW hR hD hV hF (fun j hj _ => hall j hj) hf
  | succ f ih =>
    intro l b W X V hd hout hW hR hD hV hF hf
    by_cases hr0 : ∀ j, j < n → fl.contains j = false → l.getD j false = true
    · exact par_fin hp han hQ hsz hd hout hW hR hD hV hF hr0 hf
    · have hund : ∃ j, j < n ∧ fl.contains j = false ∧ l.getD j false = false := by
        by_cases h : ∃ j, j < n ∧ fl.contains j = false ∧ l.getD j false = false
        · exact h
        · exfalso
          apply hr0
          intro j hj hfl
          cases hl : l.getD j false with
          | true => rfl
          | false => exact absurd ⟨j, hj, hfl, hl⟩ h
      refine ⟨fun hr => ?_, fun i hi => ?_⟩
      · exfalso
        obtain ⟨j0, hj0, _, hl0⟩ := hund
        have hmin : ∀ k, ∀ j, j ≤ k → j < n → l.getD j false = false → False := by
          intro k
          induction k using Nat.strongRecOn with
          | _ k ihk =>
            intro j hjk hj hl
            have hjs : j < l0.toArray.size := Nat.lt_of_lt_of_le hj hp.le
            have ho : l0.toArray[j]? = some l0.toArray[j] := Array.getElem?_eq_getElem hjs
            have hready : j ∈ Region.ready .any l0.toArray l := by
              rw [mem_ready]
              refine ⟨getD_tf (by rw [hd.size]; exact hjs) hl, _, ho, fun e he hb => ?_⟩
              have hlt := hp.lt j _ hj ho e he hb
              cases h : l.getD e.on false with
              | true => rfl
              | false => exact (ihk e.on (by omega) e.on (Nat.le_refl _) (by omega) h).elim
            rw [hr] at hready
            cases hready
        exact hmin j0 j0 (Nat.le_refl _) hj0 hl0
      · obtain ⟨hun, o, ho, hall⟩ := mem_ready.1 hi
        have his : i < l0.toArray.size := (Array.getElem?_eq_some_iff.1 ho).1
        have hclo := hp.closed hd i o ho hall
        have hin : i < n := by
          rcases Nat.lt_or_ge i n with h | h
          · exact h
          · exfalso
            obtain ⟨j, hj, hfl, hl⟩ := hund
            have := hclo j (hp.rest i j h his hj hfl)
            rw [hl] at this; cases this
        have hot : (l0.take n)[i]? = some o := by rw [List.getElem?_take_of_lt hin]; simpa using ho
        have fa := hV.at _ _ _ i _ hot
        rw [Nat.zero_add, List.take_take, Nat.min_eq_left (Nat.le_of_lt hin)] at fa
        have hlook := hF.look hp hsz hin ho hall
        obtain ⟨s1, s2⟩ := same_at (ops := l0.toArray) (fun cs b => Region.noSelect_spec hp.nosel i _ cs b ho) hlook
        have s1 : execOp (frL V (l0.take i) 0 a0).eval o = execOp b.eval o := s1
        have s2 : Region.wanted o (yielded l0.toArray (frL V (l0.take i) 0 a0).tmps) = Region.wanted o (yielded l0.toArray b.tmps) := s2
        have hout' : ∀ j, n ≤ j → (l.setIfInBounds i true).getD j false = false := fun j hj => by rw [getD_set_ne false (by omega)]; exact hout j hj
        have hrem := remN_step hin hun
        unfold wpOp
        rw [ho]
        simp only
        unfold FactAt at fa
        cases ha : ann i with
        | none =>
          rw [ha] at fa
          simp only at fa
          have hR' : ∀ W', Ext W W' → ∀ j A, j < n → (l.setIfInBounds i true).getD j false = true → ann j = some A → A.R (X j) W' := fun W' hW' j A hj hl haj => by
            by_cases e : j = i
            · subst e; rw [ha] at haj; cases haj
            · rw [getD_set_ne false (Ne.symm e)] at hl
              exact A.st _ _ _ (hR j A hj hl haj) hW'
          have hD' : ∀ i' j A B, i' < n → j < n → (l.setIfInBounds i true).getD i' false = true → (l.setIfInBounds i true).getD j false = true → i' ≠ j → ann i' = some A → ann j = some B → ∀ b, A.f (X i') = some b → B.f (X j) ≠ some b := fun i' j A B hi' hj hl1 hl2 hne h1 h2 => by
            have e1 : i' ≠ i := fun e => by subst e; rw [ha] at h1; cases h1
            have e2 : j ≠ i := fun e => by subst e; rw [ha] at h2; cases h2
            rw [getD_set_ne false (Ne.symm e1)] at hl1
            rw [getD_set_ne false (Ne.symm e2)] at hl2
            exact hD i' j A B hi' hj hl1 hl2 hne h1 h2
          cases hw : Region.wanted o (yielded l0.toArray b.tmps) with
          | true =>
            rw [if_pos rfl]
            refine .inl ?_
            have hr := fa.1 (by rw [s2]; exact hw) W hW (fun j A hj hdj haj => hR j A (by omega) (hclo j hdj) haj)
            rw [s1] at hr
            unfold Oper.wp
            rw [hr]
            exact ih _ _ _ X V (hd.step hi) hout' hW (hR' W (Upd.refl _ _)) hD' hV (hF.step hp hsz hin ho (fun _ _ _ => rfl)) (by omega)
          | false =>
            rw [if_neg (by simp)]
            have hv := fa.2 (by rw [s2]; exact hw)
            rw [← hv]
            exact ih _ _ _ X V (hd.step hi) hout' hW (hR' W (Upd.refl _ _)) hD' hV (hF.step hp hsz hin ho (fun _ _ _ => rfl)) (by omega)
        | some A =>
          rw [ha] at fa
          simp only at fa
          obtain ⟨hw, hVi, hm⟩ := fa
          rw [s2] at hw
          rw [if_pos hw]
          refine .inl ?_
          obtain ⟨d, hdd⟩ := hp.some_ i o hin ho (by rw [← han, ha]; rfl)
          have hds := hp.dst i o d hin ho hdd
          have hfs := frL_size V (l0.take i) 0 a0
          refine wp_transfer (K := fun a' W' => a'.defers = (frL V (l0.take i) 0 a0).defers ∧ ∃ x, a'.tmps[d]? = some (A.val x) ∧ Ext W W' ∧ A.R x W' ∧ ∀ k, A.f x = some k → W.heap.size ≤ k) s1 (fun v W' hK => ?_) (fun _ _ h => h.1) (hm W hW (fun j B hj hdj haj => hR j B (by omega) (hclo j hdj) haj) _ (fun x W' hE hRx hfr => ⟨put_defers' _ _ _, x, by rw [hdd]; exact put_eq _ _ _ (by rw [hfs.1, hsz]; exact hds), hE, hRx, hfr⟩))
          obtain ⟨_, x, hx, hE, hRx, hfr⟩ := hK
          rw [hdd, put_eq _ _ _ (by rw [hfs.1, hsz]; exact hds)] at hx
          have hvx : v = A.val x := Option.some.inj hx
          obtain ⟨V', hV'⟩ := good_of_can (fun j => if j = i then x else X j) _ _ _ _ hC (fun g hg => by cases hg) List.Pairwise.nil
          have hRW : ∀ j B, j < n → l.getD j false = true → ann j = some B → B.R (X j) W' := fun j B hj hl haj => B.st _ _ _ (hR j B hj hl haj) hE
          have hne : ∀ j, l.getD j false = true → j ≠ i := fun j hl e => by subst e; rw [getD_ff hun] at hl; cases hl
          have hsame := Good.same hp hd hsz hV hV' (fun j hj hl => if_neg (hne j hl)) (hW.ext hE) hRW
          have fa' := hV'.at _ _ _ i _ hot
          rw [Nat.zero_add] at fa'
          unfold FactAt at fa'
          rw [ha] at fa'
          simp only [if_true] at fa'
          rw [hvx, ← fa'.2.1]
          refine ih _ _ _ (fun j => if j = i then x else X j) V' (hd.step hi) hout' (hW.ext hE) (fun j B hj hl haj => ?_) (fun i' j A1 B hi' hj hl1 hl2 hnq h1 h2 b e1 e2 => ?_) hV' (hF.step hp hsz hin ho hsame) (by omega)
          · by_cases e : j = i
            · subst e
              rw [ha] at haj
              obtain rfl := Option.some.inj haj
              simp only [if_true]
              exact hRx
            rw [getD_set_ne false (Ne.symm e)] at hl
            simp only [if_neg e]
            exact hRW j B hj hl haj
          by_cases c1 : i' = i
          · subst c1
            have c2 : ¬ j = i' := fun e => hnq e.symm
            rw [ha] at h1
            obtain rfl := Option.some.inj h1
            simp only [if_true] at e1
            simp only [if_neg c2] at e2
            rw [getD_set_ne false (fun e => c2 e.symm)] at hl2
            have k1 := hfr b e1
            have k2 := B.lt _ _ b (hR j B hj hl2 h2) e2
            omega
          · by_cases c2 : j = i
            · subst c2
              rw [ha] at h2
              obtain rfl := Option.some.inj h2
              simp only [if_true] at e2
              simp only [if_neg c1] at e1
              rw [getD_set_ne false (fun e => c1 e.symm)] at hl1
              have k1 := hfr b e2
              have k2 := A1.lt _ _ b (hR i' A1 hi' hl1 h1) e1
              omega
            · simp only [if_neg c1] at e1
              simp only [if_neg c2] at e2
              rw [getD_set_ne false (fun e => c1 e.symm)] at hl1
              rw [getD_set_ne false (fun e => c2 e.symm)] at hl2
              exact hD i' j A1 B hi' hj hl1 hl2 hnq h1 h2 b e1 e2
theorem wp_region_parF {id : Nat} {a : Act} {w : World} {l0 : List Oper} [Inhabited α] (n : Nat) (fl : List Nat) (snk : Nat) (tail : List (Nat × Nat)) (dpl : List (List Nat)) (anl : List (Option (Ann α))) (anb : List Bool) (hm : P.follows .mixedOrders = true)
    (hB : parFB l0.toArray n a.tmps.size (fun i => dpl.getD i []) (fun i => anb.getD i false) fl snk tail = true) (han : anl.map (·.isSome) = anb)
    (hQ : ∀ c a d v w, Q (.panic c) (Act.put a d v) w → Q (.panic c) a w)
    (h : Can P l0.toArray (fun a W => wpMix P l0.toArray Q (fun _ => True) (pickO l0 tail) a W) w (fun i => dpl.getD i []) (fun i => anl.getD i none) (l0.take n) 0 [] a) : (Code.region id l0.toArray true).wp P Q a w := by
  have hp := parS_of hB
  refine wp_region_any hm ?_
  have hW : Ext w { w with drawn := w.drawn + 1 } := ⟨rfl, rfl, rfl, Nat.le_refl _, fun _ _ _ => rfl⟩
  obtain ⟨V, hV⟩ := good_of_can (fun _ => default) _ _ _ _ h (fun g hg => by cases hg) List.Pairwise.nil
  have hf : ∀ j, (Array.replicate l0.toArray.size false).getD j false = false := fun j => by
    rcases Nat.lt_or_ge j l0.length with h | h <;> simp [h]
  refine par_sound hp (fun i => ?_) hQ rfl h _ _ _ _ _ V Deps.start (fun j _ => hf j) hW (fun j A _ hl => by rw [hf] at hl; cases hl) (fun i j A B _ _ hl => by rw [hf] at hl; cases hl) hV FrS.start ?_
  · rw [← han]
    simp only [List.getD_eq_getElem?_getD, List.getElem?_map]
    cases anl[i]? <;> rfl
  · have h1 : remN n (Array.replicate l0.toArray.size false) ≤ n := by
      unfold remN
      exact Nat.le_trans (List.length_filter_le _ _) (by simp)
    have := hp.len
    omega
theorem can_pure {o : Oper} {r : List Oper} {i : Nat} {G : List Fct} {a : Act} (ha : ann i = none)
    (h : ∀ K : Act → Prop, (∀ a, Can P ops Qt w0 dp ann r (i + 1) G a → K a) → if Region.wanted o (yielded ops a.tmps) then ∃ v, (∀ W, Ext w0 W → (∀ g ∈ G, g.1 ∈ dp i → g.2.2 W) → (execOp a.eval o).run P W = .ok (.value v) W) ∧ K (a.put o.dst v) else K (a.put o.dst undef)) :
    Can P ops Qt w0 dp ann (o :: r) i G a := by
  unfold Can
  rw [ha]
  exact h _ (fun _ h => h)
theorem can_mem {o : Oper} {r : List Oper} {i : Nat} {G : List Fct} {a : Act} (A : Ann α) (ha : ann i = some A) (hw : Region.wanted o (yielded ops a.tmps) = true)
    (h1 : ∀ W, Ext w0 W → (∀ g ∈ G, g.1 ∈ dp i → g.2.2 W) → ∀ K : Act → World → Prop, (∀ x W', Ext W W' → A.R x W' → (∀ k, A.f x = some k → W.heap.size ≤ k) → K (a.put o.dst (A.val x)) W') → o.wp P a W K (fun _ _ _ => False))
    (h2 : ∀ K : Act → Prop, ∀ x, (∀ a, Can P ops Qt w0 dp ann r (i + 1) (G ++ [(i, A.f x, A.R x)]) a → K a) → K (a.put o.dst (A.val x))) :
    Can P ops Qt w0 dp ann (o :: r) i G a := by
  unfold Can
  rw [ha]
  exact ⟨hw, h1, fun x => h2 _ x (fun _ h => h)⟩
theorem can_pure0 {o : Oper} {r : List Oper} {i : Nat} {G : List Fct} {a : Act} (ha : ann i = none)
    (h : ∀ K : Act → Prop, (∀ a, Can P ops Qt w0 dp ann r (i + 1) G a → K a) → if Region.wanted o (yielded ops a.tmps) then ∃ v, (∀ x : XW w0, (execOp a.eval o).run P x.val = .ok (.value v) x.val) ∧ K (a.put o.dst v) else K (a.put o.dst undef)) :
    Can P ops Qt w0 dp ann (o :: r) i G a := by
  refine can_pure ha fun K hK => ?_
  have h2 := h K hK
  by_cases hw : Region.wanted o (yielded ops a.tmps) = true
  · rw [if_pos hw] at h2 ⊢
    obtain ⟨v, hv, h3⟩ := h2
    exact ⟨v, fun W hW _ => hv ⟨W, hW⟩, h3⟩
  · rw [if_neg hw] at h2 ⊢; exact h2
end
end Go.Hw.PF

/- What is well-formed, in its parts: pure. -/
namespace Go.Hw
open Tm
set_option linter.unusedVariables false
set_option linter.unusedSimpArgs false
theorem nodesD_depth : ∀ (t : Tm) (d N : Nat), (∀ p ∈ nodesD d t, p.2 ≤ N) ↔ d + t.depth ≤ N + 1 := by
  refine Tm.ind (fun n s L ih => ?_)
  intro d N
  rw [nodesD_eq, depth_eq]
  simp only [Tm.kids]
  have key : ∀ (L : List Tm) (d : Nat), (∀ x ∈ L, ∀ d N, (∀ p ∈ nodesD d x, p.2 ≤ N) ↔ d + x.depth ≤ N + 1) → d ≤ N + 1 → ((∀ p ∈ nodesDs d L, p.2 ≤ N) ↔ d + depths L ≤ N + 1) := by
    intro L
    induction L with
    | nil => intro d _ hd; exact ⟨fun _ => by simpa [depths] using hd, fun _ p hp => by cases hp⟩
    | cons a L ihL =>
      intro d hx hd
      have h1 := hx a (List.mem_cons_self ..) d N
      have h2 := ihL d (fun x hx' => hx x (List.mem_cons_of_mem _ hx')) hd
      simp only [nodesDs, depths]
      constructor
      · intro h
        have g1 := h1.1 (fun p hp => h p (List.mem_append_left _ hp))
        have g2 := h2.1 (fun p hp => h p (List.mem_append_right _ hp))
        omega
      · intro h p hp
        rcases List.mem_append.1 hp with hp | hp
        · exact h1.2 (by omega) p hp
        · exact h2.2 (by omega) p hp
  constructor
  · intro h
    have h0 : d ≤ N := h _ (List.mem_cons_self ..)
    have := (key L (d + 1) ih (by omega)).1 (fun p hp => h p (List.mem_cons_of_mem _ hp))
    omega
  · intro h p hp
    rcases List.mem_cons.1 hp with e | hp
    · rw [e]; show d ≤ N; omega
    · exact (key L (d + 1) ih (by omega)).2 (by omega) p hp
def NdOk (nm : By → Bool) (x : Tm) : Prop := nm x.name = true ∧ x.kids.length ≤ 6 ∧ (x.sort = nul ∨ nm x.sort = true ∧ x.kids = [])
theorem wf_iff {nm : By → Bool} {t : Tm} : wf nm t = true ↔ t.size ≤ 1000 ∧ t.depth ≤ 60 ∧ (∀ x ∈ sbts t, NdOk nm x) ∧ Cons (vof t) := by
  unfold wf
  rw [Bool.and_eq_true, formed_iff, sortsT_iff]
  have hm : ∀ P : Tm → Prop, (∀ x ∈ sbts t, P x) ↔ ∀ p ∈ nodesD 1 t, P p.1 := fun P => by
    unfold sbts
    rw [nodesD_fst t 0 1]
    constructor
    · intro h p hp
      exact h _ (List.mem_map_of_mem hp)
    · intro h x hx
      obtain ⟨p, hp, rfl⟩ := List.mem_map.1 hx
      exact h p hp
  have hok : ∀ p : Tm × Nat, okN nm p = true ↔ p.2 ≤ 60 ∧ NdOk nm p.1 := fun p => by
    unfold okN NdOk
    simp only [Bool.and_eq_true, Bool.or_eq_true, decide_eq_true_eq]
    constructor
    · rintro ⟨h1, h2, h3, h4⟩
      refine ⟨h1, h2, h3, ?_⟩
      rcases h4 with h4 | ⟨h4, h5⟩
      · exact .inl h4
      · exact .inr ⟨h4, List.eq_nil_of_length_eq_zero h5⟩
    · rintro ⟨h1, h2, h3, h4⟩
      refine ⟨h1, h2, h3, ?_⟩
      rcases h4 with h4 | ⟨h4, h5⟩
      · exact .inl h4
      · exact .inr ⟨h4, by rw [h5]; rfl⟩
  have hd := nodesD_depth t 1 60
  have hn := hm (NdOk nm)
  constructor
  · rintro ⟨⟨h1, h2⟩, h3⟩
    exact ⟨h1, by have := hd.1 (fun p hp => ((hok p).1 (h2 p hp)).1); omega, hn.2 (fun p hp => ((hok p).1 (h2 p hp)).2), h3⟩
  · rintro ⟨h1, h2, h3, h4⟩
    exact ⟨⟨h1, fun p hp => (hok p).2 ⟨hd.2 (by omega) p hp, hn.1 h3 p hp⟩⟩, h4⟩
theorem nop_of {nm : By → Bool} {t : Tm} (h : ∀ x ∈ sbts t, NdOk nm x) : NoP t := fun x hx hs => (h x hx).2.2.elim (fun e => absurd e hs) (fun e => e.2)
theorem wf_nop' {nm : By → Bool} {t : Tm} (h : wf nm t = true) : NoP t := nop_of (wf_iff.1 h).2.2.1
theorem varsT_mem {nm : By → Bool} {t : Tm} (h : wf nm t = true) : AscK (Prod.fst : Vd → By) (varsT t) ∧ ∀ f, f ∈ varsT t ↔ f ∈ vof t := by
  have hs : (sortsT t).isSome = true := by
    unfold wf at h
    rw [Bool.and_eq_true] at h
    exact h.2
  obtain ⟨m, hm⟩ := Option.isSome_iff_exists.1 hs
  obtain ⟨_, h1⟩ := vFold_spec (vl (sbts t)) [] [] List.Pairwise.nil (fun _ => rfl) (fun _ => Iff.rfl)
  obtain ⟨a, _, b⟩ := h1 m hm
  have hnil : Cons [] := fun f hf => by cases hf
  obtain ⟨h2, _⟩ := sFold_spec (vl (sbts t)) [] hnil
  obtain ⟨_, c, _⟩ := h2 m hm
  refine ⟨a, fun f => ?_⟩
  show f ∈ (vFold [] (vl (sbts t))).1 ↔ f ∈ vl (sbts t)
  rw [b f, c f]
  simp
theorem sbts_sbT {σ : Su} : ∀ t : Tm, ∀ x ∈ sbts (sbT σ t), (∃ y ∈ sbts t, y.sort = nul ∧ x.sort = nul ∧ x.name = y.name ∧ x.kids.length = y.kids.length) ∨ ∃ f ∈ vof t, x ∈ sbts (σ f.1 f.2) := by
  refine Tm.ind (fun n s L ih => ?_)
  intro x hx
  by_cases hs : s = nul
  · subst hs
    rw [sbT_opn, sbts_eq, List.mem_cons] at hx
    rcases hx with e | hx
    · subst e
      exact .inl ⟨_, mem_sbts_self _, rfl, rfl, rfl, by simp [Tm.kids]⟩
    · obtain ⟨y, hy, hx⟩ := List.mem_flatMap.1 hx
      obtain ⟨z, hz, rfl⟩ := List.mem_map.1 hy
      rcases ih z hz x hx with ⟨y, hy, h⟩ | ⟨f, hf, h⟩
      · exact .inl ⟨y, mem_sbts_kid (t := .mk n nul L) hz hy, h⟩
      · exact .inr ⟨f, by rw [vof_op]; exact List.mem_flatMap.2 ⟨z, hz, hf⟩, h⟩
  · rw [sbT_var σ hs] at hx
    exact .inr ⟨_, vof_self hs L, hx⟩
theorem ndok_op {nm : By → Bool} {x y : Tm} (hy : NdOk nm y) (h1 : x.sort = nul) (h2 : x.name = y.name) (h3 : x.kids.length = y.kids.length) : NdOk nm x := ⟨by rw [h2]; exact hy.1, by rw [h3]; exact hy.2.1, .inl h1⟩
end Go.Hw
