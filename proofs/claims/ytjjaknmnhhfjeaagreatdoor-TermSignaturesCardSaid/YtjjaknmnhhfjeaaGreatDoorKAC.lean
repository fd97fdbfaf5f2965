/- The texts TK L2 MP TW L3, one behind the other. -/
import Derived.Test.YtjjaknmnhhfjeaaGreatDoorKAB
import Derived.RangeFuncRecord
import Derived.RangeFuncKeeps
import Derived.MapKept
import Derived.WideKeyRuns
import Derived.OrdersHeld
import Derived.StillTail
/- What a round of an iterator keeps: rows of cells outside its own boxes. -/
namespace Go.Hw
open Go.RowKit Tm
set_option linter.unusedVariables false
set_option linter.unusedSimpArgs false
structure KpG (G : Nat → Prop) (A B : World) : Prop where
  size : A.heap.size ≤ B.heap.size
  cells : ∀ k cs ty m, ¬ G k → A.heap[k]? = some (.cells cs ty m) → B.heap[k]? = some (.cells cs ty m)
theorem KpG.refl (G : Nat → Prop) (A : World) : KpG G A A := ⟨Nat.le_refl _, fun _ _ _ _ _ h => h⟩
theorem KpG.trans {G : Nat → Prop} {A B C : World} (h : KpG G A B) (k : KpG G B C) : KpG G A C := ⟨Nat.le_trans h.size k.size, fun i cs ty m hG hc => k.cells i cs ty m hG (h.cells i cs ty m hG hc)⟩
theorem KpG.of_upd {F G : Nat → Prop} {A B : World} (h : Upd F A B) (hF : ∀ k, k < A.heap.size → F k → G k) : KpG G A B :=
  ⟨h.size, fun k cs ty m hG hc => (h.block k (Array.getElem?_eq_some_iff.1 hc).1 (fun hf => hG (hF k (Array.getElem?_eq_some_iff.1 hc).1 hf))).trans hc⟩
theorem KpG.of_ext {G : Nat → Prop} {A B : World} (h : Ext A B) : KpG G A B := KpG.of_upd h (fun _ _ h => h.elim)
theorem KpG.putObj {G : Nat → Prop} (W : World) (l : Nat) (o o' : Obj) (h : W.heap[l]? = some o) (hc : o.isCells = false) : KpG G W (W.putObj l o') := by
  refine ⟨by simp [World.putObj], fun k cs ty m hG hk => ?_⟩
  have hne : l ≠ k := by
    intro e
    rw [e, hk] at h
    injection h with h
    rw [← h] at hc
    cases hc
  simp only [World.putObj]
  rw [Array.getElem?_setIfInBounds_ne hne]
  exact hk
theorem KpG.cell {G : Nat → Prop} {A B : World} (h : KpG G A B) {p : Addr} {v : Value} (hp : ¬ G p.block) (hs : p.spot = none) (hc : A.cell? p = some v) : B.cell? p = some v := by
  cases hb : A.heap[p.block]? with
  | none => simp [World.cell?, hb] at hc
  | some o =>
    cases o with
    | cells cs ty m =>
      have h2 := h.cells _ _ _ _ hp hb
      simp only [World.cell?, hb] at hc
      simp only [World.cell?, h2]
      exact hc
    | _ => simp [World.cell?, hb] at hc
theorem SlR.keptK {G S : Nat → Prop} {A B : World} {size n : Nat} {v : Value} {cs : List Value} (h : SlR S A size v n cs) (hk : KpG G A B) (hS : ∀ k, S k → ¬ G k) : SlR S B size v n cs := by
  refine ⟨h.1, ?_⟩
  rcases h.2 with h2 | ⟨a, cap, e, hc, hs, hj⟩
  · exact .inl h2
  · refine .inr ⟨a, cap, e, hc, hs, fun j hjn => ?_⟩
    have hn : 0 < n := pos_of_lt hjn
    have h3 := hj j hjn
    have hlen : j < cs.length := by rw [h.1]; exact hjn
    rw [List.getElem?_eq_getElem hlen] at h3 ⊢
    exact hk.cell (hS _ (hs hn).2) (by rfl) h3
theorem TlR.keptK {G S : Nat → Prop} {A B : World} {L : List Tm} {v : Value} (h : TlR S A L v) (hk : KpG G A B) (hS : ∀ k, S k → ¬ G k) : TlR S B L v := by
  induction h with
  | mk L us v hl h hkk ih => exact ⟨L, us, v, hl, h.keptK hk hS, ih⟩
end Go.Hw

/- Small laws of the prover's own, over any program, the second part: what is made, what is stored. -/
namespace Go.Hw
open Go.RowKit
set_option linter.unusedVariables false
set_option linter.unusedSimpArgs false

theorem setBlock {w : World} {g : Nat} {cs : Array Value} {t : TypeId} (h : w.heap[g]? = some (.cells cs t (0, 0))) (j : Nat) (u : Value) :
    (w.setCell ⟨g, j, none⟩ u).heap[g]? = some (.cells (cs.setIfInBounds j u) t (0, 0)) := by
  simp [World.setCell, Array.getElem?_modify, h]
theorem Upd.setNew {a w : World} (h : Upd (fun _ => False) a w) {g j : Nat} (hg : a.heap.size ≤ g) (u : Value) : Upd (fun _ => False) a (w.setCell ⟨g, j, none⟩ u) := h.setCell (.inr hg) u

structure XW (w : World) where
  val : World
  ext : Upd (fun _ => False) w val
instance (w : World) : Nonempty (XW w) := ⟨⟨w, Upd.refl _ w⟩⟩
theorem wp_region_ext {P : Program} {id : Nat} {Q : Exit → Act → World → Prop} {a : Act} {w : World} {l : List Oper} (w0 : World) (h0 : Upd (fun _ => False) w0 w)
    (hm : P.follows .mixedOrders = true) (hB : Region.lexB .any l.toArray = true)
    (h : wpQuiet P l.toArray (fun w' => ∃ x : XW w0, w' = x.val) (fun a' => ∀ w', (∃ x : XW w0, w' = x.val) → Q .normal a' w') l a) : (Code.region id l.toArray true).wp P Q a w :=
  wp_region_quiet (C := fun w' => ∃ x : XW w0, w' = x.val) hm hB ⟨⟨{ w with drawn := w.drawn + 1 }, ⟨h0.os, h0.tape, h0.output, h0.size, h0.block⟩⟩, rfl⟩ (by simpa using h)
theorem XW.call {P : Program} {f : FuncId} {args : Array Value} {w0 : World} {x : XW w0} {v : Value} (h : Calls P f args x.val fun e w' => e = .returned v ∧ Upd (fun _ => False) x.val w') :
    Calls P f args x.val fun e w'' => e = .returned v ∧ ∃ y : XW w0, w'' = y.val :=
  h.mono fun _ _ ⟨he, hx⟩ => ⟨he, ⟨_, x.ext.trans hx⟩, rfl⟩
end Go.Hw

/- Maps in memory, as lists of entries in the order in which they came. -/
namespace Go.Hw
open Go.RowKit
set_option linter.unusedVariables false
set_option linter.unusedSimpArgs false
section
variable {κ : Type} [DecidableEq κ]
def afind (l : List (κ × Value)) (k : κ) : Option Value := (l.find? fun p => decide (p.1 = k)).map (·.2)
def aput (l : List (κ × Value)) (k : κ) (v : Value) : List (κ × Value) :=
  match l with
  | [] => [(k, v)]
  | p :: l => if p.1 = k then (k, v) :: l else p :: aput l k v
theorem afind_cons (p : κ × Value) (l : List (κ × Value)) (k : κ) : afind (p :: l) k = if p.1 = k then some p.2 else afind l k := by
  unfold afind
  rw [List.find?_cons]
  by_cases h : p.1 = k
  · rw [if_pos h, decide_eq_true h]; rfl
  · rw [if_neg h, decide_eq_false h]
structure KeyEnc (P : Program) (kt : TypeId) (enc : κ → Value) : Prop where
  check : ∀ b x W, (Instr.checkKey b 10000 kt (enc x)).run P W = .ok () W
  find : ∀ x (es : List MapEntry) (l : List (κ × Value)) W, es.map (fun e => (e.key, e.val)) = l.map (fun p => (enc p.1, p.2)) →
    (Instr.findKey kt (enc x) es).run P W = .ok ((l.findIdx? fun p => decide (p.1 = x)).map fun i => (i, ((l[i]?).map (·.2)).getD (.bool false))) W
  same : ∀ x, Instr.sameBits 10000 (enc x) (enc x) = true
def MpR (enc : κ → Value) (w : World) (b : Nat) (l : List (κ × Value)) : Prop :=
  ∃ es clock, w.heap[b]? = some (.map es clock) ∧ es.toList.map (fun e => (e.key, e.val)) = l.map (fun p => (enc p.1, p.2)) ∧ es.toList.Pairwise (fun x y => x.born < y.born) ∧ ∀ e ∈ es.toList, e.born < clock
omit [DecidableEq κ] in
theorem MpR.kept {enc : κ → Value} {F : Nat → Prop} {w w' : World} {b : Nat} {l : List (κ × Value)} (h : MpR enc w b l) (hu : Upd F w w') (hF : ¬ F b) : MpR enc w' b l := by
  obtain ⟨es, c, h1, h2⟩ := h
  exact ⟨es, c, hu.heap h1 hF, h2⟩
omit [DecidableEq κ] in
theorem MpR.ext {enc : κ → Value} {w w' : World} {b : Nat} {l : List (κ × Value)} (h : MpR enc w b l) (hu : Ext w w') : MpR enc w' b l := h.kept hu (fun h => h)
omit [DecidableEq κ] in
theorem MpR.lt {enc : κ → Value} {w : World} {b : Nat} {l : List (κ × Value)} (h : MpR enc w b l) : b < w.heap.size := by
  obtain ⟨es, c, h1, _⟩ := h
  exact (Array.getElem?_eq_some_iff.1 h1).1
theorem idx_find (l : List (κ × Value)) (k : κ) : (l.findIdx? fun p => decide (p.1 = k)).map (fun i => ((l[i]?).map (·.2)).getD (.bool false)) = afind l k := by
  induction l with
  | nil => rfl
  | cons p l ih =>
    rw [List.findIdx?_cons, afind_cons]
    by_cases h : p.1 = k
    · rw [if_pos h, decide_eq_true h]
      rfl
    · rw [if_neg h, decide_eq_false h, ← ih]
      simp only [Bool.false_eq_true, if_false, Option.map_map]
      rfl
theorem MpR.get {P : Program} {enc : κ → Value} {kt et t : TypeId} (K : KeyEnc P kt enc) (ht : P.underlying t = some (.map kt et)) {w : World} {b : Nat} {l : List (κ × Value)} {z : Value} (hz : (zeroValue et).run P w = .ok z w) (h : MpR enc w b l) (k : κ) (c : Bool) :
    (Instr.lookup t (.map (some b)) (enc k) c).run P w = .ok (if c then .tuple #[(afind l k).getD z, .bool (afind l k).isSome] else (afind l k).getD z) w := by
  obtain ⟨es, cl, h1, h2, _⟩ := h
  have hf := K.find k es.toList l w h2
  have hc := K.check es.isEmpty k w
  rw [← idx_find]
  generalize hx : (l.findIdx? fun p => decide (p.1 = k)) = x at *
  cases x with
  | none => cases c <;> simp [Instr.lookup, run_underlying ht, MapKept.run_getObj_map h1, hc, hf, hz, Result.andThen]
  | some i => cases c <;> simp [Instr.lookup, run_underlying ht, MapKept.run_getObj_map h1, hc, hf, hz, Result.andThen]
theorem aput_idx (l : List (κ × Value)) (k : κ) (v : Value) : aput l k v = match l.findIdx? fun p => decide (p.1 = k) with | some i => l.set i (k, v) | none => l ++ [(k, v)] := by
  induction l with
  | nil => rfl
  | cons p l ih =>
    unfold aput
    rw [List.findIdx?_cons]
    by_cases h : p.1 = k
    · rw [if_pos h, decide_eq_true h]
      rfl
    · rw [if_neg h, decide_eq_false h, ih]
      cases (l.findIdx? fun p => decide (p.1 = k)) <;> rfl
theorem MpR.put {P : Program} {enc : κ → Value} {kt et t : TypeId} (K : KeyEnc P kt enc) (ht : P.underlying t = some (.map kt et)) {w : World} {b : Nat} {l : List (κ × Value)} (h : MpR enc w b l) (k : κ) (v : Value) :
    ∃ w', (Instr.mapUpdate t (.map (some b)) (enc k) v).run P w = .ok () w' ∧ MpR enc w' b (aput l k v) ∧ Upd (fun j => j = b) w w' := by
  obtain ⟨es, cl, h1, h2, h3, h4⟩ := h
  have hf := K.find k es.toList l w h2
  have hc := K.check false k w
  have hblt := (Array.getElem?_eq_some_iff.1 h1).1
  have hupd : ∀ o, Upd (fun j => j = b) w { w with heap := w.heap.setIfInBounds b o } := fun o =>
    ⟨rfl, rfl, rfl, by simp, fun i hi hF => by simp [Ne.symm (show i ≠ b from hF)]⟩
  rw [aput_idx]
  generalize hx : (l.findIdx? fun p => decide (p.1 = k)) = x at *
  cases x with
  | none =>
    refine ⟨_, by simp [Instr.mapUpdate, run_underlying ht, MapKept.run_getObj_map h1, hc, hf, MapKept.run_setObj_map _ h1, Result.andThen]; rfl, ⟨es.push { key := enc k, val := v, born := cl }, cl + 1, by simp [hblt], ?_, ?_, ?_⟩, hupd _⟩
    · simp [h2]
    · simp only [Array.toList_push]
      rw [List.pairwise_append]
      refine ⟨h3, by simp, fun x hx y hy => ?_⟩
      rw [List.mem_singleton] at hy
      subst hy
      exact h4 x hx
    · intro e he
      simp only [Array.toList_push, List.mem_append, List.mem_singleton] at he
      rcases he with he | he
      · have := h4 e he; omega
      · subst he; simp
  | some i =>
    have hi : i < l.length := by
      rw [List.findIdx?_eq_some_iff_getElem] at hx
      exact hx.1
    have hlen : es.size = l.length := by
      have := congrArg List.length h2
      simpa using this
    have hki : (l[i]'hi).1 = k := by
      rw [List.findIdx?_eq_some_iff_getElem] at hx
      simpa using hx.2.1
    have hes : (es[i]'(by omega)).key = enc k := by
      have h5 : (es.toList.map (fun e => (e.key, e.val)))[i]? = (l.map (fun p => (enc p.1, p.2)))[i]? := by rw [h2]
      rw [List.getElem?_map, List.getElem?_map, Array.getElem?_toList, Array.getElem?_eq_getElem (show i < es.size by omega), List.getElem?_eq_getElem hi] at h5
      simp only [Option.map_some] at h5
      have h6 := congrArg Prod.fst (Option.some.inj h5)
      simp only at h6
      rw [h6, hki]
    have hst : (Instr.keyThatStays (((es[i]?).map (·.key)).getD (enc k)) (enc k)).run P w = .ok (enc k) w := by
      rw [Array.getElem?_eq_getElem (show i < es.size by omega)]
      simp only [Option.map_some, Option.getD_some, hes]
      unfold Instr.keyThatStays
      rw [if_pos (K.same k)]
      rfl
    refine ⟨_, by simp [Instr.mapUpdate, run_underlying ht, MapKept.run_getObj_map h1, hc, hf, hst, MapKept.run_setObj_map _ h1, Result.andThen]; rfl, ⟨es.modify i fun e => { e with key := enc k, val := v }, cl, by simp [hblt], ?_, ?_, ?_⟩, hupd _⟩
    · rw [Array.toList_modify]
      apply List.ext_getElem?
      intro j
      have h5 : (es.toList.map (fun e => (e.key, e.val)))[j]? = (l.map (fun p => (enc p.1, p.2)))[j]? := by rw [h2]
      simp only [List.getElem?_map, List.getElem?_modify, List.getElem?_set] at h5 ⊢
      by_cases e : i = j
      · subst e
        rw [if_pos rfl, if_pos hi]
        rw [Array.getElem?_toList, Array.getElem?_eq_getElem (show i < es.size by omega)]
        simp
      · rw [if_neg e]
        cases hq : es.toList[j]? with
        | none => rw [hq] at h5; simpa using h5
        | some u => rw [hq] at h5; simpa [e] using h5
    · rw [Array.toList_modify]
      have e : (es.toList.modify i fun e => { e with key := enc k, val := v }).map (·.born) = es.toList.map (·.born) := by
        apply List.ext_getElem?
        intro j
        simp only [List.getElem?_map, List.getElem?_modify]
        cases es.toList[j]? with
        | none => rfl
        | some u => simp only [Option.map_some]; split <;> rfl
      have h6 : (es.toList.map (·.born)).Pairwise (· < ·) := List.pairwise_map.2 h3
      rw [← e] at h6
      exact List.pairwise_map.1 h6
    · intro e he
      rw [Array.toList_modify] at he
      have h7 : e.born ∈ (es.toList.modify i fun e => { e with key := enc k, val := v }).map (·.born) := List.mem_map_of_mem he
      have e2 : (es.toList.modify i fun e => { e with key := enc k, val := v }).map (·.born) = es.toList.map (·.born) := by
        apply List.ext_getElem?
        intro j
        simp only [List.getElem?_map, List.getElem?_modify]
        cases es.toList[j]? with
        | none => rfl
        | some u => simp only [Option.map_some]; split <;> rfl
      rw [e2] at h7
      obtain ⟨u, hu, he2⟩ := List.mem_map.1 h7
      rw [← he2]
      exact h4 u hu
end
theorem strKey {P : Program} {kt : TypeId} (hk : P.underlying kt = some .string) : KeyEnc P kt (fun s : ByteArray => Value.string s) where
  check b x W := MapKept.run_checkKey hk (by simp [MapKept.IsKey]) b 9999
  same x := by
    show (x == x) = true
    exact (MapKept.bytes_beq _ _).2 rfl
  find x es l W h := by
    refine MapKept.run_findKey hk ?_
    have : ∀ (es : List MapEntry) (l : List (ByteArray × Value)) (i : Nat), es.map (fun e => (e.key, e.val)) = l.map (fun p => (Value.string p.1, p.2)) →
        Instr.findNow .string (.string x) es i = some ((l.findIdx? fun p => decide (p.1 = x)).map fun j => (i + j, ((l[j]?).map (·.2)).getD (.bool false))) := by
      intro es
      induction es with
      | nil =>
        intro l i h
        have : l = [] := by cases l; rfl; simp at h
        subst this
        rfl
      | cons e es ih =>
        intro l i h
        cases l with
        | nil => simp at h
        | cons p l =>
          simp only [List.map_cons, List.cons.injEq, Prod.mk.injEq] at h
          obtain ⟨⟨h1, h2⟩, h3⟩ := h
          unfold Instr.findNow
          rw [h1]
          simp only [Instr.sameNow]
          rw [List.findIdx?_cons]
          by_cases hx : p.1 = x
          · have hb : (x == p.1) = true := (MapKept.bytes_beq _ _).2 hx.symm
            rw [hb, decide_eq_true hx]
            simp [h2]
          · have hb : (x == p.1) = false := by
              rw [Bool.eq_false_iff]
              intro e
              exact hx ((MapKept.bytes_beq _ _).1 e).symm
            rw [hb, decide_eq_false hx]
            simp only
            rw [ih l (i + 1) h3]
            cases (l.findIdx? fun p => decide (p.1 = x)) with
            | none => rfl
            | some j => simp; omega
    have h2 := this es l 0 h
    simpa using h2
end Go.Hw

/- The reference's table by its index: pure; lists of fields in memory. -/
namespace Go.Hw
open Go.RowKit Tm
set_option linter.unusedVariables false
set_option linter.unusedSimpArgs false
abbrev vg (l : List Vd) (i : Nat) : Vd := l.getD i (nul, nul)
def fCells (l : List Vd) : List Value := l.flatMap fun f => [.string f.1, .string f.2]
theorem fCells_at : ∀ (l : List Vd) (i : Nat), i < l.length → (fCells l)[i * 2]? = some (.string (vg l i).1) ∧ (fCells l)[i * 2 + 1]? = some (.string (vg l i).2)
  | a :: l, 0, _ => ⟨rfl, rfl⟩
  | a :: l, i + 1, h => by
    obtain ⟨h0, h1⟩ := fCells_at l i (by simpa using h)
    have e : ∀ k, (fCells (a :: l))[(i + 1) * 2 + k]? = (fCells l)[i * 2 + k]? := fun k => by
      rw [show (i + 1) * 2 + k = i * 2 + k + 1 + 1 by omega]
      rfl
    exact ⟨by rw [← Nat.add_zero ((i + 1) * 2), e]; exact h0, by rw [e]; exact h1⟩
def FiR (S : Nat → Prop) (w : World) (v : Value) (l : List Vd) : Prop := SlR S w 2 v l.length (fCells l)
theorem FiR.shape {S : Nat → Prop} {w : World} {v : Value} {l : List Vd} (h : FiR S w v l) : ∃ a cap, v = .slice a l.length cap := SlR.shape h
theorem FiR.ext {S : Nat → Prop} {w w' : World} {v : Value} {l : List Vd} (h : FiR S w v l) (hu : Ext w w') : FiR S w' v l := SlR.kept h hu (fun _ _ h => h)
theorem FiR.at_ {S : Nat → Prop} {w : World} {a : Option Addr} {n cap : Nat} {l : List Vd} (h : FiR S w (.slice a n cap) l) (hl : 0 < l.length) :
    ∃ g off, a = some ⟨g, off, none⟩ ∧ ∀ i, i < l.length → w.cell? ⟨g, off + i * 2, none⟩ = some (.string (vg l i).1) ∧ w.cell? ⟨g, off + i * 2 + 1, none⟩ = some (.string (vg l i).2) := by
  obtain ⟨g, off, c, e, _, _, hj⟩ := SlR.pos h hl
  injection e with e1 e2 e3
  refine ⟨g, off, e1, fun i hi => ?_⟩
  obtain ⟨h0, h1⟩ := fCells_at l i hi
  exact ⟨by rw [hj _ (by omega), h0], by rw [Nat.add_assoc, hj _ (by omega), h1]⟩
end Go.Hw

/- A drawn region walked once: what only reads is taken when it may come up; the rest comes up alone, one behind the other; a condition S on the world holds till the sink. -/
namespace Go.Hw
open Go.RowKit
set_option linter.unusedVariables false
set_option linter.unusedSimpArgs false

section
variable {P : Program} {ops : Array Oper} {Q : Exit → Act → World → Prop} {md : Region.Mode} {S : World → Prop} {n : Nat}

def wpTill (P : Program) (md : Region.Mode) (ops : Array Oper) (Q : Exit → Act → World → Prop) (S : World → Prop) (n : Nat) : Nat → Array Bool → Act → World → Prop
  | 0, l, a, w => Region.ready md ops l = [] ∧ Q .normal a w
  | f + 1, l, a, w =>
    (Region.ready md ops l = [] → Q .normal a w) ∧
    ∀ i ∈ Region.ready md ops l, wpOp P ops Q i (fun a' w' => (S w' ∨ (l.setIfInBounds i true).getD n false = true) ∧ wpTill P md ops Q S n f (l.setIfInBounds i true) a' w') a w
theorem wpAny_of_till : ∀ (f : Nat) (l : Array Bool) (a : Act) (w : World), wpTill P md ops Q S n f l a w → wpAny P md ops Q f l a w
  | 0, _, _, _, h => h
  | f + 1, _, _, _, h => ⟨h.1, fun i hi => wpOp_mono (fun a' w' h' => wpAny_of_till f _ a' w' h'.2) (h.2 i hi)⟩

structure Deps (md : Region.Mode) (ops : Array Oper) (l : Array Bool) : Prop where
  size : l.size = ops.size
  back : ∀ j o, ops[j]? = some o → l.getD j false = true → ∀ e ∈ o.after, Region.binds md e = true → l.getD e.on false = true
theorem getD_ff {l : Array Bool} {i : Nat} (h : l.getD i true = false) : l.getD i false = false := by
  rcases Nat.lt_or_ge i l.size with h' | h'
  · simp [h'] at h ⊢; exact h
  · simp [Array.getElem?_eq_none h'] at h
theorem getD_tf {l : Array Bool} {i : Nat} (hi : i < l.size) (h : l.getD i false = false) : l.getD i true = false := by
  simp [hi] at h ⊢; exact h
theorem Deps.step {l : Array Bool} {i : Nat} (h : Deps md ops l) (hi : i ∈ Region.ready md ops l) : Deps md ops (l.setIfInBounds i true) := by
  obtain ⟨_, oi, hoi, hall⟩ := mem_ready.1 hi
  refine ⟨by rw [Array.size_setIfInBounds]; exact h.size, fun j o ho hl e he hb => ?_⟩
  by_cases hij : i = j
  · subst hij
    obtain rfl : oi = o := Option.some.inj (hoi.symm.trans ho)
    exact getD_set_true (hall e he hb)
  · rw [getD_set_ne false hij] at hl
    exact getD_set_true (h.back j o ho hl e he hb)
theorem Deps.start : Deps md ops (Array.replicate ops.size false) :=
  ⟨by simp, fun j o _ hl => by
    rcases Nat.lt_or_ge j ops.size with h | h
    · simp [h] at hl
    · simp [h] at hl⟩
theorem sink_not_ready {l : Array Bool} (hs : Region.sinkB md ops n = true) (h : Deps md ops l) : ∀ (k i : Nat), n - i ≤ k → i < n → l.getD i true = false → n ∉ Region.ready md ops l := by
  intro k
  induction k with
  | zero => intro i h1 h2; omega
  | succ k ih =>
    intro i hd hi hun hr
    obtain ⟨_, ot, hot, hall⟩ := mem_ready.1 hr
    obtain ⟨j, hj, hj2⟩ := List.any_eq_true.1 (List.all_eq_true.1 hs i (List.mem_range.2 hi))
    simp only [Bool.and_eq_true, decide_eq_true_eq] at hj2
    have hjn := List.mem_range.1 hj
    obtain ⟨oj, hoj, e, he, hb, hon⟩ := Region.waitsFor_spec hj2.2
    have hjl : l.getD j false = true → False := fun hl => by
      have := h.back j oj hoj hl e he hb
      rw [hon, getD_ff hun] at this
      cases this
    by_cases hjt : j = n
    · subst hjt
      obtain rfl : oj = ot := Option.some.inj (hoj.symm.trans hot)
      have := hall e he hb
      rw [hon, getD_ff hun] at this
      cases this
    · cases hl : l.getD j false with
      | true => exact hjl hl
      | false =>
        have hjs : j < l.size := by rw [h.size]; exact (Array.getElem?_eq_some_iff.1 hoj).1
        exact ih j (by omega) (by omega) (getD_tf hjs hl) hr

theorem wpTill_first {i : Nat} {oi : Oper} {v : Value} (hi : ops[i]? = some oi) (hsel : ∀ (j : Nat) (o : Oper) cs b, ops[j]? = some o → o.op ≠ .select cs b)
    (hQ : ∀ c a w, Q (.panic c) (a.put oi.dst v) w → Q (.panic c) a w) (hs : Region.sinkB md ops n = true) (hin : i < n) :
    ∀ (f : Nat) (l : Array Bool) (a : Act) (w : World), Deps md ops l → l.getD n false = false →
      (∀ j oj, ops[j]? = some oj → j ≠ i → l.getD j true = false → (∀ e ∈ oj.after, Region.binds md e = true → e.on ≠ i) → oi.apart ops oj = true) →
      i ∈ Region.ready md ops l → YieldsIf P ops S oi v a → S w →
      wpTill P md ops Q S n f (l.setIfInBounds i true) (a.put oi.dst v) w → wpTill P md ops Q S n (f + 1) l a w := by
  intro f
  induction f with
  | zero =>
    intro l a w _ _ _ hr hy hS H
    refine ⟨fun h => (by rw [h] at hr; cases hr), fun j hj => ?_⟩
    by_cases hji : j = i
    · subst hji; exact hy.wpOp hi hS ⟨.inl hS, H⟩
    · have := ready_mono hj hji
      rw [H.1] at this
      cases this
  | succ f ih =>
    intro l a w hd hn hfree hr hy hS H
    have hun := (mem_ready.1 hr).1
    refine ⟨fun h => (by rw [h] at hr; cases hr), fun j hj => ?_⟩
    by_cases hji : j = i
    · subst hji; exact hy.wpOp hi hS ⟨.inl hS, H⟩
    · have hjn : j ≠ n := fun e => by subst e; exact sink_not_ready hs hd _ i (Nat.le_refl _) hin hun hj
      obtain ⟨hjun, oj, hoj, hall⟩ := mem_ready.1 hj
      have hnot : ∀ e ∈ oj.after, Region.binds md e = true → e.on ≠ i := fun e he hb heq => by
        have h1 := hall e he hb
        rw [heq, getD_ff hun] at h1
        cases h1
      have h2 := wpOp_putIf hoj (hfree j oj hoj hji hjun hnot) (fun cs b => hsel i oi cs b hi) (fun cs b => hsel j oj cs b hoj) hQ hy (H.2 j (ready_mono hj hji))
      have hn' : (l.setIfInBounds j true).getD n false = false := by rw [getD_set_ne false hjn]; exact hn
      have hfree' : ∀ k ok, ops[k]? = some ok → k ≠ i → (l.setIfInBounds j true).getD k true = false →
          (∀ e ∈ ok.after, Region.binds md e = true → e.on ≠ i) → oi.apart ops ok = true := fun k ok hk hki hun' hno => by
        refine hfree k ok hk hki ?_ hno
        by_cases hjk : j = k
        · subst hjk; exact hjun
        · rw [getD_set_ne true hjk] at hun'; exact hun'
      refine wpOp_mono (fun a' w' h3 => ?_) h2
      obtain ⟨hy', hSw, ht⟩ := h3
      have hSw' : S w' := by
        rcases hSw with h | h
        · exact h
        · rw [getD_set_ne false hjn, getD_set_ne false (by omega), hn] at h; cases h
      refine ⟨.inl hSw', ih (l.setIfInBounds j true) a' w' (hd.step hj) hn' hfree' (ready_mono hr (Ne.symm hji)) hy' hSw' ?_⟩
      rw [Array.setIfInBounds_comm _ _ hji]
      exact ht
theorem wpTill_alone {k f : Nat} {l : Array Bool} {a : Act} {w : World} (hr : Region.ready md ops l = [k])
    (h : wpOp P ops Q k (fun a' w' => (S w' ∨ (l.setIfInBounds k true).getD n false = true) ∧ wpTill P md ops Q S n f (l.setIfInBounds k true) a' w') a w) : wpTill P md ops Q S n (f + 1) l a w := by
  refine ⟨fun h0 => ?_, fun i hi => ?_⟩
  · rw [hr] at h0; cases h0
  · rw [hr] at hi
    have : i = k := by simpa using hi
    subst this
    exact h

def mixB (md : Region.Mode) (ops : Array Oper) (n : Nat) : List (Nat × Nat) → Array Bool → Bool
  | [], l => (Region.ready md ops l).isEmpty
  | (k, 0) :: r, l => (Region.ready md ops l).contains k && Region.free md ops l k && decide (k < n) && !l.getD n false && mixB md ops n r (l.setIfInBounds k true)
  | (k, 1) :: r, l => decide (Region.ready md ops l = [k]) && mixB md ops n r (l.setIfInBounds k true)
  | (k, _ + 2) :: r, l => decide (Region.ready md ops l = [k]) && (l.setIfInBounds k true).getD n false && mixB md ops n r (l.setIfInBounds k true)

def wpMix (P : Program) (ops : Array Oper) (Q : Exit → Act → World → Prop) (S : World → Prop) : List (Nat × Oper) → Act → World → Prop
  | [], a, w => Q .normal a w
  | (0, o) :: r, a, w => if Region.wanted o (yielded ops a.tmps) then ∃ v, (∀ W, S W → (execOp a.eval o).run P W = .ok (.value v) W) ∧ wpMix P ops Q S r (a.put o.dst v) w else wpMix P ops Q S r (a.put o.dst undef) w
  | (1, o) :: r, a, w => if Region.wanted o (yielded ops a.tmps) then o.wp P a w (fun a' w' => S w' ∧ wpMix P ops Q S r a' w') Q else wpMix P ops Q S r (a.put o.dst undef) w
  | (_ + 2, o) :: r, a, w => if Region.wanted o (yielded ops a.tmps) then o.wp P a w (wpMix P ops Q S r) Q else wpMix P ops Q S r (a.put o.dst undef) w

def pickO (l : List Oper) : List (Nat × Nat) → List (Nat × Oper)
  | [] => []
  | (k, b) :: r => match l[k]? with
    | some o => (b, o) :: pickO l r
    | none => pickO l r

theorem wpTill_of_mix {l : List Oper} (hsel : Region.noSelect l.toArray = true) (hs : Region.sinkB md l.toArray n = true) (hQ : ∀ c a d v w, Q (.panic c) (Act.put a d v) w → Q (.panic c) a w) :
    ∀ (ord : List (Nat × Nat)) (t : Array Bool) (a : Act) (w : World), Deps md l.toArray t → (S w ∨ t.getD n false = true) → mixB md l.toArray n ord t = true →
      wpMix P l.toArray Q S (pickO l ord) a w → wpTill P md l.toArray Q S n ord.length t a w := by
  intro ord
  induction ord with
  | nil => intro t a w _ _ hB h; exact ⟨by simpa [mixB] using hB, h⟩
  | cons p r ih =>
    intro t a w hd hS hB h
    obtain ⟨k, b⟩ := p
    have hkr : k ∈ Region.ready md l.toArray t := by
      match b, hB with
      | 0, hB => simp only [mixB, Bool.and_eq_true] at hB; simpa using hB.1.1.1.1
      | 1, hB => simp only [mixB, Bool.and_eq_true, decide_eq_true_eq] at hB; rw [hB.1]; simp
      | _ + 2, hB => simp only [mixB, Bool.and_eq_true, decide_eq_true_eq] at hB; rw [hB.1.1]; simp
    obtain ⟨_, o, ho, _⟩ := mem_ready.1 hkr
    have ho' : l[k]? = some o := by simpa using ho
    have hd' := hd.step hkr
    simp only [pickO, ho'] at h
    match b, hB, h with
    | 0, hB, h =>
      simp only [mixB, Bool.and_eq_true, decide_eq_true_eq, Bool.not_eq_true'] at hB
      obtain ⟨⟨⟨⟨_, hf⟩, hkn⟩, htn⟩, hB⟩ := hB
      have hSw : S w := by
        rcases hS with h | h
        · exact h
        · rw [htn] at h; cases h
      simp only [wpMix] at h
      by_cases hw : Region.wanted o (yielded l.toArray a.tmps) = true
      · rw [if_pos hw] at h
        obtain ⟨v, hv, h⟩ := h
        exact wpTill_first ho (Region.noSelect_spec hsel) (fun c a w => hQ c a _ v w) hs hkn _ t a w hd htn (Region.free_spec ho hf) hkr (.inl ⟨hw, hv⟩) hSw (ih _ _ _ hd' (.inl hSw) hB h)
      · rw [if_neg hw] at h
        exact wpTill_first ho (Region.noSelect_spec hsel) (fun c a w => hQ c a _ undef w) hs hkn _ t a w hd htn (Region.free_spec ho hf) hkr (.inr ⟨by simpa using hw, rfl⟩) hSw (ih _ _ _ hd' (.inl hSw) hB h)
    | 1, hB, h =>
      simp only [mixB, Bool.and_eq_true, decide_eq_true_eq] at hB
      refine wpTill_alone hB.1 ?_
      unfold wpOp
      simp only [ho]
      simp only [wpMix] at h
      by_cases hw : Region.wanted o (yielded l.toArray a.tmps) = true
      · rw [if_pos hw] at h ⊢
        exact .inl (Oper.wp_mono (fun a' w' h' => ⟨.inl h'.1, ih _ _ _ hd' (.inl h'.1) hB.2 h'.2⟩) h)
      · rw [if_neg hw] at h ⊢
        have hS' : S w ∨ (t.setIfInBounds k true).getD n false = true := hS.imp id getD_set_true
        exact ⟨hS', ih _ _ _ hd' hS' hB.2 h⟩
    | b + 2, hB, h =>
      simp only [mixB, Bool.and_eq_true, decide_eq_true_eq] at hB
      refine wpTill_alone hB.1.1 ?_
      unfold wpOp
      simp only [ho]
      simp only [wpMix] at h
      by_cases hw : Region.wanted o (yielded l.toArray a.tmps) = true
      · rw [if_pos hw] at h ⊢
        exact .inl (Oper.wp_mono (fun a' w' h' => ⟨.inr hB.1.2, ih _ _ _ hd' (.inr hB.1.2) hB.2 h'⟩) h)
      · rw [if_neg hw] at h ⊢
        exact ⟨.inr hB.1.2, ih _ _ _ hd' (.inr hB.1.2) hB.2 h⟩

theorem wp_region_mix {id : Nat} {a : Act} {w : World} {l : List Oper} (ord : List (Nat × Nat)) (n : Nat) (S : World → Prop) (hm : P.follows .mixedOrders = true)
    (hB : (Region.noSelect l.toArray && Region.sinkB .any l.toArray n && decide (ord.length = l.length) && mixB .any l.toArray n ord (Array.replicate l.toArray.size false)) = true)
    (hQ : ∀ c a d v w, Q (.panic c) (Act.put a d v) w → Q (.panic c) a w) (hS : S w.drew) (h : wpMix P l.toArray Q S (pickO l ord) a w.drew) : (Code.region id l.toArray true).wp P Q a w := by
  simp only [Bool.and_eq_true, decide_eq_true_eq] at hB
  obtain ⟨⟨⟨h1, h2⟩, h3⟩, h4⟩ := hB
  refine wp_region_any hm (wpAny_of_till _ _ _ _ (n := n) (S := S) ?_)
  have := wpTill_of_mix (P := P) (S := S) h1 h2 hQ ord _ a w.drew Deps.start (.inl hS) h4 h
  rw [h3] at this
  exact this

theorem mix_take {o : Oper} {r : List (Nat × Oper)} {a : Act} {w : World}
    (h : ∀ K : Act → Prop, (∀ a, wpMix P ops Q S r a w → K a) → if Region.wanted o (yielded ops a.tmps) then ∃ v, (∀ W, S W → (execOp a.eval o).run P W = .ok (.value v) W) ∧ K (a.put o.dst v) else K (a.put o.dst undef)) :
    wpMix P ops Q S ((0, o) :: r) a w := h (fun a => wpMix P ops Q S r a w) (fun _ h => h)
theorem mix_one {o : Oper} {r : List (Nat × Oper)} {a : Act} {w : World}
    (h : ∀ K : Act → World → Prop, (∀ a w, S w → wpMix P ops Q S r a w → K a w) → (S w → if Region.wanted o (yielded ops a.tmps) then o.wp P a w K Q else K (a.put o.dst undef) w)) (hS : S w) :
    wpMix P ops Q S ((1, o) :: r) a w := by
  simp only [wpMix]
  have h2 := h (fun a' w' => S w' ∧ wpMix P ops Q S r a' w') (fun a w h1 h2 => ⟨h1, h2⟩) hS
  by_cases hw : Region.wanted o (yielded ops a.tmps) = true
  · rw [if_pos hw] at h2 ⊢; exact h2
  · rw [if_neg hw] at h2 ⊢; exact h2.2
theorem mix_two {o : Oper} {r : List (Nat × Oper)} {a : Act} {w : World} {b : Nat}
    (h : ∀ K : Act → World → Prop, (∀ a w, wpMix P ops Q S r a w → K a w) → if Region.wanted o (yielded ops a.tmps) then o.wp P a w K Q else K (a.put o.dst undef) w) :
    wpMix P ops Q S ((b + 2, o) :: r) a w := h (wpMix P ops Q S r) (fun _ _ h => h)
end

structure XF (F : Nat → Prop) (w : World) where
  val : World
  upd : Upd F w val
instance (F : Nat → Prop) (w : World) : Nonempty (XF F w) := ⟨⟨w, Upd.refl _ w⟩⟩
end Go.Hw
