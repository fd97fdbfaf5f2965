/- Maps of integers to integers that a call makes: said by a function. -/
import Derived.Test.YtlbnilhbfiidmaaDoorL1
import Derived.Maps.OwnSet
import Derived.Maps.OwnOps
namespace Go.Hw
open Go.RowKit Go.Maps
set_option linter.unusedVariables false
set_option linter.unusedSimpArgs false

def Fits (x : Int) : Prop := -9223372036854775808 ≤ x ∧ x ≤ 9223372036854775807
theorem fits_wf {x : Int} (h : Fits x) : (Lit.int .i64 x).wf = true := by
  obtain ⟨h1, h2⟩ := h
  simp [Lit.wf, IntKind.min, IntKind.max, IntKind.signed, IntKind.bits]
  omega
def updF (F : Int → Option Int) (k v : Int) : Int → Option Int := fun j => if j = k then some v else F j
section
variable {P : Program}
/-- block b is a map of integers to integers, at most n entries: F -/
def IMap (P : Program) (T : TypeId) (w : World) (b n : Nat) (F : Int → Option Int) : Prop :=
  ∃ D : DataW Unit, w.ownsMap P T (plainElem P T) b n D ∧ IsMap D ∧ ∀ k, has D (.int .i64 k) = (F k).isSome ∧ ∀ z, D.atKey (.int .i64 k) z = match F k with | some v => .lit (.int .i64 v) | none => z
theorem IMap.made (T : TypeId) (w : World) : IMap P T (w.alloc (.map #[] 0)) w.heap.size 0 (fun _ => none) :=
  ⟨.map [], World.ownsMap_made _ _ _ _, isMap_empty, fun k => ⟨rfl, fun z => rfl⟩⟩
theorem IMap.kept {T : TypeId} {w w' : World} {b n : Nat} {F : Int → Option Int} (h : IMap P T w b n F) (hb : w'.heap[b]? = w.heap[b]?) : IMap P T w' b n F := by
  obtain ⟨D, ⟨es, clock, h1, F1, h2, h3⟩, hm, hk⟩ := h
  exact ⟨D, ⟨es, clock, hb.trans h1, F1, h2, h3⟩, hm, hk⟩
theorem int_lit_ne {a b : Int} (h : a ≠ b) : Lit.int .i64 a ≠ Lit.int .i64 b := fun e => by injection e; exact h ‹_›
theorem keylit (k : Int) : WideAt.IsKeyLit (.int .i64 k) := trivial
theorem wpList_iput {ops : Array Oper} {rest : List Oper} {o : Oper} {a : Act} {Q : Exit → Act → World → Prop} (w : World) (hg : o.guard = none) (m x v : Operand) (t : TypeId) (hop : o.op = Op.mapUpdate t m x v)
    (T : TypeId) (hT : P.underlying T = some (.int .i64)) (ht : P.underlying t = some (.map T T)) (b n : Nat) (F : Int → Option Int) (hm : a.eval m = .map (some b)) (h : IMap P T w b n F) (hn : n < maxLen)
    (k y : Int) (hx : a.eval x = .int .i64 k) (hv : a.eval v = .int .i64 y) (fk : Fits k) (fy : Fits y)
    (hK : ∀ w', IMap P T w' b (n + 1) (updF F k y) → Upd (fun j => j = b) w w' → wpList P ops Q rest (a.put o.dst undef) w') : wpList P ops Q (o :: rest) a w := by
  obtain ⟨D, hown, hmap, hk⟩ := h
  refine wpList_mapUpdate_own w hg m x v t hop T T (int_keyed hT) ht (plainElem P T) b n D hm hown hn _ _ _ hx hv (keyOf_int_mk hT (fits_wf fk)) _ [] (plainElem_int hT (fits_wf fy)) ?_
  intro w' h1 h2
  refine hK w' ⟨_, h1, hmap.put _ _, fun j => ?_⟩ ((Upd.of_grown h2).mono (fun i _ hi => (Option.some.inj hi)))
  unfold updF
  by_cases e : j = k
  · subst e
    rw [if_pos rfl, has_put_same hmap (keylit j)]
    exact ⟨rfl, fun z => atKey_put_same hmap (keylit j) _ z⟩
  · rw [if_neg e, has_put_other (int_lit_ne e)]
    exact ⟨(hk j).1, fun z => (atKey_put_other (int_lit_ne e) _ z).trans ((hk j).2 z)⟩
theorem wpList_iget {ops : Array Oper} {rest : List Oper} {o : Oper} {a : Act} {Q : Exit → Act → World → Prop} (w : World) (hg : o.guard = none) (m x : Operand) (t : TypeId) (hop : o.op = Op.lookup t m x true)
    (T : TypeId) (hT : P.underlying T = some (.int .i64)) (ht : P.underlying t = some (.map T T)) (hz : (zeroValue T).run P w = .ok (.int .i64 0) w) (b n : Nat) (F : Int → Option Int) (hm : a.eval m = .map (some b)) (h : IMap P T w b n F)
    (k : Int) (hx : a.eval x = .int .i64 k) (fk : Fits k)
    (hK : wpList P ops Q rest (a.put o.dst (.tuple #[.int .i64 ((F k).getD 0), .bool (F k).isSome])) w) : wpList P ops Q (o :: rest) a w := by
  obtain ⟨D, hown, hmap, hk⟩ := h
  refine wpList_lookup_own_ok_int w hg m x t hop T T .i64 (int_keyed hT) ht hT hz b n D hm hown _ _ hx (keyOf_int_mk hT (fits_wf fk)) ?_
  intro c hc _
  rw [(hk k).2] at hc
  rw [(hk k).1]
  cases hF : F k with
  | none =>
    rw [hF] at hc hK
    simp only at hc
    injection hc with hc
    injection hc with _ hc
    subst hc
    exact hK
  | some v =>
    rw [hF] at hc hK
    simp only at hc
    injection hc with hc
    injection hc with _ hc
    subst hc
    exact hK
/-- the run of 'm[k] = y' -/
theorem IMap.put {T t : TypeId} {w : World} {b n : Nat} {F : Int → Option Int} (h : IMap P T w b n F) (hT : P.underlying T = some (.int .i64)) (ht : P.underlying t = some (.map T T)) (hn : n < maxLen) (k y : Int) (fk : Fits k) (fy : Fits y) :
    ∃ w', (Instr.mapUpdate t (.map (some b)) (.int .i64 k) (.int .i64 y)).run P w = .ok () w' ∧ IMap P T w' b (n + 1) (updF F k y) ∧ Upd (fun j => j = b) w w' := by
  obtain ⟨D, hown, hmap, hk⟩ := h
  obtain ⟨w', hr, h1, h2⟩ := hown.update (int_keyed hT) ht hn (keyOf_int_mk hT (fits_wf fk)) (plainElem_int hT (fits_wf fy))
  refine ⟨w', hr, ⟨_, h1, hmap.put _ _, fun j => ?_⟩, (Upd.of_grown h2).mono (fun i _ hi => (Option.some.inj hi))⟩
  unfold updF
  by_cases e : j = k
  · subst e
    rw [if_pos rfl, has_put_same hmap (keylit j)]
    exact ⟨rfl, fun z => atKey_put_same hmap (keylit j) _ z⟩
  · rw [if_neg e, has_put_other (int_lit_ne e)]
    exact ⟨(hk j).1, fun z => (atKey_put_other (int_lit_ne e) _ z).trans ((hk j).2 z)⟩
/-- the run of 'v, ok := m[k]' -/
theorem IMap.get {T t : TypeId} {w : World} {b n : Nat} {F : Int → Option Int} (h : IMap P T w b n F) (hT : P.underlying T = some (.int .i64)) (ht : P.underlying t = some (.map T T)) (hz : (zeroValue T).run P w = .ok (.int .i64 0) w) (k : Int) (fk : Fits k) :
    (Instr.lookup t (.map (some b)) (.int .i64 k) true).run P w = .ok (.tuple #[.int .i64 ((F k).getD 0), .bool (F k).isSome]) w := by
  obtain ⟨D, hown, hmap, hk⟩ := h
  obtain ⟨v, ps, hrun, hv⟩ := hown.look_ok (int_keyed hT) ht hz (plainElem_int hT (by decide)) (keyOf_int_mk hT (fits_wf fk))
  obtain ⟨c, rfl, hc, _⟩ := plainElem_int_inv hT hv
  rw [hrun, (hk k).1]
  have hc1 := congrArg Prod.fst hc
  simp only at hc1
  rw [(hk k).2] at hc1
  cases hF : F k with
  | none =>
    rw [hF] at hc1
    simp only at hc1
    injection hc1 with hc1
    injection hc1 with _ hc1
    rw [← hc1]; rfl
  | some v =>
    rw [hF] at hc1
    simp only at hc1
    injection hc1 with hc1
    injection hc1 with _ hc1
    rw [← hc1]; rfl
end
end Go.Hw
