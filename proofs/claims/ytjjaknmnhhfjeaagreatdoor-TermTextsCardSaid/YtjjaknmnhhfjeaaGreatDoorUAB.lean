/- The texts L1 TP TM TF TV TC TK L2 MP TW L3, one behind the other. -/
import Derived.WalkKit
import Derived.WalkSpells
import Derived.Lib.Hide
import Derived.BigQuiet
import Derived.Deep.QuietTactic
import Derived.Deep.LoopGhost
import Derived.StillTailTactics
import Derived.RangeFuncRecord
import Derived.RangeFuncKeeps
import Derived.MapKept
import Derived.WideKeyRuns
import Derived.OrdersHeld
import Derived.StillTail
/- Small laws of the prover's own, over any program: what stays of memory, slices that are read, slices that grow. -/
namespace Go.Hw
open Go.RowKit
set_option linter.unusedVariables false
set_option linter.unusedSimpArgs false

structure Upd (F : Nat → Prop) (w w' : World) : Prop where
  os : w'.os = w.os
  tape : w'.tape = w.tape
  output : w'.output = w.output
  size : w.heap.size ≤ w'.heap.size
  block : ∀ k, k < w.heap.size → ¬ F k → w'.heap[k]? = w.heap[k]?

abbrev Ext (w w' : World) : Prop := Upd (fun _ => False) w w'

theorem Upd.refl (F : Nat → Prop) (w : World) : Upd F w w := ⟨rfl, rfl, rfl, Nat.le_refl _, fun _ _ _ => rfl⟩
theorem Upd.trans {F : Nat → Prop} {a b c : World} (h : Upd F a b) (k : Upd F b c) : Upd F a c :=
  ⟨k.os.trans h.os, k.tape.trans h.tape, k.output.trans h.output, Nat.le_trans h.size k.size,
   fun i hi hf => (k.block i (Nat.lt_of_lt_of_le hi h.size) hf).trans (h.block i hi hf)⟩
theorem Upd.mono {F G : Nat → Prop} {a b : World} (h : Upd F a b) (hFG : ∀ k, k < a.heap.size → F k → G k) : Upd G a b :=
  ⟨h.os, h.tape, h.output, h.size, fun i hi hf => h.block i hi (fun x => hf (hFG i hi x))⟩
theorem Upd.trans' {F G : Nat → Prop} {a b c : World} (h : Upd F a b) (k : Upd G b c) (hs : ∀ i, i < a.heap.size → G i → F i) : Upd F a c :=
  ⟨k.os.trans h.os, k.tape.trans h.tape, k.output.trans h.output, Nat.le_trans h.size k.size,
   fun i hi hf => (k.block i (Nat.lt_of_lt_of_le hi h.size) (fun g => hf (hs i hi g))).trans (h.block i hi hf)⟩
theorem Upd.ext {F : Nat → Prop} {a b c : World} (h : Upd F a b) (k : Ext b c) : Upd F a c := h.trans' k (fun _ _ x => x.elim)
theorem Upd.drew {F : Nat → Prop} {a w : World} (h : Upd F a w) : Upd F a w.drew := ⟨h.os, h.tape, h.output, h.size, h.block⟩
theorem Upd.drewN' {F : Nat → Prop} {a w : World} (h : Upd F a w) (n : Nat) : Upd F a (w.drewN n) := ⟨h.os, h.tape, h.output, h.size, h.block⟩
theorem Upd.alloc {F : Nat → Prop} {a w : World} (h : Upd F a w) (o : Obj) : Upd F a (w.alloc o) :=
  h.trans ⟨rfl, rfl, rfl, by simp, fun k hk _ => Below.heap_alloc _ _ _ hk⟩
theorem Upd.setCell {F : Nat → Prop} {a w : World} (h : Upd F a w) {p : Addr} (hp : F p.block ∨ a.heap.size ≤ p.block) (u : Value) : Upd F a (w.setCell p u) :=
  ⟨h.os, h.tape, h.output, by simpa [World.setCell] using h.size, fun k hk hf => by
    rw [Below.heap_setCell _ _ _ _ (by intro e; subst e; rcases hp with hp | hp; exact hf hp; omega)]; exact h.block k hk hf⟩
theorem Upd.of_grown {w w' : World} {row : Option Nat} (h : w.grownBy w' row) : Upd (fun k => some k = row) w w' :=
  ⟨h.os, h.tape, h.output, h.size, fun k hk hf => h.block k hk hf⟩
theorem Upd.grown {F : Nat → Prop} {a w w' : World} {row : Option Nat} (h : Upd F a w) (hg : w.grownBy w' row) (hr : ∀ k, row = some k → F k ∨ a.heap.size ≤ k) : Upd F a w' :=
  ⟨hg.os.trans h.os, hg.tape.trans h.tape, hg.output.trans h.output, Nat.le_trans h.size hg.size,
   fun i hi hf => (hg.block i (Nat.lt_of_lt_of_le hi h.size) (fun e => by rcases hr i e.symm with h | h; exact hf h; omega)).trans (h.block i hi hf)⟩
theorem Upd.cell {F : Nat → Prop} {w w' : World} (h : Upd F w w') {p : Addr} {v : Value} (hc : w.cell? p = some v) (hp : ¬ F p.block) : w'.cell? p = some v :=
  (World.cell?_of_block (w := w) (h.block p.block (World.block_lt_of_cell? w p hc) hp)).trans hc
theorem Upd.below {F : Nat → Prop} {W w w' : World} {B : Nat} (h : Upd F w w') (hW : Below B W w) (hB : B ≤ w.heap.size) (hF : ∀ k, F k → B ≤ k) : Below B W w' :=
  hW.trans ⟨h.os, h.tape, h.output, h.size, fun k hk => h.block k (by omega) (fun e => by have := hF k e; omega)⟩
theorem Ext.below {w w' : World} (h : Ext w w') : Below w.heap.size w w' := ⟨h.os, h.tape, h.output, h.size, fun k hk => h.block k hk (fun x => x)⟩
theorem Upd.heap {F : Nat → Prop} {w w' : World} (h : Upd F w w') {b : Nat} {o : Obj} (hb : w.heap[b]? = some o) (hF : ¬ F b) : w'.heap[b]? = some o :=
  (h.block b (Array.getElem?_eq_some_iff.1 hb).1 hF).trans hb

theorem cellRow {w : World} {b : Nat} {cs : Array Value} {t : TypeId} (h : w.heap[b]? = some (.cells cs t (0, 0))) (i : Nat) (v : Value) (hv : cs[i]? = some v) : w.cell? ⟨b, i, none⟩ = some v := by
  rw [cell_of_row w b i cs t _ h, hv]
theorem frozenRow {w : World} {b : Nat} {cs : Array Value} {t : TypeId} (h : w.heap[b]? = some (.cells cs t (0, 0))) (i : Nat) : w.frozen? ⟨b, i, none⟩ = false := frozen_of_row w b i cs t h

def Stop (p : Prop) : Prop := p
theorem Stop.go {p : Prop} (h : p) : Stop p := h
theorem stop_at {P : Program} {ops : Array Oper} {Q : Exit → Act → World → Prop} {rest : List Oper} {a : Act} {w : World} {o : Oper}
    (h : Stop (wpList P ops Q (o :: rest) a w)) : wpList P ops Q (o :: rest) a w := h

theorem alloc0 (w : World) (o : Obj) : (w.alloc o).heap[w.heap.size]? = some o := by
  show (w.heap.push o)[w.heap.size]? = some o
  simp
theorem alloc_at (w : World) (o : Obj) {n : Nat} (h : n = w.heap.size) : (w.alloc o).heap[n]? = some o := by subst h; exact alloc0 w o
theorem allocOld {w : World} {k : Nat} {x : Obj} (h : w.heap[k]? = some x) (o : Obj) : (w.alloc o).heap[k]? = some x := by
  rw [Below.heap_alloc _ _ _ (Array.getElem?_eq_some_iff.1 h).1]; exact h
theorem alloc_size (w : World) (o : Obj) : (w.alloc o).heap.size = w.heap.size + 1 := by simp

/-! ### a slice that is only read: n elements of size cells each, its cells cs, its block among S -/
def SlR (S : Nat → Prop) (w : World) (size : Nat) (v : Value) (n : Nat) (cs : List Value) : Prop :=
  cs.length = n * size ∧
  ((v = .slice none 0 0 ∧ n = 0) ∨
   ∃ ad cap, v = .slice (some ad) n cap ∧ n ≤ cap ∧ (0 < n → ad.spot = none ∧ S ad.block) ∧ ∀ j, j < n * size → w.cell? ⟨ad.block, ad.off + j, none⟩ = cs[j]?)

section
variable {S T F : Nat → Prop} {w w' : World} {size : Nat} {v : Value} {n : Nat} {cs : List Value}
theorem SlR.nil (S : Nat → Prop) (w : World) (size : Nat) : SlR S w size (.slice none 0 0) 0 [] := ⟨by simp, .inl ⟨rfl, rfl⟩⟩
theorem SlR.mk' {g off cap : Nat} (hl : cs.length = n * size) (hv : v = .slice (some ⟨g, off, none⟩) n cap) (hc : n ≤ cap) (hS : 0 < n → S g) (hj : ∀ j, j < n * size → w.cell? ⟨g, off + j, none⟩ = cs[j]?) :
    SlR S w size v n cs := ⟨hl, .inr ⟨_, cap, hv, hc, fun h => ⟨rfl, hS h⟩, hj⟩⟩
theorem SlR.empty (S : Nat → Prop) (w : World) (size : Nat) (a : Addr) (cap : Nat) : SlR S w size (.slice (some a) 0 cap) 0 [] :=
  ⟨by simp, .inr ⟨a, cap, rfl, Nat.zero_le _, fun h => absurd h (Nat.lt_irrefl 0), fun j hj => by simp at hj⟩⟩
theorem SlR.weaken (h : SlR S w size v n cs) (hs : ∀ k, S k → T k) : SlR T w size v n cs := by
  refine ⟨h.1, ?_⟩
  rcases h.2 with h | ⟨ad, cap, hv, hc, hg, hj⟩
  · exact .inl h
  · exact .inr ⟨ad, cap, hv, hc, fun h => ⟨(hg h).1, hs _ (hg h).2⟩, hj⟩
theorem pos_of_lt {n j size : Nat} (h : j < n * size) : 0 < n := by
  cases n with
  | zero => simp at h
  | succ n => omega
theorem SlR.kept (h : SlR S w size v n cs) (hu : Upd F w w') (hF : ∀ k, S k → ¬ F k) : SlR S w' size v n cs := by
  refine ⟨h.1, ?_⟩
  rcases h.2 with h2 | ⟨ad, cap, hv, hc, hg, hj⟩
  · exact .inl h2
  · refine .inr ⟨ad, cap, hv, hc, hg, fun j hj' => ?_⟩
    have h1 := hj j hj'
    rw [List.getElem?_eq_getElem (by rw [h.1]; exact hj')] at h1 ⊢
    exact hu.cell h1 (hF _ (hg (pos_of_lt hj')).2)
theorem SlR.drewN (h : SlR S w size v n cs) (k : Nat) : SlR S (w.drewN k) size v n cs := h
theorem SlR.drew (h : SlR S w size v n cs) : SlR S w.drew size v n cs := h
theorem SlR.shape (h : SlR S w size v n cs) : ∃ a cap, v = .slice a n cap := by
  rcases h.2 with ⟨h1, h2⟩ | ⟨ad, cap, hv, _⟩
  · exact ⟨none, 0, by rw [h1, h2]⟩
  · exact ⟨_, _, hv⟩
theorem SlR.pos (h : SlR S w size v n cs) (hn : 0 < n) : ∃ g off cap, v = .slice (some ⟨g, off, none⟩) n cap ∧ n ≤ cap ∧ S g ∧ ∀ j, j < n * size → w.cell? ⟨g, off + j, none⟩ = cs[j]? := by
  rcases h.2 with ⟨h1, h2⟩ | ⟨ad, cap, hv, hc, hg, hj⟩
  · omega
  · obtain ⟨g, off, spot⟩ := ad
    obtain ⟨h1, h2⟩ := hg hn
    simp only at h1
    subst h1
    exact ⟨g, off, cap, hv, hc, h2, hj⟩
theorem SlR.of_own {base e : Nat} (h : w.ownsRow base e size v n cs) : SlR (fun k => v.ownBlock = Option.some k) w size v n cs := by
  refine ⟨h.1, ?_⟩
  rcases h.2 with h2 | ⟨g, cap, cur, rfl, hb, hg, hc, hm, hs, ht⟩
  · exact .inl h2
  · refine .inr ⟨⟨g, 0, Option.none⟩, cap, rfl, hc, fun _ => ⟨rfl, rfl⟩, fun j hj => ?_⟩
    rw [Nat.zero_add]; exact World.ownsRow.cellAt h j hj
theorem own_kept {base e : Nat} (h : w.ownsRow base e size v n cs) (hu : Upd F w w') (hF : ∀ k, v.ownBlock = Option.some k → ¬ F k) : w'.ownsRow base e size v n cs := by
  refine ⟨h.1, ?_⟩
  rcases h.2 with h2 | ⟨g, cap, cur, rfl, hb, hg, rest⟩
  · exact .inl h2
  · exact .inr ⟨g, cap, cur, rfl, hb, hu.heap hg (hF g rfl), rest⟩
theorem own_shape {base e : Nat} (h : w.ownsRow base e size v n cs) : ∃ a cap, v = .slice a n cap := (SlR.of_own h).shape
theorem SlR.to (h : SlR S w size v n cs) {a : Option Addr} {m cap : Nat} (hv : v = .slice a m cap) (k : Nat) (hk : k ≤ n) :
    SlR S w size (.slice a k cap) k (cs.take (k * size)) := by
  have hle : k * size ≤ n * size := Nat.mul_le_mul_right _ hk
  refine ⟨by rw [List.length_take, h.1]; omega, ?_⟩
  rcases h.2 with ⟨h1, h2⟩ | ⟨ad, cap', h1, hc, hg, hj⟩
  · rw [h1] at hv; injection hv with e1 e2 e3
    subst e1; subst e3
    have : k = 0 := by omega
    subst this
    exact .inl ⟨rfl, rfl⟩
  · rw [h1] at hv; injection hv with e1 e2 e3
    subst e1; subst e3
    refine .inr ⟨ad, cap', rfl, by omega, fun h => hg (by omega), fun j hj' => ?_⟩
    rw [hj j (by omega), List.getElem?_take_of_lt hj']
theorem SlR.from (h : SlR S w size v n cs) {a : Option Addr} {m cap : Nat} (hv : v = .slice a m cap) (k : Nat) (hk : k ≤ n) :
    SlR S w size (sliced a k n cap size) (n - k) (cs.drop (k * size)) := by
  have hle : k * size ≤ n * size := Nat.mul_le_mul_right _ hk
  refine ⟨by rw [List.length_drop, h.1, Nat.sub_mul], ?_⟩
  rcases h.2 with ⟨h1, h2⟩ | ⟨ad, cap', h1, hc, hg, hj⟩
  · rw [h1] at hv; injection hv with e1 e2 e3
    subst e1; subst e3
    have : k = 0 := by omega
    subst this
    subst h2
    exact .inl ⟨by simp [sliced], rfl⟩
  · rw [h1] at hv; injection hv with e1 e2 e3
    subst e1; subst e3
    by_cases he : cap' = k
    · have hn : n = k := by omega
      refine .inr ⟨ad, cap' - k, by simp [sliced, he], by omega, fun h => by omega, fun j hj' => ?_⟩
      simp [hn] at hj'
    · refine .inr ⟨ad.add (k * size), cap' - k, ?_, by omega, fun h => ?_, fun j hj' => ?_⟩
      · simp only [sliced, if_neg he, Option.map_some]
      · obtain ⟨h1, h2⟩ := hg (by omega)
        unfold Addr.add
        split
        · exact ⟨h1, h2⟩
        · exact ⟨rfl, h2⟩
      · have e1 : (ad.add (k * size)).block = ad.block := by unfold Addr.add; split <;> rfl
        have e2 : (ad.add (k * size)).off = ad.off + k * size := by
          unfold Addr.add; split
          · rename_i h0; simp [h0]
          · rfl
        rw [e1, e2, List.getElem?_drop, Nat.add_assoc]
        exact hj _ (by rw [Nat.sub_mul] at hj'; omega)
theorem SlR.cellAt (h : SlR S w size v n cs) {g off cap m : Nat} (hv : v = .slice (some ⟨g, off, none⟩) m cap) {j : Nat} (hj : j < n * size) : w.cell? ⟨g, off + j, none⟩ = cs[j]? := by
  rcases h.2 with ⟨h1, h2⟩ | ⟨ad, cap', h1, hc, hg, hj'⟩
  · rw [h2] at hj; simp at hj
  · rw [h1] at hv; injection hv with e1 e2 e3
    injection e1 with e1
    subst e1
    exact hj' j hj
theorem SlR.le_cap (h : SlR S w size v n cs) {a : Option Addr} {m cap : Nat} (hv : v = .slice a m cap) : n ≤ cap := by
  rcases h.2 with ⟨h1, h2⟩ | ⟨ad, cap', h1, hc, _⟩
  · rw [h1] at hv; injection hv with e1 e2 e3; omega
  · rw [h1] at hv; injection hv with e1 e2 e3; omega
end

section
variable {P : Program} (w : World)
theorem append_block (base : Nat) (t ty e : TypeId) (i : TypeInfo) (z : Value) (size bytes : Nat) (ht : P.underlying t = some (.slice e)) (hi : P.info? e = some i) (hz : i.zero = some z)
    (hsize : i.size = size) (hby : i.bytes = bytes) 
    (v : Value) (n : Nat) (xs : List Value) (hown : w.ownsRow base e size v n xs)
    (a : Addr) (m c : Nat) (news : List Value) (hl : news.length = m * size) (hnews : ∀ j u, news[j]? = some u → w.cell? (a.add j) = some u) (h1 : ∀ u ∈ news, u.oneCell' = true)
    (h63 : n + m ≤ maxLen) (hbytes : (n + m) * bytes ≤ 140737488355328) {v' : Value} {w' : World}
    (hr : (Builtin.append_ #[t, t] ty #[v, .slice (some a) m c]).run P w = .ok v' w') : v'.ownBlock = v.ownBlock ∨ v'.ownBlock = some w.heap.size := by
  subst hsize
  subst hby
  have hsmall : n + m ≤ 9223372036854775807 := by simp only [maxLen] at h63; omega
  rcases hown.2 with ⟨rfl, rfl⟩ | ⟨g, cap, cur, rfl, hbg, hg, hnc, hcm, hcs, htake⟩
  · by_cases hm : m = 0
    · subst hm
      simp [Builtin.append_, run_underlying ht, sizeOf, typeInfo, hi, Builtin.lenOf, Builtin.firstCells, loadCells, loadCellsFrom] at hr
      left; rw [← hr.1]
    · rw [run_append_nil (P := P) w t ty e i z ht hi hz a m c news hl hnews (by omega) (by omega) (by simp only [Nat.zero_add] at hbytes; omega)] at hr
      injection hr with h2 h3
      right; rw [← h2]; rfl
  · by_cases hroom : n + m ≤ cap
    · have hfit : n * i.size + news.length ≤ cur.size := by rw [hl, hcs, ← Nat.add_mul]; exact Nat.mul_le_mul_right _ hroom
      rw [run_append_room (P := P) w t ty e i ht hi g n cap cur hg a m c news hl hnews h1 hroom hfit] at hr
      injection hr with h2 h3
      left; rw [← h2]; rfl
    · have holds : ∀ j u, xs[j]? = some u → w.cell? ((⟨g, 0, none⟩ : Addr).add j) = some u := hown.cells (g := g) rfl
      rw [run_append_grow (P := P) w t ty e i z ht hi hz ⟨g, 0, none⟩ n cap xs hown.1 holds a m c news hl hnews (by omega) (by omega) (growslice_fits (by omega) hbytes)] at hr
      injection hr with h2 h3
      right; rw [← h2]; rfl

structure Grew (base e size : Nat) (v : Value) (n : Nat) (xs : List Value) (w w' : World) (v' : Value) : Prop where
  own : w'.ownsRow base e size v' n xs
  grown : w.grownBy w' v.ownBlock
  where_ : v'.ownBlock = v.ownBlock ∨ v'.ownBlock = some w.heap.size

theorem Grew.upd {base e size : Nat} {v : Value} {n : Nat} {xs : List Value} {w w' : World} {v' : Value} (h : Grew base e size v n xs w w' v') :
    Upd (fun k => v.ownBlock = some k) w w' := (Upd.of_grown h.grown).mono fun k _ e => e.symm

theorem step_append_at {o : Oper} {a : Act} {K : Act → World → Prop} {Q : Exit → Act → World → Prop} (s x : Operand) (t : TypeId)
    (ho : o.op = .call { callee := .builtin .append, args := #[s, x], argTypes := #[t, t] })
    (base : Nat) (e : TypeId) (i : TypeInfo) (z : Value) (size bytes : Nat) (ht : P.underlying t = some (.slice e)) (hi : P.info? e = some i) (hz : i.zero = some z)
    (hsize : i.size = size) (hby : i.bytes = bytes) (hzs : z.cells.size = size) (hsz : 0 < size)
    (v : Value) (n : Nat) (xs : List Value) (hs : a.eval s = v) (hown : w.ownsRow base e size v n xs)
    (ad : Addr) (m c : Nat) (news : List Value) (hx : a.eval x = .slice (some ad) m c) (hl : news.length = m * size) (hnews : ∀ j u, news[j]? = some u → w.cell? (ad.add j) = some u) (h1 : ∀ u ∈ news, u.oneCell' = true)
    (h63 : n + m ≤ maxLen) (hbytes : (n + m) * bytes ≤ 140737488355328) (hbase : base ≤ w.heap.size)
    (h : ∀ v' w', Grew base e size v (n + m) (xs ++ news) w w' v' → K (a.put o.dst v') w') : o.wp P a w K Q := by
  obtain ⟨v', w', hr, h2, h3, h4⟩ := run_append_own (P := P) w base t o.type e i z size bytes ht hi hz hsize hby hzs hsz v n xs hown ad m c news hl hnews h1 h63 hbytes hbase
  have h5 := append_block (P := P) w base t o.type e i z size bytes ht hi hz hsize hby v n xs hown ad m c news hl hnews h1 h63 hbytes hr
  unfold Oper.wp execOp
  simp only [ho, resolve, invoke, builtin, Sem.run_bind, Sem.run_pure, Result.andThen_ok, List.map_toArray, List.map_cons, List.map_nil, hs, hx, hr]
  exact h v' w' ⟨h2, h3, h5⟩

theorem wpList_append_at {ops : Array Oper} {rest : List Oper} {o : Oper} {a : Act} {Q : Exit → Act → World → Prop} (hgd : o.guard = none) (s x : Operand) (t : TypeId)
    (ho : o.op = .call { callee := .builtin .append, args := #[s, x], argTypes := #[t, t] })
    (base : Nat) (e : TypeId) (i : TypeInfo) (z : Value) (size bytes : Nat) (ht : P.underlying t = some (.slice e)) (hi : P.info? e = some i) (hz : i.zero = some z)
    (hsize : i.size = size) (hby : i.bytes = bytes) (hzs : z.cells.size = size) (hsz : 0 < size)
    (v : Value) (n : Nat) (xs : List Value) (hs : a.eval s = v) (hown : w.ownsRow base e size v n xs)
    (ad : Addr) (m c : Nat) (news : List Value) (hx : a.eval x = .slice (some ad) m c) (hl : news.length = m * size) (hnews : ∀ j u, news[j]? = some u → w.cell? (ad.add j) = some u) (h1 : ∀ u ∈ news, u.oneCell' = true)
    (h63 : n + m ≤ maxLen) (hbytes : (n + m) * bytes ≤ 140737488355328) (hbase : base ≤ w.heap.size)
    (h : ∀ v' w', Grew base e size v (n + m) (xs ++ news) w w' v' → wpList P ops Q rest (a.put o.dst v') w') : wpList P ops Q (o :: rest) a w := by
  obtain ⟨v', w', hr, h2, h3, h4⟩ := run_append_own (P := P) w base t o.type e i z size bytes ht hi hz hsize hby hzs hsz v n xs hown ad m c news hl hnews h1 h63 hbytes hbase
  have h5 := append_block (P := P) w base t o.type e i z size bytes ht hi hz hsize hby v n xs hown ad m c news hl hnews h1 h63 hbytes hr
  refine wpList_plain hgd fun _ hK => ?_
  unfold Oper.wp execOp
  simp only [ho, resolve, invoke, builtin, Sem.run_bind, Sem.run_pure, Result.andThen_ok, List.map_toArray, List.map_cons, List.map_nil, hs, hx, hr]
  exact hK _ _ (h v' w' ⟨h2, h3, h5⟩)

theorem step_append_sl {o : Oper} {a : Act} {K : Act → World → Prop} {Q : Exit → Act → World → Prop} (s x : Operand) (t : TypeId)
    (ho : o.op = .call { callee := .builtin .append, args := #[s, x], argTypes := #[t, t] })
    (base : Nat) (e : TypeId) (i : TypeInfo) (z : Value) (size bytes : Nat) (ht : P.underlying t = some (.slice e)) (hi : P.info? e = some i) (hz : i.zero = some z)
    (hsize : i.size = size) (hby : i.bytes = bytes) (hzs : z.cells.size = size) (hsz : 0 < size)
    (v : Value) (n : Nat) (xs : List Value) (hs : a.eval s = v) (hown : w.ownsRow base e size v n xs)
    (S : Nat → Prop) (sv : Value) (m : Nat) (news : List Value) (hx : a.eval x = sv) (hsl : SlR S w size sv m news) (h1 : ∀ u ∈ news, u.oneCell' = true)
    (h63 : n + m ≤ maxLen) (hbytes : (n + m) * bytes ≤ 140737488355328) (hbase : base ≤ w.heap.size)
    (h : ∀ v' w', Grew base e size v (n + m) (xs ++ news) w w' v' → K (a.put o.dst v') w') : o.wp P a w K Q := by
  rcases hsl.2 with ⟨hv, hm⟩ | ⟨ad, cap, hv, hc, hg, hj⟩
  · have hr := run_append_owned_none (P := P) w base t o.type e i size ht hi v n xs hown
    have hn : news = [] := List.eq_nil_of_length_eq_zero (by rw [hsl.1, hm]; simp)
    subst hn; subst hm
    unfold Oper.wp execOp
    simp only [ho, resolve, invoke, builtin, Sem.run_bind, Sem.run_pure, Result.andThen_ok, List.map_toArray, List.map_cons, List.map_nil, hs, hx, hv, hr]
    exact (h v w ⟨by simpa using hown, ⟨rfl, rfl, rfl, Nat.le_refl _, fun _ _ _ => rfl⟩, .inl rfl⟩)
  · refine step_append_at w s x t ho base e i z size bytes ht hi hz hsize hby hzs hsz v n xs hs hown ad m cap news (by rw [hx, hv]) hsl.1 ?_ h1 h63 hbytes hbase h
    intro j u hu
    have hlt : j < m * size := by rw [← hsl.1]; exact (List.getElem?_eq_some_iff.1 hu).1
    rw [← hu, ← hj j hlt]
    obtain ⟨g, off, spot⟩ := ad
    have hsp := (hg (pos_of_lt hlt)).1
    simp only at hsp
    subst hsp
    congr 1
    unfold Addr.add
    split
    · rename_i h0; simp [h0]
    · rfl

theorem wpList_append_sl {ops : Array Oper} {rest : List Oper} {o : Oper} {a : Act} {Q : Exit → Act → World → Prop} (hgd : o.guard = none) (s x : Operand) (t : TypeId)
    (ho : o.op = .call { callee := .builtin .append, args := #[s, x], argTypes := #[t, t] })
    (base : Nat) (e : TypeId) (i : TypeInfo) (z : Value) (size bytes : Nat) (ht : P.underlying t = some (.slice e)) (hi : P.info? e = some i) (hz : i.zero = some z)
    (hsize : i.size = size) (hby : i.bytes = bytes) (hzs : z.cells.size = size) (hsz : 0 < size)
    (v : Value) (n : Nat) (xs : List Value) (hs : a.eval s = v) (hown : w.ownsRow base e size v n xs)
    (S : Nat → Prop) (sv : Value) (m : Nat) (news : List Value) (hx : a.eval x = sv) (hsl : SlR S w size sv m news) (h1 : ∀ u ∈ news, u.oneCell' = true)
    (h63 : n + m ≤ maxLen) (hbytes : (n + m) * bytes ≤ 140737488355328) (hbase : base ≤ w.heap.size)
    (h : ∀ v' w', Grew base e size v (n + m) (xs ++ news) w w' v' → wpList P ops Q rest (a.put o.dst v') w') : wpList P ops Q (o :: rest) a w := by
  rcases hsl.2 with ⟨hv, hm⟩ | ⟨ad, cap, hv, hc, hg, hj⟩
  · have hr := run_append_owned_none (P := P) w base t o.type e i size ht hi v n xs hown
    have hn : news = [] := List.eq_nil_of_length_eq_zero (by rw [hsl.1, hm]; simp)
    subst hn; subst hm
    refine wpList_plain hgd fun _ hK => ?_
    unfold Oper.wp execOp
    simp only [ho, resolve, invoke, builtin, Sem.run_bind, Sem.run_pure, Result.andThen_ok, List.map_toArray, List.map_cons, List.map_nil, hs, hx, hv, hr]
    exact hK _ _ (h v w ⟨by simpa using hown, ⟨rfl, rfl, rfl, Nat.le_refl _, fun _ _ _ => rfl⟩, .inl rfl⟩)
  · refine wpList_append_at w hgd s x t ho base e i z size bytes ht hi hz hsize hby hzs hsz v n xs hs hown ad m cap news (by rw [hx, hv]) hsl.1 ?_ h1 h63 hbytes hbase h
    intro j u hu
    have hlt : j < m * size := by rw [← hsl.1]; exact (List.getElem?_eq_some_iff.1 hu).1
    rw [← hu, ← hj j hlt]
    obtain ⟨g, off, spot⟩ := ad
    have hsp := (hg (pos_of_lt hlt)).1
    simp only at hsp
    subst hsp
    congr 1
    unfold Addr.add
    split
    · rename_i h0; simp [h0]
    · rfl

theorem wpList_slice_from {ops : Array Oper} {rest : List Oper} {o : Oper} {a : Act} {Q : Exit → Act → World → Prop} (hgd : o.guard = none) (t : TypeId) (x l : Operand)
    (ho : o.op = .slice t x (some l) none none) (size : Nat) (ht : P.underlying t = some (.slice (P.elem t))) (hsz : ∀ w, (sizeOf (P.elem t)).run P w = .ok size w)
    (S : Nat → Prop) (v : Value) (n : Nat) (cs : List Value) (hx : a.eval x = v) (hsl : SlR S w size v n cs) (k : Nat) (kh : IntKind) (ki : Int) (hh : a.eval l = .int kh ki) (hki : ki = k) (hk : k ≤ n)
    (hn : ∀ sv, SlR S w size sv (n - k) (cs.drop (k * size)) → wpList P ops Q rest (a.put o.dst sv) w) : wpList P ops Q (o :: rest) a w := by
  obtain ⟨ad, cap, hv⟩ := hsl.shape
  refine wpList_plain hgd fun _ hK => ?_
  unfold Oper.wp execOp
  subst hki
  have hr := run_slice_l (P := P) w t ad n cap ht kh (k : Int) (by omega) (by omega)
  simp only [hsz, Result.andThen_ok, Int.toNat_natCast] at hr
  rw [hv] at hx
  simp only [ho, run_sliceAt_slice (P := P) w t _ _ _ _ ht, Sem.run_bind, Sem.run_pure, Result.andThen_ok, Option.map_some, Option.map_none, hx, hh, hr]
  exact hK _ _ (hn _ (hsl.from hv k hk))
end
end Go.Hw

/- Terms: pure. -/
namespace Go.Hw
set_option linter.unusedVariables false
set_option linter.unusedSimpArgs false
abbrev By := ByteArray
def nul : By := ⟨#[]⟩
inductive Tm where
  | mk (name sort : By) (L : List Tm)
namespace Tm
def name : Tm → By | .mk n _ _ => n
def sort : Tm → By | .mk _ s _ => s
def kids : Tm → List Tm | .mk _ _ l => l
instance : Inhabited Tm := ⟨.mk nul nul []⟩
theorem ind {P : Tm → Prop} (h : ∀ n s L, (∀ x ∈ L, P x) → P (.mk n s L)) : ∀ t, P t := by
  intro t
  refine Tm.rec (motive_1 := P) (motive_2 := fun L => ∀ x ∈ L, P x) (fun n s L ih => h n s L ih) (fun x hx => by cases hx) (fun a L ha hL x hx => ?_) t
  rcases List.mem_cons.1 hx with e | hx
  · rw [e]; exact ha
  · exact hL x hx
mutual
def size : Tm → Nat
  | .mk _ _ L => sizes L + 1
def sizes : List Tm → Nat
  | [] => 0
  | t :: L => size t + sizes L
end
mutual
def depth : Tm → Nat
  | .mk _ _ L => depths L + 1
def depths : List Tm → Nat
  | [] => 0
  | t :: L => max (depth t) (depths L)
end
mutual
def beq : Tm → Tm → Bool
  | .mk n s L, .mk m r M => decide (n = m) && (decide (s = r) && beqs L M)
def beqs : List Tm → List Tm → Bool
  | [], [] => true
  | t :: L, u :: M => beq t u && beqs L M
  | _, _ => false
end
theorem beq_eq : ∀ t u : Tm, beq t u = true ↔ t = u := by
  refine ind (fun n s L ih u => ?_)
  obtain ⟨m, r, M⟩ := u
  unfold beq
  have hL : ∀ (L : List Tm), (∀ x ∈ L, ∀ u, beq x u = true ↔ x = u) → ∀ M, beqs L M = true ↔ L = M := by
    intro L
    induction L with
    | nil => intro _ M; cases M <;> simp [beqs]
    | cons a L ihL =>
      intro h M
      cases M with
      | nil => simp [beqs]
      | cons b M =>
        unfold beqs
        rw [Bool.and_eq_true, h a (List.mem_cons_self ..), ihL (fun x hx => h x (List.mem_cons_of_mem _ hx)), List.cons.injEq]
  rw [Bool.and_eq_true, Bool.and_eq_true, decide_eq_true_eq, decide_eq_true_eq, hL L ih M, Tm.mk.injEq]
instance : DecidableEq Tm := fun t u => decidable_of_iff _ (beq_eq t u)
theorem size_pos (t : Tm) : 0 < t.size := by cases t; simp [size]
theorem size_mem {x : Tm} : ∀ {L : List Tm}, x ∈ L → x.size ≤ sizes L
  | a :: L, h => by
    rcases List.mem_cons.1 h with e | h
    · rw [e]; simp [sizes]
    · have := size_mem h; simp [sizes]; omega
theorem size_kid {t x : Tm} (h : x ∈ t.kids) : x.size < t.size := by
  obtain ⟨n, s, L⟩ := t
  have := size_mem (L := L) h
  simp [size]
  omega
theorem size_eq (t : Tm) : t.size = sizes t.kids + 1 := by cases t; rfl
theorem depth_eq (t : Tm) : t.depth = depths t.kids + 1 := by cases t; rfl
theorem sizes_append (L M : List Tm) : sizes (L ++ M) = sizes L + sizes M := by
  induction L with
  | nil => simp [sizes]
  | cons a L ih => simp [sizes, ih]; omega
theorem length_le_sizes : ∀ L : List Tm, L.length ≤ sizes L
  | [] => Nat.le_refl _
  | a :: L => by have := length_le_sizes L; have := size_pos a; simp [sizes]; omega
end Tm
open Tm
/- the nodes in preorder, with their depths -/
mutual
def nodesD : Nat → Tm → List (Tm × Nat)
  | d, .mk n s L => (.mk n s L, d) :: nodesDs (d + 1) L
def nodesDs : Nat → List Tm → List (Tm × Nat)
  | _, [] => []
  | d, t :: L => nodesD d t ++ nodesDs d L
end
theorem nodesD_eq (d : Nat) (t : Tm) : nodesD d t = (t, d) :: nodesDs (d + 1) t.kids := by cases t; rfl
theorem nodesDs_append (d : Nat) (L M : List Tm) : nodesDs d (L ++ M) = nodesDs d L ++ nodesDs d M := by
  induction L with
  | nil => simp [nodesDs]
  | cons a L ih => simp [nodesDs, ih]
theorem nodesDs_flat (d : Nat) (L : List Tm) : nodesDs d L = L.flatMap (nodesD d) := by
  induction L with
  | nil => rfl
  | cons a L ih => simp [nodesDs, ih]
theorem nodesD_len : ∀ (t : Tm) (d : Nat), (nodesD d t).length = t.size := by
  refine ind (fun n s L ih d => ?_)
  rw [nodesD_eq]
  have : ∀ (L : List Tm) (d : Nat), (∀ x ∈ L, ∀ d, (nodesD d x).length = x.size) → (nodesDs d L).length = sizes L := by
    intro L
    induction L with
    | nil => intro d _; rfl
    | cons a L ihL =>
      intro d h
      simp only [nodesDs, List.length_append, sizes]
      rw [h a (List.mem_cons_self ..), ihL d (fun x hx => h x (List.mem_cons_of_mem _ hx))]
  simp only [kids, List.length_cons, Tm.size]
  rw [this L (d + 1) ih]
theorem nodesDs_len (L : List Tm) (d : Nat) : (nodesDs d L).length = sizes L := by
  induction L with
  | nil => rfl
  | cons a L ih => simp only [nodesDs, List.length_append, sizes, nodesD_len, ih]
def sbts (t : Tm) : List Tm := (nodesD 0 t).map (·.1)
theorem nodesD_fst (t : Tm) : ∀ d e : Nat, (nodesD d t).map (·.1) = (nodesD e t).map (·.1) := by
  refine ind (P := fun t => ∀ d e : Nat, (nodesD d t).map (·.1) = (nodesD e t).map (·.1)) (fun n s L ih d e => ?_) t
  rw [nodesD_eq, nodesD_eq, nodesDs_flat, nodesDs_flat]
  simp only [kids, List.map_cons, List.map_flatMap]
  congr 1
  induction L with
  | nil => rfl
  | cons a L ihL =>
    simp only [List.flatMap_cons]
    rw [ih a (List.mem_cons_self ..) (d + 1) (e + 1), ihL (fun x hx => ih x (List.mem_cons_of_mem _ hx))]
theorem sbts_eq (t : Tm) : sbts t = t :: t.kids.flatMap sbts := by
  unfold sbts
  rw [nodesD_eq, nodesDs_flat]
  simp only [List.map_cons, List.map_flatMap]
  congr 1
  have : ∀ L : List Tm, (L.flatMap fun a => (nodesD (0 + 1) a).map (·.1)) = L.flatMap fun t => (nodesD 0 t).map (·.1) := by
    intro L
    induction L with
    | nil => rfl
    | cons a L ih => simp only [List.flatMap_cons]; rw [ih, nodesD_fst a (0 + 1) 0]
  exact this _
theorem mem_sbts_self (t : Tm) : t ∈ sbts t := by rw [sbts_eq]; exact List.mem_cons_self ..
theorem mem_sbts_kid {t x y : Tm} (h : x ∈ t.kids) (hy : y ∈ sbts x) : y ∈ sbts t := by
  rw [sbts_eq]
  exact List.mem_cons_of_mem _ (List.mem_flatMap.2 ⟨x, h, hy⟩)
end Go.Hw

/- Terms in memory. -/
namespace Go.Hw
open Go.RowKit Tm
set_option linter.unusedVariables false
set_option linter.unusedSimpArgs false
abbrev nilS : Value := .slice none 0 0
def tCells : List Tm → List Value → List Value
  | [], _ => []
  | t :: L, us => .string t.name :: .string t.sort :: us.headD nilS :: tCells L us.tail
abbrev tg (L : List Tm) (i : Nat) : Tm := L.getD i default
abbrev ug (us : List Value) (i : Nat) : Value := us.getD i nilS
theorem tCells_len : ∀ (L : List Tm) (us : List Value), (tCells L us).length = L.length * 3
  | [], _ => rfl
  | t :: L, us => by simp [tCells, tCells_len L us.tail]; omega
theorem tCells_at : ∀ (L : List Tm) (us : List Value) (i : Nat), i < L.length →
    (tCells L us)[i * 3]? = some (.string (tg L i).name) ∧ (tCells L us)[i * 3 + 1]? = some (.string (tg L i).sort) ∧ (tCells L us)[i * 3 + 2]? = some (ug us i)
  | t :: L, us, 0, _ => by
    refine ⟨rfl, rfl, ?_⟩
    cases us <;> rfl
  | t :: L, us, i + 1, h => by
    obtain ⟨h0, h1, h2⟩ := tCells_at L us.tail i (by simpa using h)
    have e : ∀ k, (tCells (t :: L) us)[(i + 1) * 3 + k]? = (tCells L us.tail)[i * 3 + k]? := fun k => by
      rw [show (i + 1) * 3 + k = i * 3 + k + 1 + 1 + 1 by omega]
      rfl
    refine ⟨by rw [← Nat.add_zero ((i + 1) * 3), e]; exact h0, by rw [e]; exact h1, ?_⟩
    rw [e, h2]
    cases us <;> rfl
theorem tCells_snoc : ∀ (L : List Tm) (us : List Value) (t : Tm) (u : Value), us.length = L.length → tCells (L ++ [t]) (us ++ [u]) = tCells L us ++ [.string t.name, .string t.sort, u]
  | [], [], t, u, _ => rfl
  | a :: L, b :: us, t, u, h => by
    have := tCells_snoc L us t u (by simpa using h)
    simp only [List.cons_append, tCells, List.headD_cons, List.tail_cons, this]
inductive TlR (S : Nat → Prop) (w : World) : List Tm → Value → Prop
  | mk (L : List Tm) (us : List Value) (v : Value) (hl : us.length = L.length) (h : SlR S w 3 v L.length (tCells L us)) (hk : ∀ i, i < L.length → TlR S w (tg L i).kids (ug us i)) : TlR S w L v
theorem TlR.nil (S : Nat → Prop) (w : World) : TlR S w [] nilS := ⟨[], [], nilS, rfl, SlR.nil _ _ _, fun i h => by cases h⟩
theorem TlR.shape {S : Nat → Prop} {w : World} {L : List Tm} {v : Value} (h : TlR S w L v) : ∃ a cap, v = .slice a L.length cap := by
  cases h with
  | mk _ us _ hl h hk => exact h.shape
theorem TlR.kept {S F : Nat → Prop} {w w' : World} {L : List Tm} {v : Value} (h : TlR S w L v) (hu : Upd F w w') (hF : ∀ k, S k → ¬ F k) : TlR S w' L v := by
  induction h with
  | mk L us v hl h hk ih => exact ⟨L, us, v, hl, h.kept hu hF, ih⟩
theorem TlR.ext {S : Nat → Prop} {w w' : World} {L : List Tm} {v : Value} (h : TlR S w L v) (hu : Ext w w') : TlR S w' L v := h.kept hu (fun _ _ h => h)
theorem TlR.weaken {S T : Nat → Prop} {w : World} {L : List Tm} {v : Value} (h : TlR S w L v) (hs : ∀ k, S k → T k) : TlR T w L v := by
  induction h with
  | mk L us v hl h hk ih => exact ⟨L, us, v, hl, h.weaken hs, ih⟩
theorem TlR.le_cap {S : Nat → Prop} {w : World} {L : List Tm} {a : Option Addr} {n cap : Nat} (h : TlR S w L (.slice a n cap)) : n = L.length ∧ n ≤ cap := by
  cases h with
  | mk _ us _ hl h hk =>
    obtain ⟨a', c', e⟩ := h.shape
    injection e with e1 e2 e3
    exact ⟨e2, by rw [e2]; exact h.le_cap (by rw [e1, e2])⟩
theorem TlR.at_ {S : Nat → Prop} {w : World} {L : List Tm} {a : Option Addr} {n cap : Nat} (h : TlR S w L (.slice a n cap)) (hL : 0 < L.length) :
    ∃ g off, a = some ⟨g, off, none⟩ ∧ S g ∧ ∀ i, i < L.length → ∃ a' cap', w.cell? ⟨g, off + i * 3, none⟩ = some (.string (tg L i).name) ∧ w.cell? ⟨g, off + (i * 3 + 1), none⟩ = some (.string (tg L i).sort) ∧
      w.cell? ⟨g, off + (i * 3 + 2), none⟩ = some (.slice a' (tg L i).kids.length cap') ∧ TlR S w (tg L i).kids (.slice a' (tg L i).kids.length cap') := by
  cases h with
  | mk _ us _ hl h hk =>
    obtain ⟨g, off, cap', e, hc, hS, hj⟩ := h.pos hL
    injection e with e1 e2 e3
    refine ⟨g, off, e1, hS, fun i hi => ?_⟩
    obtain ⟨h0, h1, h2⟩ := tCells_at L us i hi
    obtain ⟨a', cap', e'⟩ := (hk i hi).shape
    have hk' := hk i hi
    rw [e'] at hk' h2
    exact ⟨a', cap', by rw [hj _ (by omega), h0], by rw [hj _ (by omega), h1], by rw [hj _ (by omega), h2], hk'⟩
abbrev tV (t : Tm) (u : Value) : Value := .agg #[.string t.name, .string t.sort, u]
def TmR (S : Nat → Prop) (w : World) (t : Tm) (v : Value) : Prop := ∃ a cap, v = tV t (.slice a t.kids.length cap) ∧ TlR S w t.kids (.slice a t.kids.length cap)
theorem TmR.kept {S F : Nat → Prop} {w w' : World} {t : Tm} {v : Value} (h : TmR S w t v) (hu : Upd F w w') (hF : ∀ k, S k → ¬ F k) : TmR S w' t v := by
  obtain ⟨a, cap, e, h⟩ := h
  exact ⟨a, cap, e, h.kept hu hF⟩
theorem TmR.ext {S : Nat → Prop} {w w' : World} {t : Tm} {v : Value} (h : TmR S w t v) (hu : Ext w w') : TmR S w' t v := h.kept hu (fun _ _ h => h)
theorem TmR.weaken {S T : Nat → Prop} {w : World} {t : Tm} {v : Value} (h : TmR S w t v) (hs : ∀ k, S k → T k) : TmR T w t v := by
  obtain ⟨a, cap, e, h⟩ := h
  exact ⟨a, cap, e, h.weaken hs⟩
theorem TmR.of {S : Nat → Prop} {w : World} {t : Tm} {u : Value} (h : TlR S w t.kids u) : TmR S w t (tV t u) := by
  obtain ⟨a, cap, e⟩ := h.shape
  exact ⟨a, cap, by rw [e], e ▸ h⟩
end Go.Hw

/- Well-formed terms: pure. nm: which strings are names. -/
namespace Go.Hw
open Tm
set_option linter.unusedVariables false
set_option linter.unusedSimpArgs false
section
variable (nm : By → Bool)
def okN (p : Tm × Nat) : Bool := decide (p.2 ≤ 60) && (nm p.1.name && (decide (p.1.kids.length ≤ 6) && (decide (p.1.sort = nul) || (nm p.1.sort && decide (p.1.kids.length = 0)))))
def formedL (l : List (Tm × Nat)) : Bool := decide (l.length ≤ 1000) && l.all (okN nm)
def formed (t : Tm) : Bool := formedL nm (nodesD 1 t)
theorem formed_iff (t : Tm) : formed nm t = true ↔ t.size ≤ 1000 ∧ ∀ p ∈ nodesD 1 t, okN nm p = true := by
  unfold formed formedL
  rw [Bool.and_eq_true, decide_eq_true_eq, nodesD_len, List.all_eq_true]
mutual
def small : Nat → Int → Tm → Int
  | d, left, .mk n s L => if left ≤ 0 ∨ okN nm (.mk n s L, d) = false then -1 else smalls (d + 1) (left - 1) L
def smalls : Nat → Int → List Tm → Int
  | _, left, [] => left
  | d, left, t :: L => if small d left t < 0 then small d left t else smalls d (small d left t) L
end
theorem small_eq (d : Nat) (left : Int) (t : Tm) : small nm d left t = if left ≤ 0 ∨ okN nm (t, d) = false then -1 else smalls nm (d + 1) (left - 1) t.kids := by cases t; rfl
theorem small_spec : ∀ (t : Tm) (d : Nat) (left : Int), small nm d left t = if (nodesD d t).all (okN nm) = true ∧ (t.size : Int) ≤ left then left - t.size else -1 := by
  refine ind (fun n s L ih d left => ?_)
  have hL : ∀ (L : List Tm) (d : Nat) (left : Int), (∀ x ∈ L, ∀ (d : Nat) (left : Int), small nm d left x = if (nodesD d x).all (okN nm) = true ∧ (x.size : Int) ≤ left then left - x.size else -1) → 0 ≤ left →
      smalls nm d left L = if (nodesDs d L).all (okN nm) = true ∧ (sizes L : Int) ≤ left then left - sizes L else -1 := by
    intro L
    induction L with
    | nil =>
      intro d left _ h0
      unfold smalls nodesDs sizes
      rw [if_pos ⟨rfl, by omega⟩]
      simp
    | cons a L ihL =>
      intro d left h h0
      unfold smalls nodesDs sizes
      rw [h a (List.mem_cons_self ..)]
      have hp := size_pos a
      by_cases hc : (nodesD d a).all (okN nm) = true ∧ (a.size : Int) ≤ left
      · rw [if_pos hc, if_neg (by omega), ihL d (left - a.size) (fun x hx => h x (List.mem_cons_of_mem _ hx)) (by omega)]
        have e1 : (nodesD d a ++ nodesDs d L).all (okN nm) = (nodesDs d L).all (okN nm) := by rw [List.all_append, hc.1, Bool.true_and]
        rw [e1]
        by_cases h2 : (nodesDs d L).all (okN nm) = true ∧ (sizes L : Int) ≤ left - a.size
        · rw [if_pos h2, if_pos ⟨h2.1, by omega⟩]; omega
        · rw [if_neg h2, if_neg (fun h3 => h2 ⟨h3.1, by omega⟩)]
      · rw [if_neg hc, if_pos (by omega), if_neg]
        rintro ⟨h3, h4⟩
        rw [List.all_append, Bool.and_eq_true] at h3
        exact hc ⟨h3.1, by omega⟩
  rw [small_eq, nodesD_eq, List.all_cons, size_eq]
  simp only [kids]
  by_cases hc : left ≤ 0 ∨ okN nm (.mk n s L, d) = false
  · rw [if_pos hc]
    refine (if_neg ?_).symm
    rintro ⟨h3, h4⟩
    rw [Bool.and_eq_true] at h3
    rcases hc with h | h
    · omega
    · rw [h3.1] at h; cases h
  · rw [if_neg hc, hL L (d + 1) (left - 1) ih (by omega)]
    have h5 : okN nm (.mk n s L, d) = true := by
      cases h : okN nm (.mk n s L, d)
      · exact absurd (.inr h) hc
      · rfl
    simp only [h5, Bool.true_and]
    by_cases h2 : (nodesDs (d + 1) L).all (okN nm) = true ∧ (sizes L : Int) ≤ left - 1
    · rw [if_pos h2]
      refine Eq.trans ?_ (if_pos ⟨h2.1, by omega⟩).symm
      omega
    · rw [if_neg h2]
      exact (if_neg (fun h3 => h2 ⟨h3.1, by have := h3.2; omega⟩)).symm
theorem small_formed (t : Tm) : formed nm t = decide (0 ≤ small nm 1 1000 t) := by
  rw [small_spec, Bool.eq_iff_iff, formed_iff, decide_eq_true_eq, ← List.all_eq_true]
  by_cases h : (nodesD 1 t).all (okN nm) = true ∧ (t.size : Int) ≤ 1000
  · rw [if_pos h]
    exact ⟨fun _ => by omega, fun _ => ⟨by omega, h.1⟩⟩
  · rw [if_neg h]
    exact ⟨fun h2 => absurd ⟨h2.2, by omega⟩ h, fun h2 => by omega⟩
end
end Go.Hw

/- Variables and their sorts: pure. -/
namespace Go.Hw
open Tm
set_option linter.unusedVariables false
set_option linter.unusedSimpArgs false
def blt (a b : By) : Bool := decide (a.data.toList < b.data.toList)
theorem by_ext {a b : By} (h : a.data.toList = b.data.toList) : a = b := by
  cases a; cases b
  simp only [ByteArray.mk.injEq]
  exact Array.toList_inj.1 h
theorem blt_irrefl (a : By) : blt a a = false := by unfold blt; simp
theorem blt_trans {a b c : By} (h1 : blt a b = true) (h2 : blt b c = true) : blt a c = true := by
  unfold blt at *
  rw [decide_eq_true_eq] at *
  exact List.lt_trans h1 h2
theorem blt_tri (a b : By) (h : a ≠ b) : blt a b = true ∨ blt b a = true := by
  unfold blt
  rw [decide_eq_true_eq, decide_eq_true_eq]
  by_cases h1 : a.data.toList < b.data.toList
  · exact .inl h1
  · refine .inr ?_
    have h2 := List.not_lt.1 h1
    rcases List.le_iff_lt_or_eq.1 h2 with h3 | h3
    · exact h3
    · exact absurd (by_ext h3.symm) h
theorem blt_asymm {a b : By} (h : blt a b = true) : blt b a = false := by
  rw [Bool.eq_false_iff]
  intro h2
  have := blt_trans h h2
  rw [blt_irrefl] at this
  cases this
abbrev Vd := By × By
def fget (m : List Vd) (n : By) : Option By := (m.find? fun p => decide (p.1 = n)).map (·.2)
theorem fget_cons (p : Vd) (m : List Vd) (n : By) : fget (p :: m) n = if p.1 = n then some p.2 else fget m n := by
  unfold fget
  rw [List.find?_cons]
  by_cases h : p.1 = n
  · rw [if_pos h, decide_eq_true h]; rfl
  · rw [if_neg h, decide_eq_false h]
theorem fget_snoc (m : List Vd) (p : Vd) (n : By) : fget (m ++ [p]) n = (fget m n).or (if p.1 = n then some p.2 else none) := by
  induction m with
  | nil => rw [List.nil_append, fget_cons]; unfold fget; simp
  | cons a m ih =>
    rw [List.cons_append, fget_cons, fget_cons, ih]
    by_cases h : a.1 = n
    · rw [if_pos h, if_pos h]; rfl
    · rw [if_neg h, if_neg h]
theorem fget_some {m : List Vd} {n s : By} (h : fget m n = some s) : (n, s) ∈ m := by
  induction m with
  | nil => cases h
  | cons a m ih =>
    rw [fget_cons] at h
    by_cases h1 : a.1 = n
    · rw [if_pos h1] at h
      injection h with h
      subst h1 h
      exact List.mem_cons_self ..
    · rw [if_neg h1] at h
      exact List.mem_cons_of_mem _ (ih h)
def vl (l : List Tm) : List Vd := l.filterMap fun x => if x.sort = nul then none else some (x.name, x.sort)
theorem vl_append (l m : List Tm) : vl (l ++ m) = vl l ++ vl m := List.filterMap_append
def sFold : List Vd → List Vd → Option (List Vd)
  | m, [] => some m
  | m, f :: fs => match fget m f.1 with
    | none => sFold (m ++ [f]) fs
    | some s => if s = f.2 then sFold m fs else none
theorem sFold_append (fs gs : List Vd) : ∀ m, sFold m (fs ++ gs) = (sFold m fs).bind fun m' => sFold m' gs := by
  induction fs with
  | nil => intro m; rfl
  | cons f fs ih =>
    intro m
    simp only [List.cons_append, sFold]
    cases fget m f.1 with
    | none => exact ih _
    | some s =>
      simp only
      split
      · exact ih _
      · rfl
def vadd : List Vd → Vd → List Vd × Bool
  | [], f => ([f], true)
  | g :: l, f => if blt g.1 f.1 = true then (g :: (vadd l f).1, (vadd l f).2) else if g.1 = f.1 then (g :: l, decide (g.2 = f.2)) else (f :: g :: l, true)
def vFold : List Vd → List Vd → List Vd × Bool
  | l, [] => (l, true)
  | l, f :: fs => if (vadd l f).2 = true then vFold (vadd l f).1 fs else (l, false)
def Asc (l : List Vd) : Prop := l.Pairwise fun p q => blt p.1 q.1 = true
theorem asc_get_none {l : List Vd} {f g : Vd} (h : Asc (g :: l)) (h1 : blt f.1 g.1 = true) : fget (g :: l) f.1 = none := by
  have h2 : ∀ p ∈ g :: l, p.1 ≠ f.1 := by
    intro p hp e
    rcases List.mem_cons.1 hp with h3 | h3
    · rw [h3] at e; rw [e, blt_irrefl] at h1; cases h1
    · have h4 := (List.pairwise_cons.1 h).1 p h3
      have := blt_trans h1 h4
      rw [e, blt_irrefl] at this
      cases this
  cases hc : fget (g :: l) f.1 with
  | none => rfl
  | some s => exact absurd rfl (h2 (f.1, s) (fget_some hc))
theorem vadd_spec (f : Vd) : ∀ (l : List Vd), Asc l →
    (vadd l f).2 = (match fget l f.1 with | none => true | some s => decide (s = f.2)) ∧
    ((vadd l f).2 = true → Asc (vadd l f).1 ∧ (∀ g, g ∈ (vadd l f).1 ↔ g ∈ l ∨ g = f) ∧ ∀ n, fget (vadd l f).1 n = (fget l n).or (if f.1 = n then some f.2 else none)) ∧ ((vadd l f).2 = false → (vadd l f).1 = l)
  | [], _ => by
    refine ⟨rfl, fun _ => ⟨List.pairwise_singleton _ _, fun g => by simp [vadd], fun n => ?_⟩, fun h => by cases h⟩
    show fget [f] n = _
    rw [fget_cons]
    unfold fget
    simp
  | g :: l, h => by
    obtain ⟨h1, h2⟩ := List.pairwise_cons.1 h
    obtain ⟨e1, e2, e3⟩ := vadd_spec f l h2
    unfold vadd
    by_cases hlt : blt g.1 f.1 = true
    · have hne : g.1 ≠ f.1 := fun e => by rw [e, blt_irrefl] at hlt; cases hlt
      rw [if_pos hlt, fget_cons, if_neg hne]
      refine ⟨e1, fun hq => ?_, fun hq => by show g :: (vadd l f).1 = _; rw [e3 hq]⟩
      obtain ⟨a, b, c⟩ := e2 hq
      refine ⟨List.pairwise_cons.2 ⟨fun p hp => ?_, a⟩, fun p => ?_, fun n => ?_⟩
      · rcases (b p).1 hp with hp | hp
        · exact h1 p hp
        · rw [hp]; exact hlt
      · show p ∈ g :: (vadd l f).1 ↔ _
        rw [List.mem_cons, b p, List.mem_cons, or_assoc]
      · show fget (g :: (vadd l f).1) n = _
        rw [fget_cons, fget_cons, c n]
        by_cases hn : g.1 = n
        · rw [if_pos hn, if_pos hn]; rfl
        · rw [if_neg hn, if_neg hn]
    · rw [if_neg hlt]
      by_cases heq : g.1 = f.1
      · rw [if_pos heq, fget_cons, if_pos heq]
        refine ⟨rfl, fun hq => ?_, fun _ => rfl⟩
        have hgf : g = f := by
          have := of_decide_eq_true hq
          exact Prod.ext heq this
        refine ⟨h, fun p => ?_, fun n => ?_⟩
        · constructor
          · exact fun h => .inl h
          · rintro (h | h)
            · exact h
            · rw [h, ← hgf]; exact List.mem_cons_self ..
        · show fget (g :: l) n = _
          rw [fget_cons]
          by_cases hn : g.1 = n
          · rw [if_pos hn]; rfl
          · rw [if_neg hn, if_neg (fun e => hn (by rw [heq, e]))]
            simp
      · rw [if_neg heq]
        have hfg : blt f.1 g.1 = true := by
          rcases blt_tri g.1 f.1 heq with h3 | h3
          · exact absurd h3 hlt
          · exact h3
        rw [asc_get_none h hfg]
        refine ⟨rfl, fun _ => ⟨List.pairwise_cons.2 ⟨fun p hp => ?_, h⟩, fun p => ?_, fun n => ?_⟩, fun h => by cases h⟩
        · rcases List.mem_cons.1 hp with hp | hp
          · rw [hp]; exact hfg
          · exact blt_trans hfg (h1 p hp)
        · show p ∈ f :: g :: l ↔ _
          rw [List.mem_cons]
          exact or_comm
        · show fget (f :: g :: l) n = _
          rw [fget_cons]
          by_cases hn : f.1 = n
          · rw [if_pos hn]
            have := asc_get_none h hfg
            rw [hn] at this
            rw [this, if_pos hn]; rfl
          · rw [if_neg hn, if_neg hn]
            cases fget (g :: l) n <;> rfl
theorem vFold_spec (fs : List Vd) : ∀ (l m : List Vd), Asc l → (∀ n, fget l n = fget m n) → (∀ f, f ∈ l ↔ f ∈ m) →
    ((vFold l fs).2 = (sFold m fs).isSome) ∧ ∀ m', sFold m fs = some m' → Asc (vFold l fs).1 ∧ (∀ n, fget (vFold l fs).1 n = fget m' n) ∧ ∀ f, f ∈ (vFold l fs).1 ↔ f ∈ m' := by
  induction fs with
  | nil =>
    intro l m hl hg hmem
    refine ⟨rfl, fun m' h => ?_⟩
    injection h with h
    subst h
    exact ⟨hl, hg, hmem⟩
  | cons f fs ih =>
    intro l m hl hg hmem
    obtain ⟨e1, e2, e3⟩ := vadd_spec f l hl
    unfold vFold sFold
    rw [hg] at e1
    cases hc : fget m f.1 with
    | none =>
      rw [hc] at e1
      rw [if_pos e1]
      obtain ⟨a, b, c⟩ := e2 e1
      refine ih _ _ a (fun n => ?_) (fun x => ?_)
      · rw [c n, fget_snoc, hg]
      · rw [b x, hmem, List.mem_append, List.mem_singleton]
    | some s =>
      rw [hc] at e1
      simp only at e1 ⊢
      by_cases hs : s = f.2
      · rw [decide_eq_true hs] at e1
        rw [if_pos e1, if_pos hs]
        obtain ⟨a, b, c⟩ := e2 e1
        have hfm : f ∈ m := by
          have h4 := fget_some hc
          rw [hs] at h4
          exact h4
        refine ih _ _ a (fun n => ?_) (fun x => ?_)
        · rw [c n, hg]
          by_cases hn : f.1 = n
          · rw [← hn, hc, hs]; rfl
          · rw [if_neg hn]; simp
        · rw [b x, hmem]
          constructor
          · rintro (h | h)
            · exact h
            · rw [h]; exact hfm
          · exact fun h => .inl h
      · rw [decide_eq_false hs] at e1
        rw [if_neg (by rw [e1]; decide), if_neg hs]
        exact ⟨rfl, fun m' h => by cases h⟩
def sortsT (t : Tm) : Option (List Vd) := sFold [] (vl (sbts t))
theorem varsT_ok (t : Tm) : (vFold [] (vl (sbts t))).2 = (sortsT t).isSome := (vFold_spec (vl (sbts t)) [] [] List.Pairwise.nil (fun _ => rfl) (fun _ => Iff.rfl)).1
def wf (nm : By → Bool) (t : Tm) : Bool := formed nm t && (sortsT t).isSome
end Go.Hw

/- The order of terms: pure. -/
namespace Go.Hw
open Tm
set_option linter.unusedVariables false
set_option linter.unusedSimpArgs false
def bcmp (a b : By) : Int := if blt a b = true then -1 else if blt b a = true then 1 else 0
theorem bcmp_zero (a b : By) : bcmp a b = 0 ↔ a = b := by
  unfold bcmp
  constructor
  · intro h
    by_cases e : a = b
    · exact e
    · rcases blt_tri a b e with h1 | h1
      · rw [if_pos h1] at h; omega
      · rw [if_neg (by rw [blt_asymm h1]; decide), if_pos h1] at h; omega
  · intro h
    rw [h, blt_irrefl]
    rfl
mutual
def cmpT : Tm → Tm → Int
  | .mk n s L, .mk m r M => if decide (s ≠ nul) ≠ decide (r ≠ nul) then (if s ≠ nul then -1 else 1) else if bcmp n m ≠ 0 then bcmp n m else if bcmp s r ≠ 0 then bcmp s r else if L.length ≠ M.length then (if L.length < M.length then -1 else 1) else cmps L M
def cmps : List Tm → List Tm → Int
  | a :: L, b :: M => if cmpT a b ≠ 0 then cmpT a b else cmps L M
  | _, _ => 0
end
theorem cmpT_zero : ∀ a b : Tm, cmpT a b = 0 ↔ a = b := by
  refine ind (fun n s L ih b => ?_)
  obtain ⟨m, r, M⟩ := b
  have hL : ∀ (L M : List Tm), (∀ x ∈ L, ∀ y, cmpT x y = 0 ↔ x = y) → L.length = M.length → (cmps L M = 0 ↔ L = M) := by
    intro L
    induction L with
    | nil => intro M _ h; cases M with
      | nil => simp [cmps]
      | cons b M => simp at h
    | cons a L ihL =>
      intro M h hl
      cases M with
      | nil => simp at hl
      | cons b M =>
        unfold cmps
        have h1 := h a (List.mem_cons_self ..) b
        by_cases hz : cmpT a b = 0
        · rw [if_neg (by simp [hz]), ihL M (fun x hx => h x (List.mem_cons_of_mem _ hx)) (by simpa using hl), h1.1 hz]
          simp
        · rw [if_pos hz]
          constructor
          · intro h2; exact absurd h2 hz
          · intro h2; injection h2 with h2 h3; exact absurd (h1.2 h2) hz
  unfold cmpT
  constructor
  · intro h
    by_cases h1 : decide (s ≠ nul) ≠ decide (r ≠ nul)
    · rw [if_pos h1] at h
      split at h <;> omega
    rw [if_neg h1] at h
    by_cases h2 : bcmp n m = 0
    · rw [if_neg (by simp [h2])] at h
      by_cases h3 : bcmp s r = 0
      · rw [if_neg (by simp [h3])] at h
        by_cases h4 : L.length = M.length
        · rw [if_neg (by simp [h4])] at h
          rw [(bcmp_zero n m).1 h2, (bcmp_zero s r).1 h3, (hL L M ih h4).1 h]
        · rw [if_pos h4] at h
          split at h <;> omega
      · rw [if_pos h3] at h; exact absurd h h3
    · rw [if_pos h2] at h; exact absurd h h2
  · intro h
    injection h with h1 h2 h3
    subst h1 h2 h3
    rw [if_neg (by simp), if_neg (by simp [(bcmp_zero n n).2 rfl]), if_neg (by simp [(bcmp_zero s s).2 rfl]), if_neg (by simp)]
    exact (hL L L ih rfl).2 rfl
theorem cmps_of : ∀ (L M : List Tm) (k : Nat), L.length = M.length → k < L.length → (∀ j, j < k → cmpT (L.getD j default) (M.getD j default) = 0) → cmpT (L.getD k default) (M.getD k default) ≠ 0 → cmps L M = cmpT (L.getD k default) (M.getD k default)
  | [], _, k, _, h, _, _ => by simp at h
  | a :: L, [], k, h, _, _, _ => by simp at h
  | a :: L, b :: M, 0, _, _, _, h => by
    unfold cmps
    exact if_pos h
  | a :: L, b :: M, k + 1, hl, hk, h1, h2 => by
    unfold cmps
    have h0 : cmpT a b = 0 := h1 0 (by omega)
    rw [if_neg (by simp [h0])]
    exact cmps_of L M k (by simpa using hl) (by simpa using hk) (fun j hj => h1 (j + 1) (by omega)) h2
theorem cmps_all : ∀ (L M : List Tm), L.length = M.length → (∀ j, j < L.length → cmpT (L.getD j default) (M.getD j default) = 0) → cmps L M = 0
  | [], [], _, _ => by simp [cmps]
  | [], b :: M, h, _ => by simp at h
  | a :: L, [], h, _ => by simp at h
  | a :: L, b :: M, hl, h1 => by
    unfold cmps
    have h0 : cmpT a b = 0 := h1 0 (by simp)
    rw [if_neg (by simp [h0])]
    exact cmps_all L M (by simpa using hl) (fun j hj => h1 (j + 1) (by simpa using hj))
theorem cmpT_eq (n s : By) (L : List Tm) (m r : By) (M : List Tm) : cmpT (.mk n s L) (.mk m r M) = if decide (s ≠ nul) ≠ decide (r ≠ nul) then (if s ≠ nul then -1 else 1) else if bcmp n m ≠ 0 then bcmp n m else if bcmp s r ≠ 0 then bcmp s r else if L.length ≠ M.length then (if L.length < M.length then -1 else 1) else cmps L M := by
  unfold cmpT
  rfl
end Go.Hw

/- What a round of an iterator keeps: rows of cells outside its own boxes. -/
namespace Go.Hw
open Go.RowKit Tm
set_option linter.unusedVariables false
set_option linter.unusedSimpArgs false
structure KpG (G : Nat → Prop) (A B : World) : Prop where
  size : A.heap.size ≤ B.heap.size
  cells : ∀ k cs ty m, ¬ G k → A.heap[k]? = some (.cells cs ty m) → B.heap[k]? = some (.cells cs ty m)
theorem KpG.refl (G : Nat → Prop) (A : World) : KpG G A A := ⟨Nat.le_refl _, fun _ _ _ _ _ h => h⟩
theorem KpG.trans {G : Nat → Prop} {A B C : World} (h : KpG G A B) (k : KpG G B C) : KpG G A C := ⟨Nat.le_trans h.size k.size, fun i cs ty m hG hc => k.cells i cs ty m hG (h.cells i cs ty m hG hc)⟩
theorem KpG.of_upd {F G : Nat → Prop} {A B : World} (h : Upd F A B) (hF : ∀ k, k < A.heap.size → F k → G k) : KpG G A B :=
  ⟨h.size, fun k cs ty m hG hc => (h.block k (Array.getElem?_eq_some_iff.1 hc).1 (fun hf => hG (hF k (Array.getElem?_eq_some_iff.1 hc).1 hf))).trans hc⟩
theorem KpG.of_ext {G : Nat → Prop} {A B : World} (h : Ext A B) : KpG G A B := KpG.of_upd h (fun _ _ h => h.elim)
theorem KpG.putObj {G : Nat → Prop} (W : World) (l : Nat) (o o' : Obj) (h : W.heap[l]? = some o) (hc : o.isCells = false) : KpG G W (W.putObj l o') := by
  refine ⟨by simp [World.putObj], fun k cs ty m hG hk => ?_⟩
  have hne : l ≠ k := by
    intro e
    rw [e, hk] at h
    injection h with h
    rw [← h] at hc
    cases hc
  simp only [World.putObj]
  rw [Array.getElem?_setIfInBounds_ne hne]
  exact hk
theorem KpG.cell {G : Nat → Prop} {A B : World} (h : KpG G A B) {p : Addr} {v : Value} (hp : ¬ G p.block) (hs : p.spot = none) (hc : A.cell? p = some v) : B.cell? p = some v := by
  cases hb : A.heap[p.block]? with
  | none => simp [World.cell?, hb] at hc
  | some o =>
    cases o with
    | cells cs ty m =>
      have h2 := h.cells _ _ _ _ hp hb
      simp only [World.cell?, hb] at hc
      simp only [World.cell?, h2]
      exact hc
    | _ => simp [World.cell?, hb] at hc
theorem SlR.keptK {G S : Nat → Prop} {A B : World} {size n : Nat} {v : Value} {cs : List Value} (h : SlR S A size v n cs) (hk : KpG G A B) (hS : ∀ k, S k → ¬ G k) : SlR S B size v n cs := by
  refine ⟨h.1, ?_⟩
  rcases h.2 with h2 | ⟨a, cap, e, hc, hs, hj⟩
  · exact .inl h2
  · refine .inr ⟨a, cap, e, hc, hs, fun j hjn => ?_⟩
    have hn : 0 < n := pos_of_lt hjn
    have h3 := hj j hjn
    have hlen : j < cs.length := by rw [h.1]; exact hjn
    rw [List.getElem?_eq_getElem hlen] at h3 ⊢
    exact hk.cell (hS _ (hs hn).2) (by rfl) h3
theorem TlR.keptK {G S : Nat → Prop} {A B : World} {L : List Tm} {v : Value} (h : TlR S A L v) (hk : KpG G A B) (hS : ∀ k, S k → ¬ G k) : TlR S B L v := by
  induction h with
  | mk L us v hl h hkk ih => exact ⟨L, us, v, hl, h.keptK hk hS, ih⟩
end Go.Hw

/- Small laws of the prover's own, over any program, the second part: what is made, what is stored. -/
namespace Go.Hw
open Go.RowKit
set_option linter.unusedVariables false
set_option linter.unusedSimpArgs false

theorem setBlock {w : World} {g : Nat} {cs : Array Value} {t : TypeId} (h : w.heap[g]? = some (.cells cs t (0, 0))) (j : Nat) (u : Value) :
    (w.setCell ⟨g, j, none⟩ u).heap[g]? = some (.cells (cs.setIfInBounds j u) t (0, 0)) := by
  simp [World.setCell, Array.getElem?_modify, h]
theorem Upd.setNew {a w : World} (h : Upd (fun _ => False) a w) {g j : Nat} (hg : a.heap.size ≤ g) (u : Value) : Upd (fun _ => False) a (w.setCell ⟨g, j, none⟩ u) := h.setCell (.inr hg) u

structure XW (w : World) where
  val : World
  ext : Upd (fun _ => False) w val
instance (w : World) : Nonempty (XW w) := ⟨⟨w, Upd.refl _ w⟩⟩
theorem wp_region_ext {P : Program} {id : Nat} {Q : Exit → Act → World → Prop} {a : Act} {w : World} {l : List Oper} (w0 : World) (h0 : Upd (fun _ => False) w0 w)
    (hm : P.follows .mixedOrders = true) (hB : Region.lexB .any l.toArray = true)
    (h : wpQuiet P l.toArray (fun w' => ∃ x : XW w0, w' = x.val) (fun a' => ∀ w', (∃ x : XW w0, w' = x.val) → Q .normal a' w') l a) : (Code.region id l.toArray true).wp P Q a w :=
  wp_region_quiet (C := fun w' => ∃ x : XW w0, w' = x.val) hm hB ⟨⟨{ w with drawn := w.drawn + 1 }, ⟨h0.os, h0.tape, h0.output, h0.size, h0.block⟩⟩, rfl⟩ (by simpa using h)
theorem XW.call {P : Program} {f : FuncId} {args : Array Value} {w0 : World} {x : XW w0} {v : Value} (h : Calls P f args x.val fun e w' => e = .returned v ∧ Upd (fun _ => False) x.val w') :
    Calls P f args x.val fun e w'' => e = .returned v ∧ ∃ y : XW w0, w'' = y.val :=
  h.mono fun _ _ ⟨he, hx⟩ => ⟨he, ⟨_, x.ext.trans hx⟩, rfl⟩
end Go.Hw

/- Maps in memory, as lists of entries in the order in which they came. -/
namespace Go.Hw
open Go.RowKit
set_option linter.unusedVariables false
set_option linter.unusedSimpArgs false
section
variable {κ : Type} [DecidableEq κ]
def afind (l : List (κ × Value)) (k : κ) : Option Value := (l.find? fun p => decide (p.1 = k)).map (·.2)
def aput (l : List (κ × Value)) (k : κ) (v : Value) : List (κ × Value) :=
  match l with
  | [] => [(k, v)]
  | p :: l => if p.1 = k then (k, v) :: l else p :: aput l k v
theorem afind_cons (p : κ × Value) (l : List (κ × Value)) (k : κ) : afind (p :: l) k = if p.1 = k then some p.2 else afind l k := by
  unfold afind
  rw [List.find?_cons]
  by_cases h : p.1 = k
  · rw [if_pos h, decide_eq_true h]; rfl
  · rw [if_neg h, decide_eq_false h]
structure KeyEnc (P : Program) (kt : TypeId) (enc : κ → Value) : Prop where
  check : ∀ b x W, (Instr.checkKey b 10000 kt (enc x)).run P W = .ok () W
  find : ∀ x (es : List MapEntry) (l : List (κ × Value)) W, es.map (fun e => (e.key, e.val)) = l.map (fun p => (enc p.1, p.2)) →
    (Instr.findKey kt (enc x) es).run P W = .ok ((l.findIdx? fun p => decide (p.1 = x)).map fun i => (i, ((l[i]?).map (·.2)).getD (.bool false))) W
  same : ∀ x, Instr.sameBits 10000 (enc x) (enc x) = true
def MpR (enc : κ → Value) (w : World) (b : Nat) (l : List (κ × Value)) : Prop :=
  ∃ es clock, w.heap[b]? = some (.map es clock) ∧ es.toList.map (fun e => (e.key, e.val)) = l.map (fun p => (enc p.1, p.2)) ∧ es.toList.Pairwise (fun x y => x.born < y.born) ∧ ∀ e ∈ es.toList, e.born < clock
omit [DecidableEq κ] in
theorem MpR.kept {enc : κ → Value} {F : Nat → Prop} {w w' : World} {b : Nat} {l : List (κ × Value)} (h : MpR enc w b l) (hu : Upd F w w') (hF : ¬ F b) : MpR enc w' b l := by
  obtain ⟨es, c, h1, h2⟩ := h
  exact ⟨es, c, hu.heap h1 hF, h2⟩
omit [DecidableEq κ] in
theorem MpR.ext {enc : κ → Value} {w w' : World} {b : Nat} {l : List (κ × Value)} (h : MpR enc w b l) (hu : Ext w w') : MpR enc w' b l := h.kept hu (fun h => h)
omit [DecidableEq κ] in
theorem MpR.lt {enc : κ → Value} {w : World} {b : Nat} {l : List (κ × Value)} (h : MpR enc w b l) : b < w.heap.size := by
  obtain ⟨es, c, h1, _⟩ := h
  exact (Array.getElem?_eq_some_iff.1 h1).1
theorem idx_find (l : List (κ × Value)) (k : κ) : (l.findIdx? fun p => decide (p.1 = k)).map (fun i => ((l[i]?).map (·.2)).getD (.bool false)) = afind l k := by
  induction l with
  | nil => rfl
  | cons p l ih =>
    rw [List.findIdx?_cons, afind_cons]
    by_cases h : p.1 = k
    · rw [if_pos h, decide_eq_true h]
      rfl
    · rw [if_neg h, decide_eq_false h, ← ih]
      simp only [Bool.false_eq_true, if_false, Option.map_map]
      rfl
theorem MpR.get {P : Program} {enc : κ → Value} {kt et t : TypeId} (K : KeyEnc P kt enc) (ht : P.underlying t = some (.map kt et)) {w : World} {b : Nat} {l : List (κ × Value)} {z : Value} (hz : (zeroValue et).run P w = .ok z w) (h : MpR enc w b l) (k : κ) (c : Bool) :
    (Instr.lookup t (.map (some b)) (enc k) c).run P w = .ok (if c then .tuple #[(afind l k).getD z, .bool (afind l k).isSome] else (afind l k).getD z) w := by
  obtain ⟨es, cl, h1, h2, _⟩ := h
  have hf := K.find k es.toList l w h2
  have hc := K.check es.isEmpty k w
  rw [← idx_find]
  generalize hx : (l.findIdx? fun p => decide (p.1 = k)) = x at *
  cases x with
  | none => cases c <;> simp [Instr.lookup, run_underlying ht, MapKept.run_getObj_map h1, hc, hf, hz, Result.andThen]
  | some i => cases c <;> simp [Instr.lookup, run_underlying ht, MapKept.run_getObj_map h1, hc, hf, hz, Result.andThen]
theorem aput_idx (l : List (κ × Value)) (k : κ) (v : Value) : aput l k v = match l.findIdx? fun p => decide (p.1 = k) with | some i => l.set i (k, v) | none => l ++ [(k, v)] := by
  induction l with
  | nil => rfl
  | cons p l ih =>
    unfold aput
    rw [List.findIdx?_cons]
    by_cases h : p.1 = k
    · rw [if_pos h, decide_eq_true h]
      rfl
    · rw [if_neg h, decide_eq_false h, ih]
      cases (l.findIdx? fun p => decide (p.1 = k)) <;> rfl
theorem MpR.put {P : Program} {enc : κ → Value} {kt et t : TypeId} (K : KeyEnc P kt enc) (ht : P.underlying t = some (.map kt et)) {w : World} {b : Nat} {l : List (κ × Value)} (h : MpR enc w b l) (k : κ) (v : Value) :
    ∃ w', (Instr.mapUpdate t (.map (some b)) (enc k) v).run P w = .ok () w' ∧ MpR enc w' b (aput l k v) ∧ Upd (fun j => j = b) w w' := by
  obtain ⟨es, cl, h1, h2, h3, h4⟩ := h
  have hf := K.find k es.toList l w h2
  have hc := K.check false k w
  have hblt := (Array.getElem?_eq_some_iff.1 h1).1
  have hupd : ∀ o, Upd (fun j => j = b) w { w with heap := w.heap.setIfInBounds b o } := fun o =>
    ⟨rfl, rfl, rfl, by simp, fun i hi hF => by simp [Ne.symm (show i ≠ b from hF)]⟩
  rw [aput_idx]
  generalize hx : (l.findIdx? fun p => decide (p.1 = k)) = x at *
  cases x with
  | none =>
    refine ⟨_, by simp [Instr.mapUpdate, run_underlying ht, MapKept.run_getObj_map h1, hc, hf, MapKept.run_setObj_map _ h1, Result.andThen]; rfl, ⟨es.push { key := enc k, val := v, born := cl }, cl + 1, by simp [hblt], ?_, ?_, ?_⟩, hupd _⟩
    · simp [h2]
    · simp only [Array.toList_push]
      rw [List.pairwise_append]
      refine ⟨h3, by simp, fun x hx y hy => ?_⟩
      rw [List.mem_singleton] at hy
      subst hy
      exact h4 x hx
    · intro e he
      simp only [Array.toList_push, List.mem_append, List.mem_singleton] at he
      rcases he with he | he
      · have := h4 e he; omega
      · subst he; simp
  | some i =>
    have hi : i < l.length := by
      rw [List.findIdx?_eq_some_iff_getElem] at hx
      exact hx.1
    have hlen : es.size = l.length := by
      have := congrArg List.length h2
      simpa using this
    have hki : (l[i]'hi).1 = k := by
      rw [List.findIdx?_eq_some_iff_getElem] at hx
      simpa using hx.2.1
    have hes : (es[i]'(by omega)).key = enc k := by
      have h5 : (es.toList.map (fun e => (e.key, e.val)))[i]? = (l.map (fun p => (enc p.1, p.2)))[i]? := by rw [h2]
      rw [List.getElem?_map, List.getElem?_map, Array.getElem?_toList, Array.getElem?_eq_getElem (show i < es.size by omega), List.getElem?_eq_getElem hi] at h5
      simp only [Option.map_some] at h5
      have h6 := congrArg Prod.fst (Option.some.inj h5)
      simp only at h6
      rw [h6, hki]
    have hst : (Instr.keyThatStays (((es[i]?).map (·.key)).getD (enc k)) (enc k)).run P w = .ok (enc k) w := by
      rw [Array.getElem?_eq_getElem (show i < es.size by omega)]
      simp only [Option.map_some, Option.getD_some, hes]
      unfold Instr.keyThatStays
      rw [if_pos (K.same k)]
      rfl
    refine ⟨_, by simp [Instr.mapUpdate, run_underlying ht, MapKept.run_getObj_map h1, hc, hf, hst, MapKept.run_setObj_map _ h1, Result.andThen]; rfl, ⟨es.modify i fun e => { e with key := enc k, val := v }, cl, by simp [hblt], ?_, ?_, ?_⟩, hupd _⟩
    · rw [Array.toList_modify]
      apply List.ext_getElem?
      intro j
      have h5 : (es.toList.map (fun e => (e.key, e.val)))[j]? = (l.map (fun p => (enc p.1, p.2)))[j]? := by rw [h2]
      simp only [List.getElem?_map, List.getElem?_modify, List.getElem?_set] at h5 ⊢
      by_cases e : i = j
      · subst e
        rw [if_pos rfl, if_pos hi]
        rw [Array.getElem?_toList, Array.getElem?_eq_getElem (show i < es.size by omega)]
        simp
      · rw [if_neg e]
        cases hq : es.toList[j]? with
        | none => rw [hq] at h5; simpa using h5
        | some u => rw [hq] at h5; simpa [e] using h5
    · rw [Array.toList_modify]
      have e : (es.toList.modify i fun e => { e with key := enc k, val := v }).map (·.born) = es.toList.map (·.born) := by
        apply List.ext_getElem?
        intro j
        simp only [List.getElem?_map, List.getElem?_modify]
        cases es.toList[j]? with
        | none => rfl
        | some u => simp only [Option.map_some]; split <;> rfl
      have h6 : (es.toList.map (·.born)).Pairwise (· < ·) := List.pairwise_map.2 h3
      rw [← e] at h6
      exact List.pairwise_map.1 h6
    · intro e he
      rw [Array.toList_modify] at he
      have h7 : e.born ∈ (es.toList.modify i fun e => { e with key := enc k, val := v }).map (·.born) := List.mem_map_of_mem he
      have e2 : (es.toList.modify i fun e => { e with key := enc k, val := v }).map (·.born) = es.toList.map (·.born) := by
        apply List.ext_getElem?
        intro j
        simp only [List.getElem?_map, List.getElem?_modify]
        cases es.toList[j]? with
        | none => rfl
        | some u => simp only [Option.map_some]; split <;> rfl
      rw [e2] at h7
      obtain ⟨u, hu, he2⟩ := List.mem_map.1 h7
      rw [← he2]
      exact h4 u hu
end
theorem strKey {P : Program} {kt : TypeId} (hk : P.underlying kt = some .string) : KeyEnc P kt (fun s : ByteArray => Value.string s) where
  check b x W := MapKept.run_checkKey hk (by simp [MapKept.IsKey]) b 9999
  same x := by
    show (x == x) = true
    exact (MapKept.bytes_beq _ _).2 rfl
  find x es l W h := by
    refine MapKept.run_findKey hk ?_
    have : ∀ (es : List MapEntry) (l : List (ByteArray × Value)) (i : Nat), es.map (fun e => (e.key, e.val)) = l.map (fun p => (Value.string p.1, p.2)) →
        Instr.findNow .string (.string x) es i = some ((l.findIdx? fun p => decide (p.1 = x)).map fun j => (i + j, ((l[j]?).map (·.2)).getD (.bool false))) := by
      intro es
      induction es with
      | nil =>
        intro l i h
        have : l = [] := by cases l; rfl; simp at h
        subst this
        rfl
      | cons e es ih =>
        intro l i h
        cases l with
        | nil => simp at h
        | cons p l =>
          simp only [List.map_cons, List.cons.injEq, Prod.mk.injEq] at h
          obtain ⟨⟨h1, h2⟩, h3⟩ := h
          unfold Instr.findNow
          rw [h1]
          simp only [Instr.sameNow]
          rw [List.findIdx?_cons]
          by_cases hx : p.1 = x
          · have hb : (x == p.1) = true := (MapKept.bytes_beq _ _).2 hx.symm
            rw [hb, decide_eq_true hx]
            simp [h2]
          · have hb : (x == p.1) = false := by
              rw [Bool.eq_false_iff]
              intro e
              exact hx ((MapKept.bytes_beq _ _).1 e).symm
            rw [hb, decide_eq_false hx]
            simp only
            rw [ih l (i + 1) h3]
            cases (l.findIdx? fun p => decide (p.1 = x)) with
            | none => rfl
            | some j => simp; omega
    have h2 := this es l 0 h
    simpa using h2
end Go.Hw

/- The reference's table by its index: pure; lists of fields in memory. -/
namespace Go.Hw
open Go.RowKit Tm
set_option linter.unusedVariables false
set_option linter.unusedSimpArgs false
abbrev vg (l : List Vd) (i : Nat) : Vd := l.getD i (nul, nul)
def vix (l : List Vd) (f : Vd) : Nat := match l with
  | [] => 0
  | g :: l => if blt g.1 f.1 = true then vix l f + 1 else 0
theorem vix_le (f : Vd) : ∀ l : List Vd, vix l f ≤ l.length
  | [] => Nat.le_refl _
  | g :: l => by
    unfold vix
    split
    · simpa using vix_le f l
    · simp
theorem vix_lt (f : Vd) : ∀ (l : List Vd) (j : Nat), j < vix l f → blt (vg l j).1 f.1 = true
  | [], j, h => by simp [vix] at h
  | g :: l, j, h => by
    unfold vix at h
    split at h
    · rename_i hb
      cases j with
      | zero => exact hb
      | succ j => exact vix_lt f l j (by omega)
    · simp at h
theorem vix_at (f : Vd) : ∀ (l : List Vd), vix l f < l.length → blt (vg l (vix l f)).1 f.1 = false
  | [], h => by simp at h
  | g :: l, h => by
    unfold vix at h ⊢
    by_cases hb : blt g.1 f.1 = true
    · rw [if_pos hb] at h ⊢
      exact vix_at f l (by simpa using h)
    · rw [if_neg hb]
      exact Bool.eq_false_iff.2 hb
theorem vix_uniq (l : List Vd) (f : Vd) (k : Nat) (hk : k ≤ l.length) (h1 : ∀ j, j < k → blt (vg l j).1 f.1 = true) (h2 : k < l.length → blt (vg l k).1 f.1 = false) : vix l f = k := by
  rcases Nat.lt_trichotomy (vix l f) k with h | h | h
  · have h3 := vix_at f l (by omega)
    rw [h1 _ h] at h3; cases h3
  · exact h
  · have h3 := vix_lt f l k h
    rw [h2 (by have := vix_le f l; omega)] at h3; cases h3
theorem vadd_ix (f : Vd) : ∀ l : List Vd, vadd l f = if vix l f < l.length ∧ (vg l (vix l f)).1 = f.1 then (l, decide ((vg l (vix l f)).2 = f.2)) else (l.take (vix l f) ++ f :: l.drop (vix l f), true)
  | [] => by simp [vadd, vix]
  | g :: l => by
    have ih := vadd_ix f l
    unfold vadd vix
    by_cases hb : blt g.1 f.1 = true
    · rw [if_pos hb, if_pos hb]
      have e : vg (g :: l) (vix l f + 1) = vg l (vix l f) := rfl
      by_cases hc : vix l f < l.length ∧ (vg l (vix l f)).1 = f.1
      · rw [if_pos hc] at ih
        rw [ih]
        exact (if_pos (c := vix l f + 1 < (g :: l).length ∧ (vg (g :: l) (vix l f + 1)).1 = f.1) ⟨by simpa using hc.1, hc.2⟩).symm
      · rw [if_neg hc] at ih
        rw [ih, if_neg (fun h => hc ⟨by simpa using h.1, h.2⟩)]
        simp
    · rw [if_neg hb, if_neg hb]
      by_cases hc : g.1 = f.1
      · rw [if_pos hc]
        exact (if_pos (c := 0 < (g :: l).length ∧ (vg (g :: l) 0).1 = f.1) ⟨by simp, hc⟩).symm
      · rw [if_neg hc, if_neg (fun h => hc h.2)]
        simp
def fCells (l : List Vd) : List Value := l.flatMap fun f => [.string f.1, .string f.2]
theorem fCells_append (l m : List Vd) : fCells (l ++ m) = fCells l ++ fCells m := by simp [fCells]
theorem fCells_at : ∀ (l : List Vd) (i : Nat), i < l.length → (fCells l)[i * 2]? = some (.string (vg l i).1) ∧ (fCells l)[i * 2 + 1]? = some (.string (vg l i).2)
  | a :: l, 0, _ => ⟨rfl, rfl⟩
  | a :: l, i + 1, h => by
    obtain ⟨h0, h1⟩ := fCells_at l i (by simpa using h)
    have e : ∀ k, (fCells (a :: l))[(i + 1) * 2 + k]? = (fCells l)[i * 2 + k]? := fun k => by
      rw [show (i + 1) * 2 + k = i * 2 + k + 1 + 1 by omega]
      rfl
    exact ⟨by rw [← Nat.add_zero ((i + 1) * 2), e]; exact h0, by rw [e]; exact h1⟩
theorem fCells_take (l : List Vd) : ∀ k, (fCells l).take (k * 2) = fCells (l.take k) := by
  induction l with
  | nil => intro k; simp [fCells]
  | cons a l ih =>
    intro k
    cases k with
    | zero => simp [fCells]
    | succ k =>
      have h := ih k
      simp only [fCells, List.flatMap_cons, List.take_succ_cons] at h ⊢
      rw [show (k + 1) * 2 = k * 2 + 1 + 1 by omega]
      simp only [List.cons_append, List.nil_append, List.take_succ_cons, h]
theorem fCells_drop (l : List Vd) : ∀ k, (fCells l).drop (k * 2) = fCells (l.drop k) := by
  induction l with
  | nil => intro k; simp [fCells]
  | cons a l ih =>
    intro k
    cases k with
    | zero => simp [fCells]
    | succ k =>
      have h := ih k
      simp only [fCells, List.flatMap_cons, List.drop_succ_cons] at h ⊢
      rw [show (k + 1) * 2 = k * 2 + 1 + 1 by omega]
      simp only [List.cons_append, List.nil_append, List.drop_succ_cons, h]
theorem fCells_one (l : List Vd) : ∀ u ∈ fCells l, u.oneCell' = true := by
  intro u hu
  unfold fCells at hu
  rw [List.mem_flatMap] at hu
  obtain ⟨f, _, hf⟩ := hu
  simp at hf
  rcases hf with rfl | rfl <;> rfl
def FiR (S : Nat → Prop) (w : World) (v : Value) (l : List Vd) : Prop := SlR S w 2 v l.length (fCells l)
theorem FiR.shape {S : Nat → Prop} {w : World} {v : Value} {l : List Vd} (h : FiR S w v l) : ∃ a cap, v = .slice a l.length cap := SlR.shape h
theorem FiR.ext {S : Nat → Prop} {w w' : World} {v : Value} {l : List Vd} (h : FiR S w v l) (hu : Ext w w') : FiR S w' v l := SlR.kept h hu (fun _ _ h => h)
theorem FiR.at_ {S : Nat → Prop} {w : World} {a : Option Addr} {n cap : Nat} {l : List Vd} (h : FiR S w (.slice a n cap) l) (hl : 0 < l.length) :
    ∃ g off, a = some ⟨g, off, none⟩ ∧ ∀ i, i < l.length → w.cell? ⟨g, off + i * 2, none⟩ = some (.string (vg l i).1) ∧ w.cell? ⟨g, off + i * 2 + 1, none⟩ = some (.string (vg l i).2) := by
  obtain ⟨g, off, c, e, _, _, hj⟩ := SlR.pos h hl
  injection e with e1 e2 e3
  refine ⟨g, off, e1, fun i hi => ?_⟩
  obtain ⟨h0, h1⟩ := fCells_at l i hi
  exact ⟨by rw [hj _ (by omega), h0], by rw [Nat.add_assoc, hj _ (by omega), h1]⟩
end Go.Hw

/- A drawn region walked once: what only reads is taken when it may come up; the rest comes up alone, one behind the other; a condition S on the world holds till the sink. -/
namespace Go.Hw
open Go.RowKit
set_option linter.unusedVariables false
set_option linter.unusedSimpArgs false

section
variable {P : Program} {ops : Array Oper} {Q : Exit → Act → World → Prop} {md : Region.Mode} {S : World → Prop} {n : Nat}

def wpTill (P : Program) (md : Region.Mode) (ops : Array Oper) (Q : Exit → Act → World → Prop) (S : World → Prop) (n : Nat) : Nat → Array Bool → Act → World → Prop
  | 0, l, a, w => Region.ready md ops l = [] ∧ Q .normal a w
  | f + 1, l, a, w =>
    (Region.ready md ops l = [] → Q .normal a w) ∧
    ∀ i ∈ Region.ready md ops l, wpOp P ops Q i (fun a' w' => (S w' ∨ (l.setIfInBounds i true).getD n false = true) ∧ wpTill P md ops Q S n f (l.setIfInBounds i true) a' w') a w
theorem wpAny_of_till : ∀ (f : Nat) (l : Array Bool) (a : Act) (w : World), wpTill P md ops Q S n f l a w → wpAny P md ops Q f l a w
  | 0, _, _, _, h => h
  | f + 1, _, _, _, h => ⟨h.1, fun i hi => wpOp_mono (fun a' w' h' => wpAny_of_till f _ a' w' h'.2) (h.2 i hi)⟩

structure Deps (md : Region.Mode) (ops : Array Oper) (l : Array Bool) : Prop where
  size : l.size = ops.size
  back : ∀ j o, ops[j]? = some o → l.getD j false = true → ∀ e ∈ o.after, Region.binds md e = true → l.getD e.on false = true
theorem getD_ff {l : Array Bool} {i : Nat} (h : l.getD i true = false) : l.getD i false = false := by
  rcases Nat.lt_or_ge i l.size with h' | h'
  · simp [h'] at h ⊢; exact h
  · simp [Array.getElem?_eq_none h'] at h
theorem getD_tf {l : Array Bool} {i : Nat} (hi : i < l.size) (h : l.getD i false = false) : l.getD i true = false := by
  simp [hi] at h ⊢; exact h
theorem Deps.step {l : Array Bool} {i : Nat} (h : Deps md ops l) (hi : i ∈ Region.ready md ops l) : Deps md ops (l.setIfInBounds i true) := by
  obtain ⟨_, oi, hoi, hall⟩ := mem_ready.1 hi
  refine ⟨by rw [Array.size_setIfInBounds]; exact h.size, fun j o ho hl e he hb => ?_⟩
  by_cases hij : i = j
  · subst hij
    obtain rfl : oi = o := Option.some.inj (hoi.symm.trans ho)
    exact getD_set_true (hall e he hb)
  · rw [getD_set_ne false hij] at hl
    exact getD_set_true (h.back j o ho hl e he hb)
theorem Deps.start : Deps md ops (Array.replicate ops.size false) :=
  ⟨by simp, fun j o _ hl => by
    rcases Nat.lt_or_ge j ops.size with h | h
    · simp [h] at hl
    · simp [h] at hl⟩
theorem sink_not_ready {l : Array Bool} (hs : Region.sinkB md ops n = true) (h : Deps md ops l) : ∀ (k i : Nat), n - i ≤ k → i < n → l.getD i true = false → n ∉ Region.ready md ops l := by
  intro k
  induction k with
  | zero => intro i h1 h2; omega
  | succ k ih =>
    intro i hd hi hun hr
    obtain ⟨_, ot, hot, hall⟩ := mem_ready.1 hr
    obtain ⟨j, hj, hj2⟩ := List.any_eq_true.1 (List.all_eq_true.1 hs i (List.mem_range.2 hi))
    simp only [Bool.and_eq_true, decide_eq_true_eq] at hj2
    have hjn := List.mem_range.1 hj
    obtain ⟨oj, hoj, e, he, hb, hon⟩ := Region.waitsFor_spec hj2.2
    have hjl : l.getD j false = true → False := fun hl => by
      have := h.back j oj hoj hl e he hb
      rw [hon, getD_ff hun] at this
      cases this
    by_cases hjt : j = n
    · subst hjt
      obtain rfl : oj = ot := Option.some.inj (hoj.symm.trans hot)
      have := hall e he hb
      rw [hon, getD_ff hun] at this
      cases this
    · cases hl : l.getD j false with
      | true => exact hjl hl
      | false =>
        have hjs : j < l.size := by rw [h.size]; exact (Array.getElem?_eq_some_iff.1 hoj).1
        exact ih j (by omega) (by omega) (getD_tf hjs hl) hr

theorem wpTill_first {i : Nat} {oi : Oper} {v : Value} (hi : ops[i]? = some oi) (hsel : ∀ (j : Nat) (o : Oper) cs b, ops[j]? = some o → o.op ≠ .select cs b)
    (hQ : ∀ c a w, Q (.panic c) (a.put oi.dst v) w → Q (.panic c) a w) (hs : Region.sinkB md ops n = true) (hin : i < n) :
    ∀ (f : Nat) (l : Array Bool) (a : Act) (w : World), Deps md ops l → l.getD n false = false →
      (∀ j oj, ops[j]? = some oj → j ≠ i → l.getD j true = false → (∀ e ∈ oj.after, Region.binds md e = true → e.on ≠ i) → oi.apart ops oj = true) →
      i ∈ Region.ready md ops l → YieldsIf P ops S oi v a → S w →
      wpTill P md ops Q S n f (l.setIfInBounds i true) (a.put oi.dst v) w → wpTill P md ops Q S n (f + 1) l a w := by
  intro f
  induction f with
  | zero =>
    intro l a w _ _ _ hr hy hS H
    refine ⟨fun h => (by rw [h] at hr; cases hr), fun j hj => ?_⟩
    by_cases hji : j = i
    · subst hji; exact hy.wpOp hi hS ⟨.inl hS, H⟩
    · have := ready_mono hj hji
      rw [H.1] at this
      cases this
  | succ f ih =>
    intro l a w hd hn hfree hr hy hS H
    have hun := (mem_ready.1 hr).1
    refine ⟨fun h => (by rw [h] at hr; cases hr), fun j hj => ?_⟩
    by_cases hji : j = i
    · subst hji; exact hy.wpOp hi hS ⟨.inl hS, H⟩
    · have hjn : j ≠ n := fun e => by subst e; exact sink_not_ready hs hd _ i (Nat.le_refl _) hin hun hj
      obtain ⟨hjun, oj, hoj, hall⟩ := mem_ready.1 hj
      have hnot : ∀ e ∈ oj.after, Region.binds md e = true → e.on ≠ i := fun e he hb heq => by
        have h1 := hall e he hb
        rw [heq, getD_ff hun] at h1
        cases h1
      have h2 := wpOp_putIf hoj (hfree j oj hoj hji hjun hnot) (fun cs b => hsel i oi cs b hi) (fun cs b => hsel j oj cs b hoj) hQ hy (H.2 j (ready_mono hj hji))
      have hn' : (l.setIfInBounds j true).getD n false = false := by rw [getD_set_ne false hjn]; exact hn
      have hfree' : ∀ k ok, ops[k]? = some ok → k ≠ i → (l.setIfInBounds j true).getD k true = false →
          (∀ e ∈ ok.after, Region.binds md e = true → e.on ≠ i) → oi.apart ops ok = true := fun k ok hk hki hun' hno => by
        refine hfree k ok hk hki ?_ hno
        by_cases hjk : j = k
        · subst hjk; exact hjun
        · rw [getD_set_ne true hjk] at hun'; exact hun'
      refine wpOp_mono (fun a' w' h3 => ?_) h2
      obtain ⟨hy', hSw, ht⟩ := h3
      have hSw' : S w' := by
        rcases hSw with h | h
        · exact h
        · rw [getD_set_ne false hjn, getD_set_ne false (by omega), hn] at h; cases h
      refine ⟨.inl hSw', ih (l.setIfInBounds j true) a' w' (hd.step hj) hn' hfree' (ready_mono hr (Ne.symm hji)) hy' hSw' ?_⟩
      rw [Array.setIfInBounds_comm _ _ hji]
      exact ht
theorem wpTill_alone {k f : Nat} {l : Array Bool} {a : Act} {w : World} (hr : Region.ready md ops l = [k])
    (h : wpOp P ops Q k (fun a' w' => (S w' ∨ (l.setIfInBounds k true).getD n false = true) ∧ wpTill P md ops Q S n f (l.setIfInBounds k true) a' w') a w) : wpTill P md ops Q S n (f + 1) l a w := by
  refine ⟨fun h0 => ?_, fun i hi => ?_⟩
  · rw [hr] at h0; cases h0
  · rw [hr] at hi
    have : i = k := by simpa using hi
    subst this
    exact h

def mixB (md : Region.Mode) (ops : Array Oper) (n : Nat) : List (Nat × Nat) → Array Bool → Bool
  | [], l => (Region.ready md ops l).isEmpty
  | (k, 0) :: r, l => (Region.ready md ops l).contains k && Region.free md ops l k && decide (k < n) && !l.getD n false && mixB md ops n r (l.setIfInBounds k true)
  | (k, 1) :: r, l => decide (Region.ready md ops l = [k]) && mixB md ops n r (l.setIfInBounds k true)
  | (k, _ + 2) :: r, l => decide (Region.ready md ops l = [k]) && (l.setIfInBounds k true).getD n false && mixB md ops n r (l.setIfInBounds k true)

def wpMix (P : Program) (ops : Array Oper) (Q : Exit → Act → World → Prop) (S : World → Prop) : List (Nat × Oper) → Act → World → Prop
  | [], a, w => Q .normal a w
  | (0, o) :: r, a, w => if Region.wanted o (yielded ops a.tmps) then ∃ v, (∀ W, S W → (execOp a.eval o).run P W = .ok (.value v) W) ∧ wpMix P ops Q S r (a.put o.dst v) w else wpMix P ops Q S r (a.put o.dst undef) w
  | (1, o) :: r, a, w => if Region.wanted o (yielded ops a.tmps) then o.wp P a w (fun a' w' => S w' ∧ wpMix P ops Q S r a' w') Q else wpMix P ops Q S r (a.put o.dst undef) w
  | (_ + 2, o) :: r, a, w => if Region.wanted o (yielded ops a.tmps) then o.wp P a w (wpMix P ops Q S r) Q else wpMix P ops Q S r (a.put o.dst undef) w

def pickO (l : List Oper) : List (Nat × Nat) → List (Nat × Oper)
  | [] => []
  | (k, b) :: r => match l[k]? with
    | some o => (b, o) :: pickO l r
    | none => pickO l r

theorem wpTill_of_mix {l : List Oper} (hsel : Region.noSelect l.toArray = true) (hs : Region.sinkB md l.toArray n = true) (hQ : ∀ c a d v w, Q (.panic c) (Act.put a d v) w → Q (.panic c) a w) :
    ∀ (ord : List (Nat × Nat)) (t : Array Bool) (a : Act) (w : World), Deps md l.toArray t → (S w ∨ t.getD n false = true) → mixB md l.toArray n ord t = true →
      wpMix P l.toArray Q S (pickO l ord) a w → wpTill P md l.toArray Q S n ord.length t a w := by
  intro ord
  induction ord with
  | nil => intro t a w _ _ hB h; exact ⟨by simpa [mixB] using hB, h⟩
  | cons p r ih =>
    intro t a w hd hS hB h
    obtain ⟨k, b⟩ := p
    have hkr : k ∈ Region.ready md l.toArray t := by
      match b, hB with
      | 0, hB => simp only [mixB, Bool.and_eq_true] at hB; simpa using hB.1.1.1.1
      | 1, hB => simp only [mixB, Bool.and_eq_true, decide_eq_true_eq] at hB; rw [hB.1]; simp
      | _ + 2, hB => simp only [mixB, Bool.and_eq_true, decide_eq_true_eq] at hB; rw [hB.1.1]; simp
    obtain ⟨_, o, ho, _⟩ := mem_ready.1 hkr
    have ho' : l[k]? = some o := by simpa using ho
    have hd' := hd.step hkr
    simp only [pickO, ho'] at h
    match b, hB, h with
    | 0, hB, h =>
      simp only [mixB, Bool.and_eq_true, decide_eq_true_eq, Bool.not_eq_true'] at hB
      obtain ⟨⟨⟨⟨_, hf⟩, hkn⟩, htn⟩, hB⟩ := hB
      have hSw : S w := by
        rcases hS with h | h
        · exact h
        · rw [htn] at h; cases h
      simp only [wpMix] at h
      by_cases hw : Region.wanted o (yielded l.toArray a.tmps) = true
      · rw [if_pos hw] at h
        obtain ⟨v, hv, h⟩ := h
        exact wpTill_first ho (Region.noSelect_spec hsel) (fun c a w => hQ c a _ v w) hs hkn _ t a w hd htn (Region.free_spec ho hf) hkr (.inl ⟨hw, hv⟩) hSw (ih _ _ _ hd' (.inl hSw) hB h)
      · rw [if_neg hw] at h
        exact wpTill_first ho (Region.noSelect_spec hsel) (fun c a w => hQ c a _ undef w) hs hkn _ t a w hd htn (Region.free_spec ho hf) hkr (.inr ⟨by simpa using hw, rfl⟩) hSw (ih _ _ _ hd' (.inl hSw) hB h)
    | 1, hB, h =>
      simp only [mixB, Bool.and_eq_true, decide_eq_true_eq] at hB
      refine wpTill_alone hB.1 ?_
      unfold wpOp
      simp only [ho]
      simp only [wpMix] at h
      by_cases hw : Region.wanted o (yielded l.toArray a.tmps) = true
      · rw [if_pos hw] at h ⊢
        exact .inl (Oper.wp_mono (fun a' w' h' => ⟨.inl h'.1, ih _ _ _ hd' (.inl h'.1) hB.2 h'.2⟩) h)
      · rw [if_neg hw] at h ⊢
        have hS' : S w ∨ (t.setIfInBounds k true).getD n false = true := hS.imp id getD_set_true
        exact ⟨hS', ih _ _ _ hd' hS' hB.2 h⟩
    | b + 2, hB, h =>
      simp only [mixB, Bool.and_eq_true, decide_eq_true_eq] at hB
      refine wpTill_alone hB.1.1 ?_
      unfold wpOp
      simp only [ho]
      simp only [wpMix] at h
      by_cases hw : Region.wanted o (yielded l.toArray a.tmps) = true
      · rw [if_pos hw] at h ⊢
        exact .inl (Oper.wp_mono (fun a' w' h' => ⟨.inr hB.1.2, ih _ _ _ hd' (.inr hB.1.2) hB.2 h'⟩) h)
      · rw [if_neg hw] at h ⊢
        exact ⟨.inr hB.1.2, ih _ _ _ hd' (.inr hB.1.2) hB.2 h⟩

theorem wp_region_mix {id : Nat} {a : Act} {w : World} {l : List Oper} (ord : List (Nat × Nat)) (n : Nat) (S : World → Prop) (hm : P.follows .mixedOrders = true)
    (hB : (Region.noSelect l.toArray && Region.sinkB .any l.toArray n && decide (ord.length = l.length) && mixB .any l.toArray n ord (Array.replicate l.toArray.size false)) = true)
    (hQ : ∀ c a d v w, Q (.panic c) (Act.put a d v) w → Q (.panic c) a w) (hS : S w.drew) (h : wpMix P l.toArray Q S (pickO l ord) a w.drew) : (Code.region id l.toArray true).wp P Q a w := by
  simp only [Bool.and_eq_true, decide_eq_true_eq] at hB
  obtain ⟨⟨⟨h1, h2⟩, h3⟩, h4⟩ := hB
  refine wp_region_any hm (wpAny_of_till _ _ _ _ (n := n) (S := S) ?_)
  have := wpTill_of_mix (P := P) (S := S) h1 h2 hQ ord _ a w.drew Deps.start (.inl hS) h4 h
  rw [h3] at this
  exact this

theorem mix_take {o : Oper} {r : List (Nat × Oper)} {a : Act} {w : World}
    (h : ∀ K : Act → Prop, (∀ a, wpMix P ops Q S r a w → K a) → if Region.wanted o (yielded ops a.tmps) then ∃ v, (∀ W, S W → (execOp a.eval o).run P W = .ok (.value v) W) ∧ K (a.put o.dst v) else K (a.put o.dst undef)) :
    wpMix P ops Q S ((0, o) :: r) a w := h (fun a => wpMix P ops Q S r a w) (fun _ h => h)
theorem mix_one {o : Oper} {r : List (Nat × Oper)} {a : Act} {w : World}
    (h : ∀ K : Act → World → Prop, (∀ a w, S w → wpMix P ops Q S r a w → K a w) → (S w → if Region.wanted o (yielded ops a.tmps) then o.wp P a w K Q else K (a.put o.dst undef) w)) (hS : S w) :
    wpMix P ops Q S ((1, o) :: r) a w := by
  simp only [wpMix]
  have h2 := h (fun a' w' => S w' ∧ wpMix P ops Q S r a' w') (fun a w h1 h2 => ⟨h1, h2⟩) hS
  by_cases hw : Region.wanted o (yielded ops a.tmps) = true
  · rw [if_pos hw] at h2 ⊢; exact h2
  · rw [if_neg hw] at h2 ⊢; exact h2.2
theorem mix_two {o : Oper} {r : List (Nat × Oper)} {a : Act} {w : World} {b : Nat}
    (h : ∀ K : Act → World → Prop, (∀ a w, wpMix P ops Q S r a w → K a w) → if Region.wanted o (yielded ops a.tmps) then o.wp P a w K Q else K (a.put o.dst undef) w) :
    wpMix P ops Q S ((b + 2, o) :: r) a w := h (wpMix P ops Q S r) (fun _ _ h => h)
end

structure XF (F : Nat → Prop) (w : World) where
  val : World
  upd : Upd F w val
instance (F : Nat → Prop) (w : World) : Nonempty (XF F w) := ⟨⟨w, Upd.refl _ w⟩⟩
end Go.Hw
