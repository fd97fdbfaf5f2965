/- The texts L1 TP TM TF TV TC, one behind the other. -/
import Derived.WalkKit
import Derived.WalkSpells
import Derived.Lib.Hide
import Derived.BigQuiet
import Derived.Deep.QuietTactic
import Derived.Deep.LoopGhost
import Derived.StillTailTactics
/- Small laws of the prover's own, over any program: what stays of memory, slices that are read, slices that grow. -/
namespace Go.Hw
open Go.RowKit
set_option linter.unusedVariables false
set_option linter.unusedSimpArgs false

structure Upd (F : Nat → Prop) (w w' : World) : Prop where
  os : w'.os = w.os
  tape : w'.tape = w.tape
  output : w'.output = w.output
  size : w.heap.size ≤ w'.heap.size
  block : ∀ k, k < w.heap.size → ¬ F k → w'.heap[k]? = w.heap[k]?

abbrev Ext (w w' : World) : Prop := Upd (fun _ => False) w w'

theorem Upd.refl (F : Nat → Prop) (w : World) : Upd F w w := ⟨rfl, rfl, rfl, Nat.le_refl _, fun _ _ _ => rfl⟩
theorem Upd.trans {F : Nat → Prop} {a b c : World} (h : Upd F a b) (k : Upd F b c) : Upd F a c :=
  ⟨k.os.trans h.os, k.tape.trans h.tape, k.output.trans h.output, Nat.le_trans h.size k.size,
   fun i hi hf => (k.block i (Nat.lt_of_lt_of_le hi h.size) hf).trans (h.block i hi hf)⟩
theorem Upd.mono {F G : Nat → Prop} {a b : World} (h : Upd F a b) (hFG : ∀ k, k < a.heap.size → F k → G k) : Upd G a b :=
  ⟨h.os, h.tape, h.output, h.size, fun i hi hf => h.block i hi (fun x => hf (hFG i hi x))⟩
theorem Upd.trans' {F G : Nat → Prop} {a b c : World} (h : Upd F a b) (k : Upd G b c) (hs : ∀ i, i < a.heap.size → G i → F i) : Upd F a c :=
  ⟨k.os.trans h.os, k.tape.trans h.tape, k.output.trans h.output, Nat.le_trans h.size k.size,
   fun i hi hf => (k.block i (Nat.lt_of_lt_of_le hi h.size) (fun g => hf (hs i hi g))).trans (h.block i hi hf)⟩
theorem Upd.ext {F : Nat → Prop} {a b c : World} (h : Upd F a b) (k : Ext b c) : Upd F a c := h.trans' k (fun _ _ x => x.elim)
theorem Upd.drew {F : Nat → Prop} {a w : World} (h : Upd F a w) : Upd F a w.drew := ⟨h.os, h.tape, h.output, h.size, h.block⟩
theorem Upd.drewN' {F : Nat → Prop} {a w : World} (h : Upd F a w) (n : Nat) : Upd F a (w.drewN n) := ⟨h.os, h.tape, h.output, h.size, h.block⟩
theorem Upd.alloc {F : Nat → Prop} {a w : World} (h : Upd F a w) (o : Obj) : Upd F a (w.alloc o) :=
  h.trans ⟨rfl, rfl, rfl, by simp, fun k hk _ => Below.heap_alloc _ _ _ hk⟩
theorem Upd.setCell {F : Nat → Prop} {a w : World} (h : Upd F a w) {p : Addr} (hp : F p.block ∨ a.heap.size ≤ p.block) (u : Value) : Upd F a (w.setCell p u) :=
  ⟨h.os, h.tape, h.output, by simpa [World.setCell] using h.size, fun k hk hf => by
    rw [Below.heap_setCell _ _ _ _ (by intro e; subst e; rcases hp with hp | hp; exact hf hp; omega)]; exact h.block k hk hf⟩
theorem Upd.of_grown {w w' : World} {row : Option Nat} (h : w.grownBy w' row) : Upd (fun k => some k = row) w w' :=
  ⟨h.os, h.tape, h.output, h.size, fun k hk hf => h.block k hk hf⟩
theorem Upd.grown {F : Nat → Prop} {a w w' : World} {row : Option Nat} (h : Upd F a w) (hg : w.grownBy w' row) (hr : ∀ k, row = some k → F k ∨ a.heap.size ≤ k) : Upd F a w' :=
  ⟨hg.os.trans h.os, hg.tape.trans h.tape, hg.output.trans h.output, Nat.le_trans h.size hg.size,
   fun i hi hf => (hg.block i (Nat.lt_of_lt_of_le hi h.size) (fun e => by rcases hr i e.symm with h | h; exact hf h; omega)).trans (h.block i hi hf)⟩
theorem Upd.cell {F : Nat → Prop} {w w' : World} (h : Upd F w w') {p : Addr} {v : Value} (hc : w.cell? p = some v) (hp : ¬ F p.block) : w'.cell? p = some v :=
  (World.cell?_of_block (w := w) (h.block p.block (World.block_lt_of_cell? w p hc) hp)).trans hc
theorem Upd.below {F : Nat → Prop} {W w w' : World} {B : Nat} (h : Upd F w w') (hW : Below B W w) (hB : B ≤ w.heap.size) (hF : ∀ k, F k → B ≤ k) : Below B W w' :=
  hW.trans ⟨h.os, h.tape, h.output, h.size, fun k hk => h.block k (by omega) (fun e => by have := hF k e; omega)⟩
theorem Ext.below {w w' : World} (h : Ext w w') : Below w.heap.size w w' := ⟨h.os, h.tape, h.output, h.size, fun k hk => h.block k hk (fun x => x)⟩
theorem Upd.heap {F : Nat → Prop} {w w' : World} (h : Upd F w w') {b : Nat} {o : Obj} (hb : w.heap[b]? = some o) (hF : ¬ F b) : w'.heap[b]? = some o :=
  (h.block b (Array.getElem?_eq_some_iff.1 hb).1 hF).trans hb

theorem cellRow {w : World} {b : Nat} {cs : Array Value} {t : TypeId} (h : w.heap[b]? = some (.cells cs t (0, 0))) (i : Nat) (v : Value) (hv : cs[i]? = some v) : w.cell? ⟨b, i, none⟩ = some v := by
  rw [cell_of_row w b i cs t _ h, hv]
theorem frozenRow {w : World} {b : Nat} {cs : Array Value} {t : TypeId} (h : w.heap[b]? = some (.cells cs t (0, 0))) (i : Nat) : w.frozen? ⟨b, i, none⟩ = false := frozen_of_row w b i cs t h

theorem alloc0 (w : World) (o : Obj) : (w.alloc o).heap[w.heap.size]? = some o := by
  show (w.heap.push o)[w.heap.size]? = some o
  simp
theorem alloc_at (w : World) (o : Obj) {n : Nat} (h : n = w.heap.size) : (w.alloc o).heap[n]? = some o := by subst h; exact alloc0 w o
theorem allocOld {w : World} {k : Nat} {x : Obj} (h : w.heap[k]? = some x) (o : Obj) : (w.alloc o).heap[k]? = some x := by
  rw [Below.heap_alloc _ _ _ (Array.getElem?_eq_some_iff.1 h).1]; exact h
theorem alloc_size (w : World) (o : Obj) : (w.alloc o).heap.size = w.heap.size + 1 := by simp

/-! ### a slice that is only read: n elements of size cells each, its cells cs, its block among S -/
def SlR (S : Nat → Prop) (w : World) (size : Nat) (v : Value) (n : Nat) (cs : List Value) : Prop :=
  cs.length = n * size ∧
  ((v = .slice none 0 0 ∧ n = 0) ∨
   ∃ ad cap, v = .slice (some ad) n cap ∧ n ≤ cap ∧ (0 < n → ad.spot = none ∧ S ad.block) ∧ ∀ j, j < n * size → w.cell? ⟨ad.block, ad.off + j, none⟩ = cs[j]?)

section
variable {S T F : Nat → Prop} {w w' : World} {size : Nat} {v : Value} {n : Nat} {cs : List Value}
theorem SlR.nil (S : Nat → Prop) (w : World) (size : Nat) : SlR S w size (.slice none 0 0) 0 [] := ⟨by simp, .inl ⟨rfl, rfl⟩⟩
theorem SlR.mk' {g off cap : Nat} (hl : cs.length = n * size) (hv : v = .slice (some ⟨g, off, none⟩) n cap) (hc : n ≤ cap) (hS : 0 < n → S g) (hj : ∀ j, j < n * size → w.cell? ⟨g, off + j, none⟩ = cs[j]?) :
    SlR S w size v n cs := ⟨hl, .inr ⟨_, cap, hv, hc, fun h => ⟨rfl, hS h⟩, hj⟩⟩
theorem SlR.empty (S : Nat → Prop) (w : World) (size : Nat) (a : Addr) (cap : Nat) : SlR S w size (.slice (some a) 0 cap) 0 [] :=
  ⟨by simp, .inr ⟨a, cap, rfl, Nat.zero_le _, fun h => absurd h (Nat.lt_irrefl 0), fun j hj => by simp at hj⟩⟩
theorem SlR.weaken (h : SlR S w size v n cs) (hs : ∀ k, S k → T k) : SlR T w size v n cs := by
  refine ⟨h.1, ?_⟩
  rcases h.2 with h | ⟨ad, cap, hv, hc, hg, hj⟩
  · exact .inl h
  · exact .inr ⟨ad, cap, hv, hc, fun h => ⟨(hg h).1, hs _ (hg h).2⟩, hj⟩
theorem pos_of_lt {n j size : Nat} (h : j < n * size) : 0 < n := by
  cases n with
  | zero => simp at h
  | succ n => omega
theorem SlR.kept (h : SlR S w size v n cs) (hu : Upd F w w') (hF : ∀ k, S k → ¬ F k) : SlR S w' size v n cs := by
  refine ⟨h.1, ?_⟩
  rcases h.2 with h2 | ⟨ad, cap, hv, hc, hg, hj⟩
  · exact .inl h2
  · refine .inr ⟨ad, cap, hv, hc, hg, fun j hj' => ?_⟩
    have h1 := hj j hj'
    rw [List.getElem?_eq_getElem (by rw [h.1]; exact hj')] at h1 ⊢
    exact hu.cell h1 (hF _ (hg (pos_of_lt hj')).2)
theorem SlR.drewN (h : SlR S w size v n cs) (k : Nat) : SlR S (w.drewN k) size v n cs := h
theorem SlR.drew (h : SlR S w size v n cs) : SlR S w.drew size v n cs := h
theorem SlR.shape (h : SlR S w size v n cs) : ∃ a cap, v = .slice a n cap := by
  rcases h.2 with ⟨h1, h2⟩ | ⟨ad, cap, hv, _⟩
  · exact ⟨none, 0, by rw [h1, h2]⟩
  · exact ⟨_, _, hv⟩
theorem SlR.pos (h : SlR S w size v n cs) (hn : 0 < n) : ∃ g off cap, v = .slice (some ⟨g, off, none⟩) n cap ∧ n ≤ cap ∧ S g ∧ ∀ j, j < n * size → w.cell? ⟨g, off + j, none⟩ = cs[j]? := by
  rcases h.2 with ⟨h1, h2⟩ | ⟨ad, cap, hv, hc, hg, hj⟩
  · omega
  · obtain ⟨g, off, spot⟩ := ad
    obtain ⟨h1, h2⟩ := hg hn
    simp only at h1
    subst h1
    exact ⟨g, off, cap, hv, hc, h2, hj⟩
theorem SlR.of_own {base e : Nat} (h : w.ownsRow base e size v n cs) : SlR (fun k => v.ownBlock = Option.some k) w size v n cs := by
  refine ⟨h.1, ?_⟩
  rcases h.2 with h2 | ⟨g, cap, cur, rfl, hb, hg, hc, hm, hs, ht⟩
  · exact .inl h2
  · refine .inr ⟨⟨g, 0, Option.none⟩, cap, rfl, hc, fun _ => ⟨rfl, rfl⟩, fun j hj => ?_⟩
    rw [Nat.zero_add]; exact World.ownsRow.cellAt h j hj
theorem own_kept {base e : Nat} (h : w.ownsRow base e size v n cs) (hu : Upd F w w') (hF : ∀ k, v.ownBlock = Option.some k → ¬ F k) : w'.ownsRow base e size v n cs := by
  refine ⟨h.1, ?_⟩
  rcases h.2 with h2 | ⟨g, cap, cur, rfl, hb, hg, rest⟩
  · exact .inl h2
  · exact .inr ⟨g, cap, cur, rfl, hb, hu.heap hg (hF g rfl), rest⟩
theorem own_shape {base e : Nat} (h : w.ownsRow base e size v n cs) : ∃ a cap, v = .slice a n cap := (SlR.of_own h).shape
theorem SlR.to (h : SlR S w size v n cs) {a : Option Addr} {m cap : Nat} (hv : v = .slice a m cap) (k : Nat) (hk : k ≤ n) :
    SlR S w size (.slice a k cap) k (cs.take (k * size)) := by
  have hle : k * size ≤ n * size := Nat.mul_le_mul_right _ hk
  refine ⟨by rw [List.length_take, h.1]; omega, ?_⟩
  rcases h.2 with ⟨h1, h2⟩ | ⟨ad, cap', h1, hc, hg, hj⟩
  · rw [h1] at hv; injection hv with e1 e2 e3
    subst e1; subst e3
    have : k = 0 := by omega
    subst this
    exact .inl ⟨rfl, rfl⟩
  · rw [h1] at hv; injection hv with e1 e2 e3
    subst e1; subst e3
    refine .inr ⟨ad, cap', rfl, by omega, fun h => hg (by omega), fun j hj' => ?_⟩
    rw [hj j (by omega), List.getElem?_take_of_lt hj']
theorem SlR.from (h : SlR S w size v n cs) {a : Option Addr} {m cap : Nat} (hv : v = .slice a m cap) (k : Nat) (hk : k ≤ n) :
    SlR S w size (sliced a k n cap size) (n - k) (cs.drop (k * size)) := by
  have hle : k * size ≤ n * size := Nat.mul_le_mul_right _ hk
  refine ⟨by rw [List.length_drop, h.1, Nat.sub_mul], ?_⟩
  rcases h.2 with ⟨h1, h2⟩ | ⟨ad, cap', h1, hc, hg, hj⟩
  · rw [h1] at hv; injection hv with e1 e2 e3
    subst e1; subst e3
    have : k = 0 := by omega
    subst this
    subst h2
    exact .inl ⟨by simp [sliced], rfl⟩
  · rw [h1] at hv; injection hv with e1 e2 e3
    subst e1; subst e3
    by_cases he : cap' = k
    · have hn : n = k := by omega
      refine .inr ⟨ad, cap' - k, by simp [sliced, he], by omega, fun h => by omega, fun j hj' => ?_⟩
      simp [hn] at hj'
    · refine .inr ⟨ad.add (k * size), cap' - k, ?_, by omega, fun h => ?_, fun j hj' => ?_⟩
      · simp only [sliced, if_neg he, Option.map_some]
      · obtain ⟨h1, h2⟩ := hg (by omega)
        unfold Addr.add
        split
        · exact ⟨h1, h2⟩
        · exact ⟨rfl, h2⟩
      · have e1 : (ad.add (k * size)).block = ad.block := by unfold Addr.add; split <;> rfl
        have e2 : (ad.add (k * size)).off = ad.off + k * size := by
          unfold Addr.add; split
          · rename_i h0; simp [h0]
          · rfl
        rw [e1, e2, List.getElem?_drop, Nat.add_assoc]
        exact hj _ (by rw [Nat.sub_mul] at hj'; omega)
theorem SlR.cellAt (h : SlR S w size v n cs) {g off cap m : Nat} (hv : v = .slice (some ⟨g, off, none⟩) m cap) {j : Nat} (hj : j < n * size) : w.cell? ⟨g, off + j, none⟩ = cs[j]? := by
  rcases h.2 with ⟨h1, h2⟩ | ⟨ad, cap', h1, hc, hg, hj'⟩
  · rw [h2] at hj; simp at hj
  · rw [h1] at hv; injection hv with e1 e2 e3
    injection e1 with e1
    subst e1
    exact hj' j hj
theorem SlR.le_cap (h : SlR S w size v n cs) {a : Option Addr} {m cap : Nat} (hv : v = .slice a m cap) : n ≤ cap := by
  rcases h.2 with ⟨h1, h2⟩ | ⟨ad, cap', h1, hc, _⟩
  · rw [h1] at hv; injection hv with e1 e2 e3; omega
  · rw [h1] at hv; injection hv with e1 e2 e3; omega
end

section
variable {P : Program} (w : World)
theorem append_block (base : Nat) (t ty e : TypeId) (i : TypeInfo) (z : Value) (size bytes : Nat) (ht : P.underlying t = some (.slice e)) (hi : P.info? e = some i) (hz : i.zero = some z)
    (hsize : i.size = size) (hby : i.bytes = bytes) 
    (v : Value) (n : Nat) (xs : List Value) (hown : w.ownsRow base e size v n xs)
    (a : Addr) (m c : Nat) (news : List Value) (hl : news.length = m * size) (hnews : ∀ j u, news[j]? = some u → w.cell? (a.add j) = some u) (h1 : ∀ u ∈ news, u.oneCell' = true)
    (h63 : n + m ≤ maxLen) (hbytes : (n + m) * bytes ≤ 140737488355328) {v' : Value} {w' : World}
    (hr : (Builtin.append_ #[t, t] ty #[v, .slice (some a) m c]).run P w = .ok v' w') : v'.ownBlock = v.ownBlock ∨ v'.ownBlock = some w.heap.size := by
  subst hsize
  subst hby
  have hsmall : n + m ≤ 9223372036854775807 := by simp only [maxLen] at h63; omega
  rcases hown.2 with ⟨rfl, rfl⟩ | ⟨g, cap, cur, rfl, hbg, hg, hnc, hcm, hcs, htake⟩
  · by_cases hm : m = 0
    · subst hm
      simp [Builtin.append_, run_underlying ht, sizeOf, typeInfo, hi, Builtin.lenOf, Builtin.firstCells, loadCells, loadCellsFrom] at hr
      left; rw [← hr.1]
    · rw [run_append_nil (P := P) w t ty e i z ht hi hz a m c news hl hnews (by omega) (by omega) (by simp only [Nat.zero_add] at hbytes; omega)] at hr
      injection hr with h2 h3
      right; rw [← h2]; rfl
  · by_cases hroom : n + m ≤ cap
    · have hfit : n * i.size + news.length ≤ cur.size := by rw [hl, hcs, ← Nat.add_mul]; exact Nat.mul_le_mul_right _ hroom
      rw [run_append_room (P := P) w t ty e i ht hi g n cap cur hg a m c news hl hnews h1 hroom hfit] at hr
      injection hr with h2 h3
      left; rw [← h2]; rfl
    · have holds : ∀ j u, xs[j]? = some u → w.cell? ((⟨g, 0, none⟩ : Addr).add j) = some u := hown.cells (g := g) rfl
      rw [run_append_grow (P := P) w t ty e i z ht hi hz ⟨g, 0, none⟩ n cap xs hown.1 holds a m c news hl hnews (by omega) (by omega) (growslice_fits (by omega) hbytes)] at hr
      injection hr with h2 h3
      right; rw [← h2]; rfl

structure Grew (base e size : Nat) (v : Value) (n : Nat) (xs : List Value) (w w' : World) (v' : Value) : Prop where
  own : w'.ownsRow base e size v' n xs
  grown : w.grownBy w' v.ownBlock
  where_ : v'.ownBlock = v.ownBlock ∨ v'.ownBlock = some w.heap.size

theorem Grew.upd {base e size : Nat} {v : Value} {n : Nat} {xs : List Value} {w w' : World} {v' : Value} (h : Grew base e size v n xs w w' v') :
    Upd (fun k => v.ownBlock = some k) w w' := (Upd.of_grown h.grown).mono fun k _ e => e.symm

theorem step_append_at {o : Oper} {a : Act} {K : Act → World → Prop} {Q : Exit → Act → World → Prop} (s x : Operand) (t : TypeId)
    (ho : o.op = .call { callee := .builtin .append, args := #[s, x], argTypes := #[t, t] })
    (base : Nat) (e : TypeId) (i : TypeInfo) (z : Value) (size bytes : Nat) (ht : P.underlying t = some (.slice e)) (hi : P.info? e = some i) (hz : i.zero = some z)
    (hsize : i.size = size) (hby : i.bytes = bytes) (hzs : z.cells.size = size) (hsz : 0 < size)
    (v : Value) (n : Nat) (xs : List Value) (hs : a.eval s = v) (hown : w.ownsRow base e size v n xs)
    (ad : Addr) (m c : Nat) (news : List Value) (hx : a.eval x = .slice (some ad) m c) (hl : news.length = m * size) (hnews : ∀ j u, news[j]? = some u → w.cell? (ad.add j) = some u) (h1 : ∀ u ∈ news, u.oneCell' = true)
    (h63 : n + m ≤ maxLen) (hbytes : (n + m) * bytes ≤ 140737488355328) (hbase : base ≤ w.heap.size)
    (h : ∀ v' w', Grew base e size v (n + m) (xs ++ news) w w' v' → K (a.put o.dst v') w') : o.wp P a w K Q := by
  obtain ⟨v', w', hr, h2, h3, h4⟩ := run_append_own (P := P) w base t o.type e i z size bytes ht hi hz hsize hby hzs hsz v n xs hown ad m c news hl hnews h1 h63 hbytes hbase
  have h5 := append_block (P := P) w base t o.type e i z size bytes ht hi hz hsize hby v n xs hown ad m c news hl hnews h1 h63 hbytes hr
  unfold Oper.wp execOp
  simp only [ho, resolve, invoke, builtin, Sem.run_bind, Sem.run_pure, Result.andThen_ok, List.map_toArray, List.map_cons, List.map_nil, hs, hx, hr]
  exact h v' w' ⟨h2, h3, h5⟩

theorem wpList_append_at {ops : Array Oper} {rest : List Oper} {o : Oper} {a : Act} {Q : Exit → Act → World → Prop} (hgd : o.guard = none) (s x : Operand) (t : TypeId)
    (ho : o.op = .call { callee := .builtin .append, args := #[s, x], argTypes := #[t, t] })
    (base : Nat) (e : TypeId) (i : TypeInfo) (z : Value) (size bytes : Nat) (ht : P.underlying t = some (.slice e)) (hi : P.info? e = some i) (hz : i.zero = some z)
    (hsize : i.size = size) (hby : i.bytes = bytes) (hzs : z.cells.size = size) (hsz : 0 < size)
    (v : Value) (n : Nat) (xs : List Value) (hs : a.eval s = v) (hown : w.ownsRow base e size v n xs)
    (ad : Addr) (m c : Nat) (news : List Value) (hx : a.eval x = .slice (some ad) m c) (hl : news.length = m * size) (hnews : ∀ j u, news[j]? = some u → w.cell? (ad.add j) = some u) (h1 : ∀ u ∈ news, u.oneCell' = true)
    (h63 : n + m ≤ maxLen) (hbytes : (n + m) * bytes ≤ 140737488355328) (hbase : base ≤ w.heap.size)
    (h : ∀ v' w', Grew base e size v (n + m) (xs ++ news) w w' v' → wpList P ops Q rest (a.put o.dst v') w') : wpList P ops Q (o :: rest) a w := by
  obtain ⟨v', w', hr, h2, h3, h4⟩ := run_append_own (P := P) w base t o.type e i z size bytes ht hi hz hsize hby hzs hsz v n xs hown ad m c news hl hnews h1 h63 hbytes hbase
  have h5 := append_block (P := P) w base t o.type e i z size bytes ht hi hz hsize hby v n xs hown ad m c news hl hnews h1 h63 hbytes hr
  refine wpList_plain hgd fun _ hK => ?_
  unfold Oper.wp execOp
  simp only [ho, resolve, invoke, builtin, Sem.run_bind, Sem.run_pure, Result.andThen_ok, List.map_toArray, List.map_cons, List.map_nil, hs, hx, hr]
  exact hK _ _ (h v' w' ⟨h2, h3, h5⟩)

end
end Go.Hw

/- Terms: pure. -/
namespace Go.Hw
set_option linter.unusedVariables false
set_option linter.unusedSimpArgs false
abbrev By := ByteArray
def nul : By := ⟨#[]⟩
inductive Tm where
  | mk (name sort : By) (L : List Tm)
namespace Tm
def name : Tm → By | .mk n _ _ => n
def sort : Tm → By | .mk _ s _ => s
def kids : Tm → List Tm | .mk _ _ l => l
instance : Inhabited Tm := ⟨.mk nul nul []⟩
theorem ind {P : Tm → Prop} (h : ∀ n s L, (∀ x ∈ L, P x) → P (.mk n s L)) : ∀ t, P t := by
  intro t
  refine Tm.rec (motive_1 := P) (motive_2 := fun L => ∀ x ∈ L, P x) (fun n s L ih => h n s L ih) (fun x hx => by cases hx) (fun a L ha hL x hx => ?_) t
  rcases List.mem_cons.1 hx with e | hx
  · rw [e]; exact ha
  · exact hL x hx
mutual
def size : Tm → Nat
  | .mk _ _ L => sizes L + 1
def sizes : List Tm → Nat
  | [] => 0
  | t :: L => size t + sizes L
end
mutual
def depth : Tm → Nat
  | .mk _ _ L => depths L + 1
def depths : List Tm → Nat
  | [] => 0
  | t :: L => max (depth t) (depths L)
end
mutual
def beq : Tm → Tm → Bool
  | .mk n s L, .mk m r M => decide (n = m) && (decide (s = r) && beqs L M)
def beqs : List Tm → List Tm → Bool
  | [], [] => true
  | t :: L, u :: M => beq t u && beqs L M
  | _, _ => false
end
theorem beq_eq : ∀ t u : Tm, beq t u = true ↔ t = u := by
  refine ind (fun n s L ih u => ?_)
  obtain ⟨m, r, M⟩ := u
  unfold beq
  have hL : ∀ (L : List Tm), (∀ x ∈ L, ∀ u, beq x u = true ↔ x = u) → ∀ M, beqs L M = true ↔ L = M := by
    intro L
    induction L with
    | nil => intro _ M; cases M <;> simp [beqs]
    | cons a L ihL =>
      intro h M
      cases M with
      | nil => simp [beqs]
      | cons b M =>
        unfold beqs
        rw [Bool.and_eq_true, h a (List.mem_cons_self ..), ihL (fun x hx => h x (List.mem_cons_of_mem _ hx)), List.cons.injEq]
  rw [Bool.and_eq_true, Bool.and_eq_true, decide_eq_true_eq, decide_eq_true_eq, hL L ih M, Tm.mk.injEq]
instance : DecidableEq Tm := fun t u => decidable_of_iff _ (beq_eq t u)
theorem size_pos (t : Tm) : 0 < t.size := by cases t; simp [size]
theorem size_mem {x : Tm} : ∀ {L : List Tm}, x ∈ L → x.size ≤ sizes L
  | a :: L, h => by
    rcases List.mem_cons.1 h with e | h
    · rw [e]; simp [sizes]
    · have := size_mem h; simp [sizes]; omega
theorem size_kid {t x : Tm} (h : x ∈ t.kids) : x.size < t.size := by
  obtain ⟨n, s, L⟩ := t
  have := size_mem (L := L) h
  simp [size]
  omega
theorem size_eq (t : Tm) : t.size = sizes t.kids + 1 := by cases t; rfl
theorem depth_eq (t : Tm) : t.depth = depths t.kids + 1 := by cases t; rfl
theorem sizes_append (L M : List Tm) : sizes (L ++ M) = sizes L + sizes M := by
  induction L with
  | nil => simp [sizes]
  | cons a L ih => simp [sizes, ih]; omega
theorem length_le_sizes : ∀ L : List Tm, L.length ≤ sizes L
  | [] => Nat.le_refl _
  | a :: L => by have := length_le_sizes L; have := size_pos a; simp [sizes]; omega
end Tm
open Tm
/- the nodes in preorder, with their depths -/
mutual
def nodesD : Nat → Tm → List (Tm × Nat)
  | d, .mk n s L => (.mk n s L, d) :: nodesDs (d + 1) L
def nodesDs : Nat → List Tm → List (Tm × Nat)
  | _, [] => []
  | d, t :: L => nodesD d t ++ nodesDs d L
end
theorem nodesD_eq (d : Nat) (t : Tm) : nodesD d t = (t, d) :: nodesDs (d + 1) t.kids := by cases t; rfl
theorem nodesDs_append (d : Nat) (L M : List Tm) : nodesDs d (L ++ M) = nodesDs d L ++ nodesDs d M := by
  induction L with
  | nil => simp [nodesDs]
  | cons a L ih => simp [nodesDs, ih]
theorem nodesDs_flat (d : Nat) (L : List Tm) : nodesDs d L = L.flatMap (nodesD d) := by
  induction L with
  | nil => rfl
  | cons a L ih => simp [nodesDs, ih]
theorem nodesD_len : ∀ (t : Tm) (d : Nat), (nodesD d t).length = t.size := by
  refine ind (fun n s L ih d => ?_)
  rw [nodesD_eq]
  have : ∀ (L : List Tm) (d : Nat), (∀ x ∈ L, ∀ d, (nodesD d x).length = x.size) → (nodesDs d L).length = sizes L := by
    intro L
    induction L with
    | nil => intro d _; rfl
    | cons a L ihL =>
      intro d h
      simp only [nodesDs, List.length_append, sizes]
      rw [h a (List.mem_cons_self ..), ihL d (fun x hx => h x (List.mem_cons_of_mem _ hx))]
  simp only [kids, List.length_cons, Tm.size]
  rw [this L (d + 1) ih]
theorem nodesDs_len (L : List Tm) (d : Nat) : (nodesDs d L).length = sizes L := by
  induction L with
  | nil => rfl
  | cons a L ih => simp only [nodesDs, List.length_append, sizes, nodesD_len, ih]
def sbts (t : Tm) : List Tm := (nodesD 0 t).map (·.1)
theorem nodesD_fst (t : Tm) : ∀ d e : Nat, (nodesD d t).map (·.1) = (nodesD e t).map (·.1) := by
  refine ind (P := fun t => ∀ d e : Nat, (nodesD d t).map (·.1) = (nodesD e t).map (·.1)) (fun n s L ih d e => ?_) t
  rw [nodesD_eq, nodesD_eq, nodesDs_flat, nodesDs_flat]
  simp only [kids, List.map_cons, List.map_flatMap]
  congr 1
  induction L with
  | nil => rfl
  | cons a L ihL =>
    simp only [List.flatMap_cons]
    rw [ih a (List.mem_cons_self ..) (d + 1) (e + 1), ihL (fun x hx => ih x (List.mem_cons_of_mem _ hx))]
theorem sbts_eq (t : Tm) : sbts t = t :: t.kids.flatMap sbts := by
  unfold sbts
  rw [nodesD_eq, nodesDs_flat]
  simp only [List.map_cons, List.map_flatMap]
  congr 1
  have : ∀ L : List Tm, (L.flatMap fun a => (nodesD (0 + 1) a).map (·.1)) = L.flatMap fun t => (nodesD 0 t).map (·.1) := by
    intro L
    induction L with
    | nil => rfl
    | cons a L ih => simp only [List.flatMap_cons]; rw [ih, nodesD_fst a (0 + 1) 0]
  exact this _
theorem mem_sbts_self (t : Tm) : t ∈ sbts t := by rw [sbts_eq]; exact List.mem_cons_self ..
theorem mem_sbts_kid {t x y : Tm} (h : x ∈ t.kids) (hy : y ∈ sbts x) : y ∈ sbts t := by
  rw [sbts_eq]
  exact List.mem_cons_of_mem _ (List.mem_flatMap.2 ⟨x, h, hy⟩)
end Go.Hw

/- Terms in memory. -/
namespace Go.Hw
open Go.RowKit Tm
set_option linter.unusedVariables false
set_option linter.unusedSimpArgs false
abbrev nilS : Value := .slice none 0 0
def tCells : List Tm → List Value → List Value
  | [], _ => []
  | t :: L, us => .string t.name :: .string t.sort :: us.headD nilS :: tCells L us.tail
abbrev tg (L : List Tm) (i : Nat) : Tm := L.getD i default
abbrev ug (us : List Value) (i : Nat) : Value := us.getD i nilS
theorem tCells_len : ∀ (L : List Tm) (us : List Value), (tCells L us).length = L.length * 3
  | [], _ => rfl
  | t :: L, us => by simp [tCells, tCells_len L us.tail]; omega
theorem tCells_at : ∀ (L : List Tm) (us : List Value) (i : Nat), i < L.length →
    (tCells L us)[i * 3]? = some (.string (tg L i).name) ∧ (tCells L us)[i * 3 + 1]? = some (.string (tg L i).sort) ∧ (tCells L us)[i * 3 + 2]? = some (ug us i)
  | t :: L, us, 0, _ => by
    refine ⟨rfl, rfl, ?_⟩
    cases us <;> rfl
  | t :: L, us, i + 1, h => by
    obtain ⟨h0, h1, h2⟩ := tCells_at L us.tail i (by simpa using h)
    have e : ∀ k, (tCells (t :: L) us)[(i + 1) * 3 + k]? = (tCells L us.tail)[i * 3 + k]? := fun k => by
      rw [show (i + 1) * 3 + k = i * 3 + k + 1 + 1 + 1 by omega]
      rfl
    refine ⟨by rw [← Nat.add_zero ((i + 1) * 3), e]; exact h0, by rw [e]; exact h1, ?_⟩
    rw [e, h2]
    cases us <;> rfl
theorem tCells_snoc : ∀ (L : List Tm) (us : List Value) (t : Tm) (u : Value), us.length = L.length → tCells (L ++ [t]) (us ++ [u]) = tCells L us ++ [.string t.name, .string t.sort, u]
  | [], [], t, u, _ => rfl
  | a :: L, b :: us, t, u, h => by
    have := tCells_snoc L us t u (by simpa using h)
    simp only [List.cons_append, tCells, List.headD_cons, List.tail_cons, this]
inductive TlR (S : Nat → Prop) (w : World) : List Tm → Value → Prop
  | mk (L : List Tm) (us : List Value) (v : Value) (hl : us.length = L.length) (h : SlR S w 3 v L.length (tCells L us)) (hk : ∀ i, i < L.length → TlR S w (tg L i).kids (ug us i)) : TlR S w L v
theorem TlR.nil (S : Nat → Prop) (w : World) : TlR S w [] nilS := ⟨[], [], nilS, rfl, SlR.nil _ _ _, fun i h => by cases h⟩
theorem TlR.shape {S : Nat → Prop} {w : World} {L : List Tm} {v : Value} (h : TlR S w L v) : ∃ a cap, v = .slice a L.length cap := by
  cases h with
  | mk _ us _ hl h hk => exact h.shape
theorem TlR.kept {S F : Nat → Prop} {w w' : World} {L : List Tm} {v : Value} (h : TlR S w L v) (hu : Upd F w w') (hF : ∀ k, S k → ¬ F k) : TlR S w' L v := by
  induction h with
  | mk L us v hl h hk ih => exact ⟨L, us, v, hl, h.kept hu hF, ih⟩
theorem TlR.ext {S : Nat → Prop} {w w' : World} {L : List Tm} {v : Value} (h : TlR S w L v) (hu : Ext w w') : TlR S w' L v := h.kept hu (fun _ _ h => h)
theorem TlR.weaken {S T : Nat → Prop} {w : World} {L : List Tm} {v : Value} (h : TlR S w L v) (hs : ∀ k, S k → T k) : TlR T w L v := by
  induction h with
  | mk L us v hl h hk ih => exact ⟨L, us, v, hl, h.weaken hs, ih⟩
theorem TlR.le_cap {S : Nat → Prop} {w : World} {L : List Tm} {a : Option Addr} {n cap : Nat} (h : TlR S w L (.slice a n cap)) : n = L.length ∧ n ≤ cap := by
  cases h with
  | mk _ us _ hl h hk =>
    obtain ⟨a', c', e⟩ := h.shape
    injection e with e1 e2 e3
    exact ⟨e2, by rw [e2]; exact h.le_cap (by rw [e1, e2])⟩
theorem TlR.at_ {S : Nat → Prop} {w : World} {L : List Tm} {a : Option Addr} {n cap : Nat} (h : TlR S w L (.slice a n cap)) (hL : 0 < L.length) :
    ∃ g off, a = some ⟨g, off, none⟩ ∧ S g ∧ ∀ i, i < L.length → ∃ a' cap', w.cell? ⟨g, off + i * 3, none⟩ = some (.string (tg L i).name) ∧ w.cell? ⟨g, off + (i * 3 + 1), none⟩ = some (.string (tg L i).sort) ∧
      w.cell? ⟨g, off + (i * 3 + 2), none⟩ = some (.slice a' (tg L i).kids.length cap') ∧ TlR S w (tg L i).kids (.slice a' (tg L i).kids.length cap') := by
  cases h with
  | mk _ us _ hl h hk =>
    obtain ⟨g, off, cap', e, hc, hS, hj⟩ := h.pos hL
    injection e with e1 e2 e3
    refine ⟨g, off, e1, hS, fun i hi => ?_⟩
    obtain ⟨h0, h1, h2⟩ := tCells_at L us i hi
    obtain ⟨a', cap', e'⟩ := (hk i hi).shape
    have hk' := hk i hi
    rw [e'] at hk' h2
    exact ⟨a', cap', by rw [hj _ (by omega), h0], by rw [hj _ (by omega), h1], by rw [hj _ (by omega), h2], hk'⟩
abbrev tV (t : Tm) (u : Value) : Value := .agg #[.string t.name, .string t.sort, u]
def TmR (S : Nat → Prop) (w : World) (t : Tm) (v : Value) : Prop := ∃ a cap, v = tV t (.slice a t.kids.length cap) ∧ TlR S w t.kids (.slice a t.kids.length cap)
theorem TmR.kept {S F : Nat → Prop} {w w' : World} {t : Tm} {v : Value} (h : TmR S w t v) (hu : Upd F w w') (hF : ∀ k, S k → ¬ F k) : TmR S w' t v := by
  obtain ⟨a, cap, e, h⟩ := h
  exact ⟨a, cap, e, h.kept hu hF⟩
theorem TmR.ext {S : Nat → Prop} {w w' : World} {t : Tm} {v : Value} (h : TmR S w t v) (hu : Ext w w') : TmR S w' t v := h.kept hu (fun _ _ h => h)
theorem TmR.weaken {S T : Nat → Prop} {w : World} {t : Tm} {v : Value} (h : TmR S w t v) (hs : ∀ k, S k → T k) : TmR T w t v := by
  obtain ⟨a, cap, e, h⟩ := h
  exact ⟨a, cap, e, h.weaken hs⟩
theorem TmR.of {S : Nat → Prop} {w : World} {t : Tm} {u : Value} (h : TlR S w t.kids u) : TmR S w t (tV t u) := by
  obtain ⟨a, cap, e⟩ := h.shape
  exact ⟨a, cap, by rw [e], e ▸ h⟩
end Go.Hw

/- Well-formed terms: pure. nm: which strings are names. -/
namespace Go.Hw
open Tm
set_option linter.unusedVariables false
set_option linter.unusedSimpArgs false
section
variable (nm : By → Bool)
def okN (p : Tm × Nat) : Bool := decide (p.2 ≤ 60) && (nm p.1.name && (decide (p.1.kids.length ≤ 6) && (decide (p.1.sort = nul) || (nm p.1.sort && decide (p.1.kids.length = 0)))))
def formedL (l : List (Tm × Nat)) : Bool := decide (l.length ≤ 1000) && l.all (okN nm)
def formed (t : Tm) : Bool := formedL nm (nodesD 1 t)
theorem formed_iff (t : Tm) : formed nm t = true ↔ t.size ≤ 1000 ∧ ∀ p ∈ nodesD 1 t, okN nm p = true := by
  unfold formed formedL
  rw [Bool.and_eq_true, decide_eq_true_eq, nodesD_len, List.all_eq_true]
end
end Go.Hw

/- Variables and their sorts: pure. -/
namespace Go.Hw
open Tm
set_option linter.unusedVariables false
set_option linter.unusedSimpArgs false
def blt (a b : By) : Bool := decide (a.data.toList < b.data.toList)
theorem by_ext {a b : By} (h : a.data.toList = b.data.toList) : a = b := by
  cases a; cases b
  simp only [ByteArray.mk.injEq]
  exact Array.toList_inj.1 h
theorem blt_irrefl (a : By) : blt a a = false := by unfold blt; simp
theorem blt_trans {a b c : By} (h1 : blt a b = true) (h2 : blt b c = true) : blt a c = true := by
  unfold blt at *
  rw [decide_eq_true_eq] at *
  exact List.lt_trans h1 h2
theorem blt_tri (a b : By) (h : a ≠ b) : blt a b = true ∨ blt b a = true := by
  unfold blt
  rw [decide_eq_true_eq, decide_eq_true_eq]
  by_cases h1 : a.data.toList < b.data.toList
  · exact .inl h1
  · refine .inr ?_
    have h2 := List.not_lt.1 h1
    rcases List.le_iff_lt_or_eq.1 h2 with h3 | h3
    · exact h3
    · exact absurd (by_ext h3.symm) h
theorem blt_asymm {a b : By} (h : blt a b = true) : blt b a = false := by
  rw [Bool.eq_false_iff]
  intro h2
  have := blt_trans h h2
  rw [blt_irrefl] at this
  cases this
abbrev Vd := By × By
def fget (m : List Vd) (n : By) : Option By := (m.find? fun p => decide (p.1 = n)).map (·.2)
theorem fget_cons (p : Vd) (m : List Vd) (n : By) : fget (p :: m) n = if p.1 = n then some p.2 else fget m n := by
  unfold fget
  rw [List.find?_cons]
  by_cases h : p.1 = n
  · rw [if_pos h, decide_eq_true h]; rfl
  · rw [if_neg h, decide_eq_false h]
def vl (l : List Tm) : List Vd := l.filterMap fun x => if x.sort = nul then none else some (x.name, x.sort)
theorem vl_append (l m : List Tm) : vl (l ++ m) = vl l ++ vl m := List.filterMap_append
def sFold : List Vd → List Vd → Option (List Vd)
  | m, [] => some m
  | m, f :: fs => match fget m f.1 with
    | none => sFold (m ++ [f]) fs
    | some s => if s = f.2 then sFold m fs else none
theorem sFold_append (fs gs : List Vd) : ∀ m, sFold m (fs ++ gs) = (sFold m fs).bind fun m' => sFold m' gs := by
  induction fs with
  | nil => intro m; rfl
  | cons f fs ih =>
    intro m
    simp only [List.cons_append, sFold]
    cases fget m f.1 with
    | none => exact ih _
    | some s =>
      simp only
      split
      · exact ih _
      · rfl
def sortsT (t : Tm) : Option (List Vd) := sFold [] (vl (sbts t))
def wf (nm : By → Bool) (t : Tm) : Bool := formed nm t && (sortsT t).isSome
end Go.Hw

/- The order of terms: pure. -/
namespace Go.Hw
open Tm
set_option linter.unusedVariables false
set_option linter.unusedSimpArgs false
def bcmp (a b : By) : Int := if blt a b = true then -1 else if blt b a = true then 1 else 0
theorem bcmp_zero (a b : By) : bcmp a b = 0 ↔ a = b := by
  unfold bcmp
  constructor
  · intro h
    by_cases e : a = b
    · exact e
    · rcases blt_tri a b e with h1 | h1
      · rw [if_pos h1] at h; omega
      · rw [if_neg (by rw [blt_asymm h1]; decide), if_pos h1] at h; omega
  · intro h
    rw [h, blt_irrefl]
    rfl
mutual
def cmpT : Tm → Tm → Int
  | .mk n s L, .mk m r M => if decide (s ≠ nul) ≠ decide (r ≠ nul) then (if s ≠ nul then -1 else 1) else if bcmp n m ≠ 0 then bcmp n m else if bcmp s r ≠ 0 then bcmp s r else if L.length ≠ M.length then (if L.length < M.length then -1 else 1) else cmps L M
def cmps : List Tm → List Tm → Int
  | a :: L, b :: M => if cmpT a b ≠ 0 then cmpT a b else cmps L M
  | _, _ => 0
end
theorem cmpT_zero : ∀ a b : Tm, cmpT a b = 0 ↔ a = b := by
  refine ind (fun n s L ih b => ?_)
  obtain ⟨m, r, M⟩ := b
  have hL : ∀ (L M : List Tm), (∀ x ∈ L, ∀ y, cmpT x y = 0 ↔ x = y) → L.length = M.length → (cmps L M = 0 ↔ L = M) := by
    intro L
    induction L with
    | nil => intro M _ h; cases M with
      | nil => simp [cmps]
      | cons b M => simp at h
    | cons a L ihL =>
      intro M h hl
      cases M with
      | nil => simp at hl
      | cons b M =>
        unfold cmps
        have h1 := h a (List.mem_cons_self ..) b
        by_cases hz : cmpT a b = 0
        · rw [if_neg (by simp [hz]), ihL M (fun x hx => h x (List.mem_cons_of_mem _ hx)) (by simpa using hl), h1.1 hz]
          simp
        · rw [if_pos hz]
          constructor
          · intro h2; exact absurd h2 hz
          · intro h2; injection h2 with h2 h3; exact absurd (h1.2 h2) hz
  unfold cmpT
  constructor
  · intro h
    by_cases h1 : decide (s ≠ nul) ≠ decide (r ≠ nul)
    · rw [if_pos h1] at h
      split at h <;> omega
    rw [if_neg h1] at h
    by_cases h2 : bcmp n m = 0
    · rw [if_neg (by simp [h2])] at h
      by_cases h3 : bcmp s r = 0
      · rw [if_neg (by simp [h3])] at h
        by_cases h4 : L.length = M.length
        · rw [if_neg (by simp [h4])] at h
          rw [(bcmp_zero n m).1 h2, (bcmp_zero s r).1 h3, (hL L M ih h4).1 h]
        · rw [if_pos h4] at h
          split at h <;> omega
      · rw [if_pos h3] at h; exact absurd h h3
    · rw [if_pos h2] at h; exact absurd h h2
  · intro h
    injection h with h1 h2 h3
    subst h1 h2 h3
    rw [if_neg (by simp), if_neg (by simp [(bcmp_zero n n).2 rfl]), if_neg (by simp [(bcmp_zero s s).2 rfl]), if_neg (by simp)]
    exact (hL L L ih rfl).2 rfl
theorem cmps_of : ∀ (L M : List Tm) (k : Nat), L.length = M.length → k < L.length → (∀ j, j < k → cmpT (L.getD j default) (M.getD j default) = 0) → cmpT (L.getD k default) (M.getD k default) ≠ 0 → cmps L M = cmpT (L.getD k default) (M.getD k default)
  | [], _, k, _, h, _, _ => by simp at h
  | a :: L, [], k, h, _, _, _ => by simp at h
  | a :: L, b :: M, 0, _, _, _, h => by
    unfold cmps
    exact if_pos h
  | a :: L, b :: M, k + 1, hl, hk, h1, h2 => by
    unfold cmps
    have h0 : cmpT a b = 0 := h1 0 (by omega)
    rw [if_neg (by simp [h0])]
    exact cmps_of L M k (by simpa using hl) (by simpa using hk) (fun j hj => h1 (j + 1) (by omega)) h2
theorem cmps_all : ∀ (L M : List Tm), L.length = M.length → (∀ j, j < L.length → cmpT (L.getD j default) (M.getD j default) = 0) → cmps L M = 0
  | [], [], _, _ => by simp [cmps]
  | [], b :: M, h, _ => by simp at h
  | a :: L, [], h, _ => by simp at h
  | a :: L, b :: M, hl, h1 => by
    unfold cmps
    have h0 : cmpT a b = 0 := h1 0 (by simp)
    rw [if_neg (by simp [h0])]
    exact cmps_all L M (by simpa using hl) (fun j hj => h1 (j + 1) (by simpa using hj))
theorem cmpT_eq (n s : By) (L : List Tm) (m r : By) (M : List Tm) : cmpT (.mk n s L) (.mk m r M) = if decide (s ≠ nul) ≠ decide (r ≠ nul) then (if s ≠ nul then -1 else 1) else if bcmp n m ≠ 0 then bcmp n m else if bcmp s r ≠ 0 then bcmp s r else if L.length ≠ M.length then (if L.length < M.length then -1 else 1) else cmps L M := by
  unfold cmpT
  rfl
end Go.Hw
