/- Small laws of the prover's own, over any program: what stays of memory, slices that are read, slices that grow. -/
import Derived.WalkKit
import Derived.WalkSpells
import Derived.Lib.Hide
import Derived.BigQuiet
import Derived.Deep.QuietTactic
import Derived.Deep.LoopGhost
import Derived.StillTailTactics
namespace Go.Hw
open Go.RowKit
set_option linter.unusedVariables false
set_option linter.unusedSimpArgs false

/-- Outside the blocks F the old memory is as it was. -/
structure Upd (F : Nat → Prop) (w w' : World) : Prop where
  os : w'.os = w.os
  tape : w'.tape = w.tape
  output : w'.output = w.output
  size : w.heap.size ≤ w'.heap.size
  block : ∀ k, k < w.heap.size → ¬ F k → w'.heap[k]? = w.heap[k]?

/-- no old block is changed -/
abbrev Ext (w w' : World) : Prop := Upd (fun _ => False) w w'

theorem Upd.refl (F : Nat → Prop) (w : World) : Upd F w w := ⟨rfl, rfl, rfl, Nat.le_refl _, fun _ _ _ => rfl⟩
theorem Upd.trans {F : Nat → Prop} {a b c : World} (h : Upd F a b) (k : Upd F b c) : Upd F a c :=
  ⟨k.os.trans h.os, k.tape.trans h.tape, k.output.trans h.output, Nat.le_trans h.size k.size,
   fun i hi hf => (k.block i (Nat.lt_of_lt_of_le hi h.size) hf).trans (h.block i hi hf)⟩
theorem Upd.mono {F G : Nat → Prop} {a b : World} (h : Upd F a b) (hFG : ∀ k, k < a.heap.size → F k → G k) : Upd G a b :=
  ⟨h.os, h.tape, h.output, h.size, fun i hi hf => h.block i hi (fun x => hf (hFG i hi x))⟩
theorem Upd.trans' {F G : Nat → Prop} {a b c : World} (h : Upd F a b) (k : Upd G b c) (hs : ∀ i, i < a.heap.size → G i → F i) : Upd F a c :=
  ⟨k.os.trans h.os, k.tape.trans h.tape, k.output.trans h.output, Nat.le_trans h.size k.size,
   fun i hi hf => (k.block i (Nat.lt_of_lt_of_le hi h.size) (fun g => hf (hs i hi g))).trans (h.block i hi hf)⟩
theorem Upd.ext {F : Nat → Prop} {a b c : World} (h : Upd F a b) (k : Ext b c) : Upd F a c := h.trans' k (fun _ _ x => x.elim)
theorem Upd.drew {F : Nat → Prop} {a w : World} (h : Upd F a w) : Upd F a w.drew := ⟨h.os, h.tape, h.output, h.size, h.block⟩
theorem Upd.ofDrewN {F : Nat → Prop} {w w' : World} {n : Nat} (h : Upd F (w.drewN n) w') : Upd F w w' := ⟨h.os, h.tape, h.output, h.size, h.block⟩
theorem Upd.ofDrew {F : Nat → Prop} {w w' : World} (h : Upd F w.drew w') : Upd F w w' := ⟨h.os, h.tape, h.output, h.size, h.block⟩
theorem Upd.drewN' {F : Nat → Prop} {a w : World} (h : Upd F a w) (n : Nat) : Upd F a (w.drewN n) := ⟨h.os, h.tape, h.output, h.size, h.block⟩
theorem Upd.alloc {F : Nat → Prop} {a w : World} (h : Upd F a w) (o : Obj) : Upd F a (w.alloc o) :=
  h.trans ⟨rfl, rfl, rfl, by simp, fun k hk _ => Below.heap_alloc _ _ _ hk⟩
theorem Upd.setCell {F : Nat → Prop} {a w : World} (h : Upd F a w) {p : Addr} (hp : F p.block ∨ a.heap.size ≤ p.block) (u : Value) : Upd F a (w.setCell p u) :=
  ⟨h.os, h.tape, h.output, by simpa [World.setCell] using h.size, fun k hk hf => by
    rw [Below.heap_setCell _ _ _ _ (by intro e; subst e; rcases hp with hp | hp; exact hf hp; omega)]; exact h.block k hk hf⟩
theorem Upd.of_grown {w w' : World} {row : Option Nat} (h : w.grownBy w' row) : Upd (fun k => some k = row) w w' :=
  ⟨h.os, h.tape, h.output, h.size, fun k hk hf => h.block k hk hf⟩
/-- behind an append to a row of the call's own -/
theorem Upd.grown {F : Nat → Prop} {a w w' : World} {row : Option Nat} (h : Upd F a w) (hg : w.grownBy w' row) (hr : ∀ k, row = some k → F k ∨ a.heap.size ≤ k) : Upd F a w' :=
  ⟨hg.os.trans h.os, hg.tape.trans h.tape, hg.output.trans h.output, Nat.le_trans h.size hg.size,
   fun i hi hf => (hg.block i (Nat.lt_of_lt_of_le hi h.size) (fun e => by rcases hr i e.symm with h | h; exact hf h; omega)).trans (h.block i hi hf)⟩
theorem Upd.cell {F : Nat → Prop} {w w' : World} (h : Upd F w w') {p : Addr} {v : Value} (hc : w.cell? p = some v) (hp : ¬ F p.block) : w'.cell? p = some v :=
  (World.cell?_of_block (w := w) (h.block p.block (World.block_lt_of_cell? w p hc) hp)).trans hc
theorem Upd.below {F : Nat → Prop} {W w w' : World} {B : Nat} (h : Upd F w w') (hW : Below B W w) (hB : B ≤ w.heap.size) (hF : ∀ k, F k → B ≤ k) : Below B W w' :=
  hW.trans ⟨h.os, h.tape, h.output, h.size, fun k hk => h.block k (by omega) (fun e => by have := hF k e; omega)⟩
theorem Ext.below {w w' : World} (h : Ext w w') : Below w.heap.size w w' := ⟨h.os, h.tape, h.output, h.size, fun k hk => h.block k hk (fun x => x)⟩
theorem Upd.heap {F : Nat → Prop} {w w' : World} (h : Upd F w w') {b : Nat} {o : Obj} (hb : w.heap[b]? = some o) (hF : ¬ F b) : w'.heap[b]? = some o :=
  (h.block b (Array.getElem?_eq_some_iff.1 hb).1 hF).trans hb

/-- a block that is known whole: its cells, its marks -/
theorem cellRow {w : World} {b : Nat} {cs : Array Value} {t : TypeId} (h : w.heap[b]? = some (.cells cs t (0, 0))) (i : Nat) (v : Value) (hv : cs[i]? = some v) : w.cell? ⟨b, i, none⟩ = some v := by
  rw [cell_of_row w b i cs t _ h, hv]
theorem frozenRow {w : World} {b : Nat} {cs : Array Value} {t : TypeId} (h : w.heap[b]? = some (.cells cs t (0, 0))) (i : Nat) : w.frozen? ⟨b, i, none⟩ = false := frozen_of_row w b i cs t h

/-- the walk stands still here -/
def Stop (p : Prop) : Prop := p
theorem Stop.go {p : Prop} (h : p) : Stop p := h
theorem stop_at {P : Program} {ops : Array Oper} {Q : Exit → Act → World → Prop} {rest : List Oper} {a : Act} {w : World} {o : Oper}
    (h : Stop (wpList P ops Q (o :: rest) a w)) : wpList P ops Q (o :: rest) a w := h

theorem alloc0 (w : World) (o : Obj) : (w.alloc o).heap[w.heap.size]? = some o := by
  show (w.heap.push o)[w.heap.size]? = some o
  simp
theorem alloc_at (w : World) (o : Obj) {n : Nat} (h : n = w.heap.size) : (w.alloc o).heap[n]? = some o := by subst h; exact alloc0 w o
theorem allocOld {w : World} {k : Nat} {x : Obj} (h : w.heap[k]? = some x) (o : Obj) : (w.alloc o).heap[k]? = some x := by
  rw [Below.heap_alloc _ _ _ (Array.getElem?_eq_some_iff.1 h).1]; exact h
theorem alloc_size (w : World) (o : Obj) : (w.alloc o).heap.size = w.heap.size + 1 := by simp

theorem quiet_same {P : Program} {f : FuncId} {args : Array Value} {w : World} {n : Nat} {v : Value}
    (h : Calls P f args (w.drewN n) fun e w' => e = .returned v ∧ w.drewN n = w') : Calls P f args (w.drewN n) fun e w'' => e = .returned v ∧ ∃ m, w'' = w.drewN m :=
  Calls.quiet_of_same (h.mono fun _ _ ⟨a, b⟩ => ⟨a, b.symm⟩)

/-! ### a slice that is only read: n elements of size cells each, its cells cs, its block among S -/
def SlR (S : Nat → Prop) (w : World) (size : Nat) (v : Value) (n : Nat) (cs : List Value) : Prop :=
  cs.length = n * size ∧
  ((v = .slice none 0 0 ∧ n = 0) ∨
   ∃ ad cap, v = .slice (some ad) n cap ∧ n ≤ cap ∧ (0 < n → ad.spot = none ∧ S ad.block) ∧ ∀ j, j < n * size → w.cell? ⟨ad.block, ad.off + j, none⟩ = cs[j]?)

section
variable {S T F : Nat → Prop} {w w' : World} {size : Nat} {v : Value} {n : Nat} {cs : List Value}
theorem SlR.nil (S : Nat → Prop) (w : World) (size : Nat) : SlR S w size (.slice none 0 0) 0 [] := ⟨by simp, .inl ⟨rfl, rfl⟩⟩
theorem SlR.mk' {g off cap : Nat} (hl : cs.length = n * size) (hv : v = .slice (some ⟨g, off, none⟩) n cap) (hc : n ≤ cap) (hS : 0 < n → S g) (hj : ∀ j, j < n * size → w.cell? ⟨g, off + j, none⟩ = cs[j]?) :
    SlR S w size v n cs := ⟨hl, .inr ⟨_, cap, hv, hc, fun h => ⟨rfl, hS h⟩, hj⟩⟩
theorem SlR.empty (S : Nat → Prop) (w : World) (size : Nat) (a : Addr) (cap : Nat) : SlR S w size (.slice (some a) 0 cap) 0 [] :=
  ⟨by simp, .inr ⟨a, cap, rfl, Nat.zero_le _, fun h => absurd h (Nat.lt_irrefl 0), fun j hj => by simp at hj⟩⟩
theorem SlR.weaken (h : SlR S w size v n cs) (hs : ∀ k, S k → T k) : SlR T w size v n cs := by
  refine ⟨h.1, ?_⟩
  rcases h.2 with h | ⟨ad, cap, hv, hc, hg, hj⟩
  · exact .inl h
  · exact .inr ⟨ad, cap, hv, hc, fun h => ⟨(hg h).1, hs _ (hg h).2⟩, hj⟩
theorem pos_of_lt {n j size : Nat} (h : j < n * size) : 0 < n := by
  cases n with
  | zero => simp at h
  | succ n => omega
theorem SlR.kept (h : SlR S w size v n cs) (hu : Upd F w w') (hF : ∀ k, S k → ¬ F k) : SlR S w' size v n cs := by
  refine ⟨h.1, ?_⟩
  rcases h.2 with h2 | ⟨ad, cap, hv, hc, hg, hj⟩
  · exact .inl h2
  · refine .inr ⟨ad, cap, hv, hc, hg, fun j hj' => ?_⟩
    have h1 := hj j hj'
    rw [List.getElem?_eq_getElem (by rw [h.1]; exact hj')] at h1 ⊢
    exact hu.cell h1 (hF _ (hg (pos_of_lt hj')).2)
theorem SlR.drewN (h : SlR S w size v n cs) (k : Nat) : SlR S (w.drewN k) size v n cs := h
theorem SlR.drew (h : SlR S w size v n cs) : SlR S w.drew size v n cs := h
theorem SlR.shape (h : SlR S w size v n cs) : ∃ a cap, v = .slice a n cap := by
  rcases h.2 with ⟨h1, h2⟩ | ⟨ad, cap, hv, _⟩
  · exact ⟨none, 0, by rw [h1, h2]⟩
  · exact ⟨_, _, hv⟩
theorem SlR.pos (h : SlR S w size v n cs) (hn : 0 < n) : ∃ g off cap, v = .slice (some ⟨g, off, none⟩) n cap ∧ n ≤ cap ∧ S g ∧ ∀ j, j < n * size → w.cell? ⟨g, off + j, none⟩ = cs[j]? := by
  rcases h.2 with ⟨h1, h2⟩ | ⟨ad, cap, hv, hc, hg, hj⟩
  · omega
  · obtain ⟨g, off, spot⟩ := ad
    obtain ⟨h1, h2⟩ := hg hn
    simp only at h1
    subst h1
    exact ⟨g, off, cap, hv, hc, h2, hj⟩
theorem SlR.of_own {base e : Nat} (h : w.ownsRow base e size v n cs) : SlR (fun k => v.ownBlock = Option.some k) w size v n cs := by
  refine ⟨h.1, ?_⟩
  rcases h.2 with h2 | ⟨g, cap, cur, rfl, hb, hg, hc, hm, hs, ht⟩
  · exact .inl h2
  · refine .inr ⟨⟨g, 0, Option.none⟩, cap, rfl, hc, fun _ => ⟨rfl, rfl⟩, fun j hj => ?_⟩
    rw [Nat.zero_add]; exact World.ownsRow.cellAt h j hj
theorem own_kept {base e : Nat} (h : w.ownsRow base e size v n cs) (hu : Upd F w w') (hF : ∀ k, v.ownBlock = Option.some k → ¬ F k) : w'.ownsRow base e size v n cs := by
  refine ⟨h.1, ?_⟩
  rcases h.2 with h2 | ⟨g, cap, cur, rfl, hb, hg, rest⟩
  · exact .inl h2
  · exact .inr ⟨g, cap, cur, rfl, hb, hu.heap hg (hF g rfl), rest⟩
theorem own_some {base e : Nat} (h : w.ownsRow base e size v n cs) (hn : 0 < n) :
    ∃ g cap, v = .slice (some ⟨g, 0, none⟩) n cap := by
  rcases h.2 with ⟨_, h2⟩ | ⟨g, cap, cur, hv, _⟩
  · omega
  · exact ⟨g, cap, hv⟩
theorem own_shape {base e : Nat} (h : w.ownsRow base e size v n cs) : ∃ a cap, v = .slice a n cap := (SlR.of_own h).shape
/-- v[:k] -/
theorem SlR.to (h : SlR S w size v n cs) {a : Option Addr} {m cap : Nat} (hv : v = .slice a m cap) (k : Nat) (hk : k ≤ n) :
    SlR S w size (.slice a k cap) k (cs.take (k * size)) := by
  have hle : k * size ≤ n * size := Nat.mul_le_mul_right _ hk
  refine ⟨by rw [List.length_take, h.1]; omega, ?_⟩
  rcases h.2 with ⟨h1, h2⟩ | ⟨ad, cap', h1, hc, hg, hj⟩
  · rw [h1] at hv; injection hv with e1 e2 e3
    subst e1; subst e3
    have : k = 0 := by omega
    subst this
    exact .inl ⟨rfl, rfl⟩
  · rw [h1] at hv; injection hv with e1 e2 e3
    subst e1; subst e3
    refine .inr ⟨ad, cap', rfl, by omega, fun h => hg (by omega), fun j hj' => ?_⟩
    rw [hj j (by omega), List.getElem?_take_of_lt hj']
/-- v[k:] -/
theorem SlR.from (h : SlR S w size v n cs) {a : Option Addr} {m cap : Nat} (hv : v = .slice a m cap) (k : Nat) (hk : k ≤ n) :
    SlR S w size (sliced a k n cap size) (n - k) (cs.drop (k * size)) := by
  have hle : k * size ≤ n * size := Nat.mul_le_mul_right _ hk
  refine ⟨by rw [List.length_drop, h.1, Nat.sub_mul], ?_⟩
  rcases h.2 with ⟨h1, h2⟩ | ⟨ad, cap', h1, hc, hg, hj⟩
  · rw [h1] at hv; injection hv with e1 e2 e3
    subst e1; subst e3
    have : k = 0 := by omega
    subst this
    subst h2
    exact .inl ⟨by simp [sliced], rfl⟩
  · rw [h1] at hv; injection hv with e1 e2 e3
    subst e1; subst e3
    by_cases he : cap' = k
    · have hn : n = k := by omega
      refine .inr ⟨ad, cap' - k, by simp [sliced, he], by omega, fun h => by omega, fun j hj' => ?_⟩
      simp [hn] at hj'
    · refine .inr ⟨ad.add (k * size), cap' - k, ?_, by omega, fun h => ?_, fun j hj' => ?_⟩
      · simp only [sliced, if_neg he, Option.map_some]
      · obtain ⟨h1, h2⟩ := hg (by omega)
        unfold Addr.add
        split
        · exact ⟨h1, h2⟩
        · exact ⟨rfl, h2⟩
      · have e1 : (ad.add (k * size)).block = ad.block := by unfold Addr.add; split <;> rfl
        have e2 : (ad.add (k * size)).off = ad.off + k * size := by
          unfold Addr.add; split
          · rename_i h0; simp [h0]
          · rfl
        rw [e1, e2, List.getElem?_drop, Nat.add_assoc]
        exact hj _ (by rw [Nat.sub_mul] at hj'; omega)
theorem SlR.cellAt (h : SlR S w size v n cs) {g off cap m : Nat} (hv : v = .slice (some ⟨g, off, none⟩) m cap) {j : Nat} (hj : j < n * size) : w.cell? ⟨g, off + j, none⟩ = cs[j]? := by
  rcases h.2 with ⟨h1, h2⟩ | ⟨ad, cap', h1, hc, hg, hj'⟩
  · rw [h2] at hj; simp at hj
  · rw [h1] at hv; injection hv with e1 e2 e3
    injection e1 with e1
    subst e1
    exact hj' j hj
theorem SlR.le_cap (h : SlR S w size v n cs) {a : Option Addr} {m cap : Nat} (hv : v = .slice a m cap) : n ≤ cap := by
  rcases h.2 with ⟨h1, h2⟩ | ⟨ad, cap', h1, hc, _⟩
  · rw [h1] at hv; injection hv with e1 e2 e3; omega
  · rw [h1] at hv; injection hv with e1 e2 e3; omega
end

section
variable {P : Program} (w : World)
/-- where an appended slice lies -/
theorem append_block (base : Nat) (t ty e : TypeId) (i : TypeInfo) (z : Value) (size bytes : Nat) (ht : P.underlying t = some (.slice e)) (hi : P.info? e = some i) (hz : i.zero = some z)
    (hsize : i.size = size) (hby : i.bytes = bytes) 
    (v : Value) (n : Nat) (xs : List Value) (hown : w.ownsRow base e size v n xs)
    (a : Addr) (m c : Nat) (news : List Value) (hl : news.length = m * size) (hnews : ∀ j u, news[j]? = some u → w.cell? (a.add j) = some u) (h1 : ∀ u ∈ news, u.oneCell' = true)
    (h63 : n + m ≤ maxLen) (hbytes : (n + m) * bytes ≤ 140737488355328) {v' : Value} {w' : World}
    (hr : (Builtin.append_ #[t, t] ty #[v, .slice (some a) m c]).run P w = .ok v' w') : v'.ownBlock = v.ownBlock ∨ v'.ownBlock = some w.heap.size := by
  subst hsize
  subst hby
  have hsmall : n + m ≤ 9223372036854775807 := by simp only [maxLen] at h63; omega
  rcases hown.2 with ⟨rfl, rfl⟩ | ⟨g, cap, cur, rfl, hbg, hg, hnc, hcm, hcs, htake⟩
  · by_cases hm : m = 0
    · subst hm
      simp [Builtin.append_, run_underlying ht, sizeOf, typeInfo, hi, Builtin.lenOf, Builtin.firstCells, loadCells, loadCellsFrom] at hr
      left; rw [← hr.1]
    · rw [run_append_nil (P := P) w t ty e i z ht hi hz a m c news hl hnews (by omega) (by omega) (by simp only [Nat.zero_add] at hbytes; omega)] at hr
      injection hr with h2 h3
      right; rw [← h2]; rfl
  · by_cases hroom : n + m ≤ cap
    · have hfit : n * i.size + news.length ≤ cur.size := by rw [hl, hcs, ← Nat.add_mul]; exact Nat.mul_le_mul_right _ hroom
      rw [run_append_room (P := P) w t ty e i ht hi g n cap cur hg a m c news hl hnews h1 hroom hfit] at hr
      injection hr with h2 h3
      left; rw [← h2]; rfl
    · have holds : ∀ j u, xs[j]? = some u → w.cell? ((⟨g, 0, none⟩ : Addr).add j) = some u := hown.cells (g := g) rfl
      rw [run_append_grow (P := P) w t ty e i z ht hi hz ⟨g, 0, none⟩ n cap xs hown.1 holds a m c news hl hnews (by omega) (by omega) (growslice_fits (by omega) hbytes)] at hr
      injection hr with h2 h3
      right; rw [← h2]; rfl

/-- what an append to a row of one's own leaves -/
structure Grew (base e size : Nat) (v : Value) (n : Nat) (xs : List Value) (w w' : World) (v' : Value) : Prop where
  own : w'.ownsRow base e size v' n xs
  grown : w.grownBy w' v.ownBlock
  where_ : v'.ownBlock = v.ownBlock ∨ v'.ownBlock = some w.heap.size

theorem Grew.upd {base e size : Nat} {v : Value} {n : Nat} {xs : List Value} {w w' : World} {v' : Value} (h : Grew base e size v n xs w w' v') :
    Upd (fun k => v.ownBlock = some k) w w' := (Upd.of_grown h.grown).mono fun k _ e => e.symm

theorem step_append_at {o : Oper} {a : Act} {K : Act → World → Prop} {Q : Exit → Act → World → Prop} (s x : Operand) (t : TypeId)
    (ho : o.op = .call { callee := .builtin .append, args := #[s, x], argTypes := #[t, t] })
    (base : Nat) (e : TypeId) (i : TypeInfo) (z : Value) (size bytes : Nat) (ht : P.underlying t = some (.slice e)) (hi : P.info? e = some i) (hz : i.zero = some z)
    (hsize : i.size = size) (hby : i.bytes = bytes) (hzs : z.cells.size = size) (hsz : 0 < size)
    (v : Value) (n : Nat) (xs : List Value) (hs : a.eval s = v) (hown : w.ownsRow base e size v n xs)
    (ad : Addr) (m c : Nat) (news : List Value) (hx : a.eval x = .slice (some ad) m c) (hl : news.length = m * size) (hnews : ∀ j u, news[j]? = some u → w.cell? (ad.add j) = some u) (h1 : ∀ u ∈ news, u.oneCell' = true)
    (h63 : n + m ≤ maxLen) (hbytes : (n + m) * bytes ≤ 140737488355328) (hbase : base ≤ w.heap.size)
    (h : ∀ v' w', Grew base e size v (n + m) (xs ++ news) w w' v' → K (a.put o.dst v') w') : o.wp P a w K Q := by
  obtain ⟨v', w', hr, h2, h3, h4⟩ := run_append_own (P := P) w base t o.type e i z size bytes ht hi hz hsize hby hzs hsz v n xs hown ad m c news hl hnews h1 h63 hbytes hbase
  have h5 := append_block (P := P) w base t o.type e i z size bytes ht hi hz hsize hby v n xs hown ad m c news hl hnews h1 h63 hbytes hr
  unfold Oper.wp execOp
  simp only [ho, resolve, invoke, builtin, Sem.run_bind, Sem.run_pure, Result.andThen_ok, List.map_toArray, List.map_cons, List.map_nil, hs, hx, hr]
  exact h v' w' ⟨h2, h3, h5⟩

theorem wpList_append_at {ops : Array Oper} {rest : List Oper} {o : Oper} {a : Act} {Q : Exit → Act → World → Prop} (hgd : o.guard = none) (s x : Operand) (t : TypeId)
    (ho : o.op = .call { callee := .builtin .append, args := #[s, x], argTypes := #[t, t] })
    (base : Nat) (e : TypeId) (i : TypeInfo) (z : Value) (size bytes : Nat) (ht : P.underlying t = some (.slice e)) (hi : P.info? e = some i) (hz : i.zero = some z)
    (hsize : i.size = size) (hby : i.bytes = bytes) (hzs : z.cells.size = size) (hsz : 0 < size)
    (v : Value) (n : Nat) (xs : List Value) (hs : a.eval s = v) (hown : w.ownsRow base e size v n xs)
    (ad : Addr) (m c : Nat) (news : List Value) (hx : a.eval x = .slice (some ad) m c) (hl : news.length = m * size) (hnews : ∀ j u, news[j]? = some u → w.cell? (ad.add j) = some u) (h1 : ∀ u ∈ news, u.oneCell' = true)
    (h63 : n + m ≤ maxLen) (hbytes : (n + m) * bytes ≤ 140737488355328) (hbase : base ≤ w.heap.size)
    (h : ∀ v' w', Grew base e size v (n + m) (xs ++ news) w w' v' → wpList P ops Q rest (a.put o.dst v') w') : wpList P ops Q (o :: rest) a w := by
  obtain ⟨v', w', hr, h2, h3, h4⟩ := run_append_own (P := P) w base t o.type e i z size bytes ht hi hz hsize hby hzs hsz v n xs hown ad m c news hl hnews h1 h63 hbytes hbase
  have h5 := append_block (P := P) w base t o.type e i z size bytes ht hi hz hsize hby v n xs hown ad m c news hl hnews h1 h63 hbytes hr
  refine wpList_plain hgd fun _ hK => ?_
  unfold Oper.wp execOp
  simp only [ho, resolve, invoke, builtin, Sem.run_bind, Sem.run_pure, Result.andThen_ok, List.map_toArray, List.map_cons, List.map_nil, hs, hx, hr]
  exact hK _ _ (h v' w' ⟨h2, h3, h5⟩)

/-- append(own, src...): the source a slice that is read, nil or not -/
theorem step_append_sl {o : Oper} {a : Act} {K : Act → World → Prop} {Q : Exit → Act → World → Prop} (s x : Operand) (t : TypeId)
    (ho : o.op = .call { callee := .builtin .append, args := #[s, x], argTypes := #[t, t] })
    (base : Nat) (e : TypeId) (i : TypeInfo) (z : Value) (size bytes : Nat) (ht : P.underlying t = some (.slice e)) (hi : P.info? e = some i) (hz : i.zero = some z)
    (hsize : i.size = size) (hby : i.bytes = bytes) (hzs : z.cells.size = size) (hsz : 0 < size)
    (v : Value) (n : Nat) (xs : List Value) (hs : a.eval s = v) (hown : w.ownsRow base e size v n xs)
    (S : Nat → Prop) (sv : Value) (m : Nat) (news : List Value) (hx : a.eval x = sv) (hsl : SlR S w size sv m news) (h1 : ∀ u ∈ news, u.oneCell' = true)
    (h63 : n + m ≤ maxLen) (hbytes : (n + m) * bytes ≤ 140737488355328) (hbase : base ≤ w.heap.size)
    (h : ∀ v' w', Grew base e size v (n + m) (xs ++ news) w w' v' → K (a.put o.dst v') w') : o.wp P a w K Q := by
  rcases hsl.2 with ⟨hv, hm⟩ | ⟨ad, cap, hv, hc, hg, hj⟩
  · have hr := run_append_owned_none (P := P) w base t o.type e i size ht hi v n xs hown
    have hn : news = [] := List.eq_nil_of_length_eq_zero (by rw [hsl.1, hm]; simp)
    subst hn; subst hm
    unfold Oper.wp execOp
    simp only [ho, resolve, invoke, builtin, Sem.run_bind, Sem.run_pure, Result.andThen_ok, List.map_toArray, List.map_cons, List.map_nil, hs, hx, hv, hr]
    exact (h v w ⟨by simpa using hown, ⟨rfl, rfl, rfl, Nat.le_refl _, fun _ _ _ => rfl⟩, .inl rfl⟩)
  · refine step_append_at w s x t ho base e i z size bytes ht hi hz hsize hby hzs hsz v n xs hs hown ad m cap news (by rw [hx, hv]) hsl.1 ?_ h1 h63 hbytes hbase h
    intro j u hu
    have hlt : j < m * size := by rw [← hsl.1]; exact (List.getElem?_eq_some_iff.1 hu).1
    rw [← hu, ← hj j hlt]
    obtain ⟨g, off, spot⟩ := ad
    have hsp := (hg (pos_of_lt hlt)).1
    simp only at hsp
    subst hsp
    congr 1
    unfold Addr.add
    split
    · rename_i h0; simp [h0]
    · rfl

/-- append(own, src...): the source a slice that is read, nil or not -/
theorem wpList_append_sl {ops : Array Oper} {rest : List Oper} {o : Oper} {a : Act} {Q : Exit → Act → World → Prop} (hgd : o.guard = none) (s x : Operand) (t : TypeId)
    (ho : o.op = .call { callee := .builtin .append, args := #[s, x], argTypes := #[t, t] })
    (base : Nat) (e : TypeId) (i : TypeInfo) (z : Value) (size bytes : Nat) (ht : P.underlying t = some (.slice e)) (hi : P.info? e = some i) (hz : i.zero = some z)
    (hsize : i.size = size) (hby : i.bytes = bytes) (hzs : z.cells.size = size) (hsz : 0 < size)
    (v : Value) (n : Nat) (xs : List Value) (hs : a.eval s = v) (hown : w.ownsRow base e size v n xs)
    (S : Nat → Prop) (sv : Value) (m : Nat) (news : List Value) (hx : a.eval x = sv) (hsl : SlR S w size sv m news) (h1 : ∀ u ∈ news, u.oneCell' = true)
    (h63 : n + m ≤ maxLen) (hbytes : (n + m) * bytes ≤ 140737488355328) (hbase : base ≤ w.heap.size)
    (h : ∀ v' w', Grew base e size v (n + m) (xs ++ news) w w' v' → wpList P ops Q rest (a.put o.dst v') w') : wpList P ops Q (o :: rest) a w := by
  rcases hsl.2 with ⟨hv, hm⟩ | ⟨ad, cap, hv, hc, hg, hj⟩
  · have hr := run_append_owned_none (P := P) w base t o.type e i size ht hi v n xs hown
    have hn : news = [] := List.eq_nil_of_length_eq_zero (by rw [hsl.1, hm]; simp)
    subst hn; subst hm
    refine wpList_plain hgd fun _ hK => ?_
    unfold Oper.wp execOp
    simp only [ho, resolve, invoke, builtin, Sem.run_bind, Sem.run_pure, Result.andThen_ok, List.map_toArray, List.map_cons, List.map_nil, hs, hx, hv, hr]
    exact hK _ _ (h v w ⟨by simpa using hown, ⟨rfl, rfl, rfl, Nat.le_refl _, fun _ _ _ => rfl⟩, .inl rfl⟩)
  · refine wpList_append_at w hgd s x t ho base e i z size bytes ht hi hz hsize hby hzs hsz v n xs hs hown ad m cap news (by rw [hx, hv]) hsl.1 ?_ h1 h63 hbytes hbase h
    intro j u hu
    have hlt : j < m * size := by rw [← hsl.1]; exact (List.getElem?_eq_some_iff.1 hu).1
    rw [← hu, ← hj j hlt]
    obtain ⟨g, off, spot⟩ := ad
    have hsp := (hg (pos_of_lt hlt)).1
    simp only at hsp
    subst hsp
    congr 1
    unfold Addr.add
    split
    · rename_i h0; simp [h0]
    · rfl

/-- x[:h] -/
theorem wpList_slice_to {ops : Array Oper} {rest : List Oper} {o : Oper} {a : Act} {Q : Exit → Act → World → Prop} (hgd : o.guard = none) (t : TypeId) (x h : Operand)
    (ho : o.op = .slice t x none (some h) none) (size : Nat) (ht : P.underlying t = some (.slice (P.elem t))) (hsz : ∀ w, (sizeOf (P.elem t)).run P w = .ok size w)
    (S : Nat → Prop) (v : Value) (n : Nat) (cs : List Value) (hx : a.eval x = v) (hsl : SlR S w size v n cs) (k : Nat) (kh : IntKind) (ki : Int) (hh : a.eval h = .int kh ki) (hki : ki = k) (hk : k ≤ n)
    (hn : ∀ sv, SlR S w size sv k (cs.take (k * size)) → wpList P ops Q rest (a.put o.dst sv) w) : wpList P ops Q (o :: rest) a w := by
  obtain ⟨ad, cap, hv⟩ := hsl.shape
  have hcap : n ≤ cap := hsl.le_cap hv
  refine wpList_plain hgd fun _ hK => ?_
  unfold Oper.wp execOp
  subst hki
  have hr := run_slice_h (P := P) w t ad n cap ht kh (k : Int) (by omega) (by omega)
  simp only [hsz, Result.andThen_ok] at hr
  rw [hv] at hx
  have e : sliced ad 0 (k : Int).toNat cap size = .slice ad k cap := by
    simp [sliced]
    intro h0
    cases ad with
    | none => rfl
    | some ad => simp [Addr.add]
  rw [e] at hr
  simp only [ho, run_sliceAt_slice (P := P) w t _ _ _ _ ht, Sem.run_bind, Sem.run_pure, Result.andThen_ok, Option.map_some, Option.map_none, hx, hh, hr]
  exact hK _ _ (hn _ (hsl.to hv k hk))

/-- x[l:] -/
theorem wpList_slice_from {ops : Array Oper} {rest : List Oper} {o : Oper} {a : Act} {Q : Exit → Act → World → Prop} (hgd : o.guard = none) (t : TypeId) (x l : Operand)
    (ho : o.op = .slice t x (some l) none none) (size : Nat) (ht : P.underlying t = some (.slice (P.elem t))) (hsz : ∀ w, (sizeOf (P.elem t)).run P w = .ok size w)
    (S : Nat → Prop) (v : Value) (n : Nat) (cs : List Value) (hx : a.eval x = v) (hsl : SlR S w size v n cs) (k : Nat) (kh : IntKind) (ki : Int) (hh : a.eval l = .int kh ki) (hki : ki = k) (hk : k ≤ n)
    (hn : ∀ sv, SlR S w size sv (n - k) (cs.drop (k * size)) → wpList P ops Q rest (a.put o.dst sv) w) : wpList P ops Q (o :: rest) a w := by
  obtain ⟨ad, cap, hv⟩ := hsl.shape
  refine wpList_plain hgd fun _ hK => ?_
  unfold Oper.wp execOp
  subst hki
  have hr := run_slice_l (P := P) w t ad n cap ht kh (k : Int) (by omega) (by omega)
  simp only [hsz, Result.andThen_ok, Int.toNat_natCast] at hr
  rw [hv] at hx
  simp only [ho, run_sliceAt_slice (P := P) w t _ _ _ _ ht, Sem.run_bind, Sem.run_pure, Result.andThen_ok, Option.map_some, Option.map_none, hx, hh, hr]
  exact hK _ _ (hn _ (hsl.from hv k hk))
end
end Go.Hw
