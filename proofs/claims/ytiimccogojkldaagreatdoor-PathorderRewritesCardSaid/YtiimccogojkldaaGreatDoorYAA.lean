/- The texts L1 TP TM TL TO TN TX MP MQ TF, one behind the other. -/
import Derived.WalkKit
import Derived.WalkSpells
import Derived.Lib.Hide
import Derived.BigQuiet
import Derived.Deep.QuietTactic
import Derived.Deep.LoopGhost
import Derived.StillTailTactics
import Derived.Lib.ItoaNum
import Derived.MapKept
import Derived.WideKeyRuns
/- Small laws of the prover's own, over any program: what stays of memory, slices that are read, slices that grow. -/
namespace Go.Hw
open Go.RowKit
set_option linter.unusedVariables false
set_option linter.unusedSimpArgs false

/-- Outside the blocks F the old memory is as it was. -/
structure Upd (F : Nat → Prop) (w w' : World) : Prop where
  os : w'.os = w.os
  tape : w'.tape = w.tape
  output : w'.output = w.output
  size : w.heap.size ≤ w'.heap.size
  block : ∀ k, k < w.heap.size → ¬ F k → w'.heap[k]? = w.heap[k]?

/-- no old block is changed -/
abbrev Ext (w w' : World) : Prop := Upd (fun _ => False) w w'

theorem Upd.refl (F : Nat → Prop) (w : World) : Upd F w w := ⟨rfl, rfl, rfl, Nat.le_refl _, fun _ _ _ => rfl⟩
theorem Upd.trans {F : Nat → Prop} {a b c : World} (h : Upd F a b) (k : Upd F b c) : Upd F a c :=
  ⟨k.os.trans h.os, k.tape.trans h.tape, k.output.trans h.output, Nat.le_trans h.size k.size,
   fun i hi hf => (k.block i (Nat.lt_of_lt_of_le hi h.size) hf).trans (h.block i hi hf)⟩
theorem Upd.mono {F G : Nat → Prop} {a b : World} (h : Upd F a b) (hFG : ∀ k, k < a.heap.size → F k → G k) : Upd G a b :=
  ⟨h.os, h.tape, h.output, h.size, fun i hi hf => h.block i hi (fun x => hf (hFG i hi x))⟩
theorem Upd.trans' {F G : Nat → Prop} {a b c : World} (h : Upd F a b) (k : Upd G b c) (hs : ∀ i, i < a.heap.size → G i → F i) : Upd F a c :=
  ⟨k.os.trans h.os, k.tape.trans h.tape, k.output.trans h.output, Nat.le_trans h.size k.size,
   fun i hi hf => (k.block i (Nat.lt_of_lt_of_le hi h.size) (fun g => hf (hs i hi g))).trans (h.block i hi hf)⟩
theorem Upd.ext {F : Nat → Prop} {a b c : World} (h : Upd F a b) (k : Ext b c) : Upd F a c := h.trans' k (fun _ _ x => x.elim)
theorem Upd.drew {F : Nat → Prop} {a w : World} (h : Upd F a w) : Upd F a w.drew := ⟨h.os, h.tape, h.output, h.size, h.block⟩
theorem Upd.ofDrewN {F : Nat → Prop} {w w' : World} {n : Nat} (h : Upd F (w.drewN n) w') : Upd F w w' := ⟨h.os, h.tape, h.output, h.size, h.block⟩
theorem Upd.ofDrew {F : Nat → Prop} {w w' : World} (h : Upd F w.drew w') : Upd F w w' := ⟨h.os, h.tape, h.output, h.size, h.block⟩
theorem Upd.drewN' {F : Nat → Prop} {a w : World} (h : Upd F a w) (n : Nat) : Upd F a (w.drewN n) := ⟨h.os, h.tape, h.output, h.size, h.block⟩
theorem Upd.alloc {F : Nat → Prop} {a w : World} (h : Upd F a w) (o : Obj) : Upd F a (w.alloc o) :=
  h.trans ⟨rfl, rfl, rfl, by simp, fun k hk _ => Below.heap_alloc _ _ _ hk⟩
theorem Upd.setCell {F : Nat → Prop} {a w : World} (h : Upd F a w) {p : Addr} (hp : F p.block ∨ a.heap.size ≤ p.block) (u : Value) : Upd F a (w.setCell p u) :=
  ⟨h.os, h.tape, h.output, by simpa [World.setCell] using h.size, fun k hk hf => by
    rw [Below.heap_setCell _ _ _ _ (by intro e; subst e; rcases hp with hp | hp; exact hf hp; omega)]; exact h.block k hk hf⟩
theorem Upd.of_grown {w w' : World} {row : Option Nat} (h : w.grownBy w' row) : Upd (fun k => some k = row) w w' :=
  ⟨h.os, h.tape, h.output, h.size, fun k hk hf => h.block k hk hf⟩
/-- behind an append to a row of the call's own -/
theorem Upd.grown {F : Nat → Prop} {a w w' : World} {row : Option Nat} (h : Upd F a w) (hg : w.grownBy w' row) (hr : ∀ k, row = some k → F k ∨ a.heap.size ≤ k) : Upd F a w' :=
  ⟨hg.os.trans h.os, hg.tape.trans h.tape, hg.output.trans h.output, Nat.le_trans h.size hg.size,
   fun i hi hf => (hg.block i (Nat.lt_of_lt_of_le hi h.size) (fun e => by rcases hr i e.symm with h | h; exact hf h; omega)).trans (h.block i hi hf)⟩
theorem Upd.cell {F : Nat → Prop} {w w' : World} (h : Upd F w w') {p : Addr} {v : Value} (hc : w.cell? p = some v) (hp : ¬ F p.block) : w'.cell? p = some v :=
  (World.cell?_of_block (w := w) (h.block p.block (World.block_lt_of_cell? w p hc) hp)).trans hc
theorem Upd.below {F : Nat → Prop} {W w w' : World} {B : Nat} (h : Upd F w w') (hW : Below B W w) (hB : B ≤ w.heap.size) (hF : ∀ k, F k → B ≤ k) : Below B W w' :=
  hW.trans ⟨h.os, h.tape, h.output, h.size, fun k hk => h.block k (by omega) (fun e => by have := hF k e; omega)⟩
theorem Ext.below {w w' : World} (h : Ext w w') : Below w.heap.size w w' := ⟨h.os, h.tape, h.output, h.size, fun k hk => h.block k hk (fun x => x)⟩
theorem Upd.heap {F : Nat → Prop} {w w' : World} (h : Upd F w w') {b : Nat} {o : Obj} (hb : w.heap[b]? = some o) (hF : ¬ F b) : w'.heap[b]? = some o :=
  (h.block b (Array.getElem?_eq_some_iff.1 hb).1 hF).trans hb

/-- a block that is known whole: its cells, its marks -/
theorem cellRow {w : World} {b : Nat} {cs : Array Value} {t : TypeId} (h : w.heap[b]? = some (.cells cs t (0, 0))) (i : Nat) (v : Value) (hv : cs[i]? = some v) : w.cell? ⟨b, i, none⟩ = some v := by
  rw [cell_of_row w b i cs t _ h, hv]
theorem frozenRow {w : World} {b : Nat} {cs : Array Value} {t : TypeId} (h : w.heap[b]? = some (.cells cs t (0, 0))) (i : Nat) : w.frozen? ⟨b, i, none⟩ = false := frozen_of_row w b i cs t h

/-- the walk stands still here -/
def Stop (p : Prop) : Prop := p
theorem Stop.go {p : Prop} (h : p) : Stop p := h
theorem stop_at {P : Program} {ops : Array Oper} {Q : Exit → Act → World → Prop} {rest : List Oper} {a : Act} {w : World} {o : Oper}
    (h : Stop (wpList P ops Q (o :: rest) a w)) : wpList P ops Q (o :: rest) a w := h

theorem alloc0 (w : World) (o : Obj) : (w.alloc o).heap[w.heap.size]? = some o := by
  show (w.heap.push o)[w.heap.size]? = some o
  simp
theorem alloc_at (w : World) (o : Obj) {n : Nat} (h : n = w.heap.size) : (w.alloc o).heap[n]? = some o := by subst h; exact alloc0 w o
theorem allocOld {w : World} {k : Nat} {x : Obj} (h : w.heap[k]? = some x) (o : Obj) : (w.alloc o).heap[k]? = some x := by
  rw [Below.heap_alloc _ _ _ (Array.getElem?_eq_some_iff.1 h).1]; exact h
theorem alloc_size (w : World) (o : Obj) : (w.alloc o).heap.size = w.heap.size + 1 := by simp

theorem quiet_same {P : Program} {f : FuncId} {args : Array Value} {w : World} {n : Nat} {v : Value}
    (h : Calls P f args (w.drewN n) fun e w' => e = .returned v ∧ w.drewN n = w') : Calls P f args (w.drewN n) fun e w'' => e = .returned v ∧ ∃ m, w'' = w.drewN m :=
  Calls.quiet_of_same (h.mono fun _ _ ⟨a, b⟩ => ⟨a, b.symm⟩)

/-! ### a slice that is only read: n elements of size cells each, its cells cs, its block among S -/
def SlR (S : Nat → Prop) (w : World) (size : Nat) (v : Value) (n : Nat) (cs : List Value) : Prop :=
  cs.length = n * size ∧
  ((v = .slice none 0 0 ∧ n = 0) ∨
   ∃ ad cap, v = .slice (some ad) n cap ∧ n ≤ cap ∧ (0 < n → ad.spot = none ∧ S ad.block) ∧ ∀ j, j < n * size → w.cell? ⟨ad.block, ad.off + j, none⟩ = cs[j]?)

section
variable {S T F : Nat → Prop} {w w' : World} {size : Nat} {v : Value} {n : Nat} {cs : List Value}
theorem SlR.nil (S : Nat → Prop) (w : World) (size : Nat) : SlR S w size (.slice none 0 0) 0 [] := ⟨by simp, .inl ⟨rfl, rfl⟩⟩
theorem SlR.mk' {g off cap : Nat} (hl : cs.length = n * size) (hv : v = .slice (some ⟨g, off, none⟩) n cap) (hc : n ≤ cap) (hS : 0 < n → S g) (hj : ∀ j, j < n * size → w.cell? ⟨g, off + j, none⟩ = cs[j]?) :
    SlR S w size v n cs := ⟨hl, .inr ⟨_, cap, hv, hc, fun h => ⟨rfl, hS h⟩, hj⟩⟩
theorem SlR.empty (S : Nat → Prop) (w : World) (size : Nat) (a : Addr) (cap : Nat) : SlR S w size (.slice (some a) 0 cap) 0 [] :=
  ⟨by simp, .inr ⟨a, cap, rfl, Nat.zero_le _, fun h => absurd h (Nat.lt_irrefl 0), fun j hj => by simp at hj⟩⟩
theorem SlR.weaken (h : SlR S w size v n cs) (hs : ∀ k, S k → T k) : SlR T w size v n cs := by
  refine ⟨h.1, ?_⟩
  rcases h.2 with h | ⟨ad, cap, hv, hc, hg, hj⟩
  · exact .inl h
  · exact .inr ⟨ad, cap, hv, hc, fun h => ⟨(hg h).1, hs _ (hg h).2⟩, hj⟩
theorem pos_of_lt {n j size : Nat} (h : j < n * size) : 0 < n := by
  cases n with
  | zero => simp at h
  | succ n => omega
theorem SlR.kept (h : SlR S w size v n cs) (hu : Upd F w w') (hF : ∀ k, S k → ¬ F k) : SlR S w' size v n cs := by
  refine ⟨h.1, ?_⟩
  rcases h.2 with h2 | ⟨ad, cap, hv, hc, hg, hj⟩
  · exact .inl h2
  · refine .inr ⟨ad, cap, hv, hc, hg, fun j hj' => ?_⟩
    have h1 := hj j hj'
    rw [List.getElem?_eq_getElem (by rw [h.1]; exact hj')] at h1 ⊢
    exact hu.cell h1 (hF _ (hg (pos_of_lt hj')).2)
theorem SlR.drewN (h : SlR S w size v n cs) (k : Nat) : SlR S (w.drewN k) size v n cs := h
theorem SlR.drew (h : SlR S w size v n cs) : SlR S w.drew size v n cs := h
theorem SlR.shape (h : SlR S w size v n cs) : ∃ a cap, v = .slice a n cap := by
  rcases h.2 with ⟨h1, h2⟩ | ⟨ad, cap, hv, _⟩
  · exact ⟨none, 0, by rw [h1, h2]⟩
  · exact ⟨_, _, hv⟩
theorem SlR.pos (h : SlR S w size v n cs) (hn : 0 < n) : ∃ g off cap, v = .slice (some ⟨g, off, none⟩) n cap ∧ n ≤ cap ∧ S g ∧ ∀ j, j < n * size → w.cell? ⟨g, off + j, none⟩ = cs[j]? := by
  rcases h.2 with ⟨h1, h2⟩ | ⟨ad, cap, hv, hc, hg, hj⟩
  · omega
  · obtain ⟨g, off, spot⟩ := ad
    obtain ⟨h1, h2⟩ := hg hn
    simp only at h1
    subst h1
    exact ⟨g, off, cap, hv, hc, h2, hj⟩
theorem SlR.of_own {base e : Nat} (h : w.ownsRow base e size v n cs) : SlR (fun k => v.ownBlock = Option.some k) w size v n cs := by
  refine ⟨h.1, ?_⟩
  rcases h.2 with h2 | ⟨g, cap, cur, rfl, hb, hg, hc, hm, hs, ht⟩
  · exact .inl h2
  · refine .inr ⟨⟨g, 0, Option.none⟩, cap, rfl, hc, fun _ => ⟨rfl, rfl⟩, fun j hj => ?_⟩
    rw [Nat.zero_add]; exact World.ownsRow.cellAt h j hj
theorem own_kept {base e : Nat} (h : w.ownsRow base e size v n cs) (hu : Upd F w w') (hF : ∀ k, v.ownBlock = Option.some k → ¬ F k) : w'.ownsRow base e size v n cs := by
  refine ⟨h.1, ?_⟩
  rcases h.2 with h2 | ⟨g, cap, cur, rfl, hb, hg, rest⟩
  · exact .inl h2
  · exact .inr ⟨g, cap, cur, rfl, hb, hu.heap hg (hF g rfl), rest⟩
theorem own_some {base e : Nat} (h : w.ownsRow base e size v n cs) (hn : 0 < n) :
    ∃ g cap, v = .slice (some ⟨g, 0, none⟩) n cap := by
  rcases h.2 with ⟨_, h2⟩ | ⟨g, cap, cur, hv, _⟩
  · omega
  · exact ⟨g, cap, hv⟩
theorem own_shape {base e : Nat} (h : w.ownsRow base e size v n cs) : ∃ a cap, v = .slice a n cap := (SlR.of_own h).shape
/-- v[:k] -/
theorem SlR.to (h : SlR S w size v n cs) {a : Option Addr} {m cap : Nat} (hv : v = .slice a m cap) (k : Nat) (hk : k ≤ n) :
    SlR S w size (.slice a k cap) k (cs.take (k * size)) := by
  have hle : k * size ≤ n * size := Nat.mul_le_mul_right _ hk
  refine ⟨by rw [List.length_take, h.1]; omega, ?_⟩
  rcases h.2 with ⟨h1, h2⟩ | ⟨ad, cap', h1, hc, hg, hj⟩
  · rw [h1] at hv; injection hv with e1 e2 e3
    subst e1; subst e3
    have : k = 0 := by omega
    subst this
    exact .inl ⟨rfl, rfl⟩
  · rw [h1] at hv; injection hv with e1 e2 e3
    subst e1; subst e3
    refine .inr ⟨ad, cap', rfl, by omega, fun h => hg (by omega), fun j hj' => ?_⟩
    rw [hj j (by omega), List.getElem?_take_of_lt hj']
/-- v[k:] -/
theorem SlR.from (h : SlR S w size v n cs) {a : Option Addr} {m cap : Nat} (hv : v = .slice a m cap) (k : Nat) (hk : k ≤ n) :
    SlR S w size (sliced a k n cap size) (n - k) (cs.drop (k * size)) := by
  have hle : k * size ≤ n * size := Nat.mul_le_mul_right _ hk
  refine ⟨by rw [List.length_drop, h.1, Nat.sub_mul], ?_⟩
  rcases h.2 with ⟨h1, h2⟩ | ⟨ad, cap', h1, hc, hg, hj⟩
  · rw [h1] at hv; injection hv with e1 e2 e3
    subst e1; subst e3
    have : k = 0 := by omega
    subst this
    subst h2
    exact .inl ⟨by simp [sliced], rfl⟩
  · rw [h1] at hv; injection hv with e1 e2 e3
    subst e1; subst e3
    by_cases he : cap' = k
    · have hn : n = k := by omega
      refine .inr ⟨ad, cap' - k, by simp [sliced, he], by omega, fun h => by omega, fun j hj' => ?_⟩
      simp [hn] at hj'
    · refine .inr ⟨ad.add (k * size), cap' - k, ?_, by omega, fun h => ?_, fun j hj' => ?_⟩
      · simp only [sliced, if_neg he, Option.map_some]
      · obtain ⟨h1, h2⟩ := hg (by omega)
        unfold Addr.add
        split
        · exact ⟨h1, h2⟩
        · exact ⟨rfl, h2⟩
      · have e1 : (ad.add (k * size)).block = ad.block := by unfold Addr.add; split <;> rfl
        have e2 : (ad.add (k * size)).off = ad.off + k * size := by
          unfold Addr.add; split
          · rename_i h0; simp [h0]
          · rfl
        rw [e1, e2, List.getElem?_drop, Nat.add_assoc]
        exact hj _ (by rw [Nat.sub_mul] at hj'; omega)
theorem SlR.cellAt (h : SlR S w size v n cs) {g off cap m : Nat} (hv : v = .slice (some ⟨g, off, none⟩) m cap) {j : Nat} (hj : j < n * size) : w.cell? ⟨g, off + j, none⟩ = cs[j]? := by
  rcases h.2 with ⟨h1, h2⟩ | ⟨ad, cap', h1, hc, hg, hj'⟩
  · rw [h2] at hj; simp at hj
  · rw [h1] at hv; injection hv with e1 e2 e3
    injection e1 with e1
    subst e1
    exact hj' j hj
theorem SlR.le_cap (h : SlR S w size v n cs) {a : Option Addr} {m cap : Nat} (hv : v = .slice a m cap) : n ≤ cap := by
  rcases h.2 with ⟨h1, h2⟩ | ⟨ad, cap', h1, hc, _⟩
  · rw [h1] at hv; injection hv with e1 e2 e3; omega
  · rw [h1] at hv; injection hv with e1 e2 e3; omega
end

section
variable {P : Program} (w : World)
/-- where an appended slice lies -/
theorem append_block (base : Nat) (t ty e : TypeId) (i : TypeInfo) (z : Value) (size bytes : Nat) (ht : P.underlying t = some (.slice e)) (hi : P.info? e = some i) (hz : i.zero = some z)
    (hsize : i.size = size) (hby : i.bytes = bytes) 
    (v : Value) (n : Nat) (xs : List Value) (hown : w.ownsRow base e size v n xs)
    (a : Addr) (m c : Nat) (news : List Value) (hl : news.length = m * size) (hnews : ∀ j u, news[j]? = some u → w.cell? (a.add j) = some u) (h1 : ∀ u ∈ news, u.oneCell' = true)
    (h63 : n + m ≤ maxLen) (hbytes : (n + m) * bytes ≤ 140737488355328) {v' : Value} {w' : World}
    (hr : (Builtin.append_ #[t, t] ty #[v, .slice (some a) m c]).run P w = .ok v' w') : v'.ownBlock = v.ownBlock ∨ v'.ownBlock = some w.heap.size := by
  subst hsize
  subst hby
  have hsmall : n + m ≤ 9223372036854775807 := by simp only [maxLen] at h63; omega
  rcases hown.2 with ⟨rfl, rfl⟩ | ⟨g, cap, cur, rfl, hbg, hg, hnc, hcm, hcs, htake⟩
  · by_cases hm : m = 0
    · subst hm
      simp [Builtin.append_, run_underlying ht, sizeOf, typeInfo, hi, Builtin.lenOf, Builtin.firstCells, loadCells, loadCellsFrom] at hr
      left; rw [← hr.1]
    · rw [run_append_nil (P := P) w t ty e i z ht hi hz a m c news hl hnews (by omega) (by omega) (by simp only [Nat.zero_add] at hbytes; omega)] at hr
      injection hr with h2 h3
      right; rw [← h2]; rfl
  · by_cases hroom : n + m ≤ cap
    · have hfit : n * i.size + news.length ≤ cur.size := by rw [hl, hcs, ← Nat.add_mul]; exact Nat.mul_le_mul_right _ hroom
      rw [run_append_room (P := P) w t ty e i ht hi g n cap cur hg a m c news hl hnews h1 hroom hfit] at hr
      injection hr with h2 h3
      left; rw [← h2]; rfl
    · have holds : ∀ j u, xs[j]? = some u → w.cell? ((⟨g, 0, none⟩ : Addr).add j) = some u := hown.cells (g := g) rfl
      rw [run_append_grow (P := P) w t ty e i z ht hi hz ⟨g, 0, none⟩ n cap xs hown.1 holds a m c news hl hnews (by omega) (by omega) (growslice_fits (by omega) hbytes)] at hr
      injection hr with h2 h3
      right; rw [← h2]; rfl

/-- what an append to a row of one's own leaves -/
structure Grew (base e size : Nat) (v : Value) (n : Nat) (xs : List Value) (w w' : World) (v' : Value) : Prop where
  own : w'.ownsRow base e size v' n xs
  grown : w.grownBy w' v.ownBlock
  where_ : v'.ownBlock = v.ownBlock ∨ v'.ownBlock = some w.heap.size

theorem Grew.upd {base e size : Nat} {v : Value} {n : Nat} {xs : List Value} {w w' : World} {v' : Value} (h : Grew base e size v n xs w w' v') :
    Upd (fun k => v.ownBlock = some k) w w' := (Upd.of_grown h.grown).mono fun k _ e => e.symm

theorem step_append_at {o : Oper} {a : Act} {K : Act → World → Prop} {Q : Exit → Act → World → Prop} (s x : Operand) (t : TypeId)
    (ho : o.op = .call { callee := .builtin .append, args := #[s, x], argTypes := #[t, t] })
    (base : Nat) (e : TypeId) (i : TypeInfo) (z : Value) (size bytes : Nat) (ht : P.underlying t = some (.slice e)) (hi : P.info? e = some i) (hz : i.zero = some z)
    (hsize : i.size = size) (hby : i.bytes = bytes) (hzs : z.cells.size = size) (hsz : 0 < size)
    (v : Value) (n : Nat) (xs : List Value) (hs : a.eval s = v) (hown : w.ownsRow base e size v n xs)
    (ad : Addr) (m c : Nat) (news : List Value) (hx : a.eval x = .slice (some ad) m c) (hl : news.length = m * size) (hnews : ∀ j u, news[j]? = some u → w.cell? (ad.add j) = some u) (h1 : ∀ u ∈ news, u.oneCell' = true)
    (h63 : n + m ≤ maxLen) (hbytes : (n + m) * bytes ≤ 140737488355328) (hbase : base ≤ w.heap.size)
    (h : ∀ v' w', Grew base e size v (n + m) (xs ++ news) w w' v' → K (a.put o.dst v') w') : o.wp P a w K Q := by
  obtain ⟨v', w', hr, h2, h3, h4⟩ := run_append_own (P := P) w base t o.type e i z size bytes ht hi hz hsize hby hzs hsz v n xs hown ad m c news hl hnews h1 h63 hbytes hbase
  have h5 := append_block (P := P) w base t o.type e i z size bytes ht hi hz hsize hby v n xs hown ad m c news hl hnews h1 h63 hbytes hr
  unfold Oper.wp execOp
  simp only [ho, resolve, invoke, builtin, Sem.run_bind, Sem.run_pure, Result.andThen_ok, List.map_toArray, List.map_cons, List.map_nil, hs, hx, hr]
  exact h v' w' ⟨h2, h3, h5⟩

theorem wpList_append_at {ops : Array Oper} {rest : List Oper} {o : Oper} {a : Act} {Q : Exit → Act → World → Prop} (hgd : o.guard = none) (s x : Operand) (t : TypeId)
    (ho : o.op = .call { callee := .builtin .append, args := #[s, x], argTypes := #[t, t] })
    (base : Nat) (e : TypeId) (i : TypeInfo) (z : Value) (size bytes : Nat) (ht : P.underlying t = some (.slice e)) (hi : P.info? e = some i) (hz : i.zero = some z)
    (hsize : i.size = size) (hby : i.bytes = bytes) (hzs : z.cells.size = size) (hsz : 0 < size)
    (v : Value) (n : Nat) (xs : List Value) (hs : a.eval s = v) (hown : w.ownsRow base e size v n xs)
    (ad : Addr) (m c : Nat) (news : List Value) (hx : a.eval x = .slice (some ad) m c) (hl : news.length = m * size) (hnews : ∀ j u, news[j]? = some u → w.cell? (ad.add j) = some u) (h1 : ∀ u ∈ news, u.oneCell' = true)
    (h63 : n + m ≤ maxLen) (hbytes : (n + m) * bytes ≤ 140737488355328) (hbase : base ≤ w.heap.size)
    (h : ∀ v' w', Grew base e size v (n + m) (xs ++ news) w w' v' → wpList P ops Q rest (a.put o.dst v') w') : wpList P ops Q (o :: rest) a w := by
  obtain ⟨v', w', hr, h2, h3, h4⟩ := run_append_own (P := P) w base t o.type e i z size bytes ht hi hz hsize hby hzs hsz v n xs hown ad m c news hl hnews h1 h63 hbytes hbase
  have h5 := append_block (P := P) w base t o.type e i z size bytes ht hi hz hsize hby v n xs hown ad m c news hl hnews h1 h63 hbytes hr
  refine wpList_plain hgd fun _ hK => ?_
  unfold Oper.wp execOp
  simp only [ho, resolve, invoke, builtin, Sem.run_bind, Sem.run_pure, Result.andThen_ok, List.map_toArray, List.map_cons, List.map_nil, hs, hx, hr]
  exact hK _ _ (h v' w' ⟨h2, h3, h5⟩)

/-- append(own, src...): the source a slice that is read, nil or not -/
theorem step_append_sl {o : Oper} {a : Act} {K : Act → World → Prop} {Q : Exit → Act → World → Prop} (s x : Operand) (t : TypeId)
    (ho : o.op = .call { callee := .builtin .append, args := #[s, x], argTypes := #[t, t] })
    (base : Nat) (e : TypeId) (i : TypeInfo) (z : Value) (size bytes : Nat) (ht : P.underlying t = some (.slice e)) (hi : P.info? e = some i) (hz : i.zero = some z)
    (hsize : i.size = size) (hby : i.bytes = bytes) (hzs : z.cells.size = size) (hsz : 0 < size)
    (v : Value) (n : Nat) (xs : List Value) (hs : a.eval s = v) (hown : w.ownsRow base e size v n xs)
    (S : Nat → Prop) (sv : Value) (m : Nat) (news : List Value) (hx : a.eval x = sv) (hsl : SlR S w size sv m news) (h1 : ∀ u ∈ news, u.oneCell' = true)
    (h63 : n + m ≤ maxLen) (hbytes : (n + m) * bytes ≤ 140737488355328) (hbase : base ≤ w.heap.size)
    (h : ∀ v' w', Grew base e size v (n + m) (xs ++ news) w w' v' → K (a.put o.dst v') w') : o.wp P a w K Q := by
  rcases hsl.2 with ⟨hv, hm⟩ | ⟨ad, cap, hv, hc, hg, hj⟩
  · have hr := run_append_owned_none (P := P) w base t o.type e i size ht hi v n xs hown
    have hn : news = [] := List.eq_nil_of_length_eq_zero (by rw [hsl.1, hm]; simp)
    subst hn; subst hm
    unfold Oper.wp execOp
    simp only [ho, resolve, invoke, builtin, Sem.run_bind, Sem.run_pure, Result.andThen_ok, List.map_toArray, List.map_cons, List.map_nil, hs, hx, hv, hr]
    exact (h v w ⟨by simpa using hown, ⟨rfl, rfl, rfl, Nat.le_refl _, fun _ _ _ => rfl⟩, .inl rfl⟩)
  · refine step_append_at w s x t ho base e i z size bytes ht hi hz hsize hby hzs hsz v n xs hs hown ad m cap news (by rw [hx, hv]) hsl.1 ?_ h1 h63 hbytes hbase h
    intro j u hu
    have hlt : j < m * size := by rw [← hsl.1]; exact (List.getElem?_eq_some_iff.1 hu).1
    rw [← hu, ← hj j hlt]
    obtain ⟨g, off, spot⟩ := ad
    have hsp := (hg (pos_of_lt hlt)).1
    simp only at hsp
    subst hsp
    congr 1
    unfold Addr.add
    split
    · rename_i h0; simp [h0]
    · rfl

/-- append(own, src...): the source a slice that is read, nil or not -/
theorem wpList_append_sl {ops : Array Oper} {rest : List Oper} {o : Oper} {a : Act} {Q : Exit → Act → World → Prop} (hgd : o.guard = none) (s x : Operand) (t : TypeId)
    (ho : o.op = .call { callee := .builtin .append, args := #[s, x], argTypes := #[t, t] })
    (base : Nat) (e : TypeId) (i : TypeInfo) (z : Value) (size bytes : Nat) (ht : P.underlying t = some (.slice e)) (hi : P.info? e = some i) (hz : i.zero = some z)
    (hsize : i.size = size) (hby : i.bytes = bytes) (hzs : z.cells.size = size) (hsz : 0 < size)
    (v : Value) (n : Nat) (xs : List Value) (hs : a.eval s = v) (hown : w.ownsRow base e size v n xs)
    (S : Nat → Prop) (sv : Value) (m : Nat) (news : List Value) (hx : a.eval x = sv) (hsl : SlR S w size sv m news) (h1 : ∀ u ∈ news, u.oneCell' = true)
    (h63 : n + m ≤ maxLen) (hbytes : (n + m) * bytes ≤ 140737488355328) (hbase : base ≤ w.heap.size)
    (h : ∀ v' w', Grew base e size v (n + m) (xs ++ news) w w' v' → wpList P ops Q rest (a.put o.dst v') w') : wpList P ops Q (o :: rest) a w := by
  rcases hsl.2 with ⟨hv, hm⟩ | ⟨ad, cap, hv, hc, hg, hj⟩
  · have hr := run_append_owned_none (P := P) w base t o.type e i size ht hi v n xs hown
    have hn : news = [] := List.eq_nil_of_length_eq_zero (by rw [hsl.1, hm]; simp)
    subst hn; subst hm
    refine wpList_plain hgd fun _ hK => ?_
    unfold Oper.wp execOp
    simp only [ho, resolve, invoke, builtin, Sem.run_bind, Sem.run_pure, Result.andThen_ok, List.map_toArray, List.map_cons, List.map_nil, hs, hx, hv, hr]
    exact hK _ _ (h v w ⟨by simpa using hown, ⟨rfl, rfl, rfl, Nat.le_refl _, fun _ _ _ => rfl⟩, .inl rfl⟩)
  · refine wpList_append_at w hgd s x t ho base e i z size bytes ht hi hz hsize hby hzs hsz v n xs hs hown ad m cap news (by rw [hx, hv]) hsl.1 ?_ h1 h63 hbytes hbase h
    intro j u hu
    have hlt : j < m * size := by rw [← hsl.1]; exact (List.getElem?_eq_some_iff.1 hu).1
    rw [← hu, ← hj j hlt]
    obtain ⟨g, off, spot⟩ := ad
    have hsp := (hg (pos_of_lt hlt)).1
    simp only at hsp
    subst hsp
    congr 1
    unfold Addr.add
    split
    · rename_i h0; simp [h0]
    · rfl

/-- x[:h] -/
theorem wpList_slice_to {ops : Array Oper} {rest : List Oper} {o : Oper} {a : Act} {Q : Exit → Act → World → Prop} (hgd : o.guard = none) (t : TypeId) (x h : Operand)
    (ho : o.op = .slice t x none (some h) none) (size : Nat) (ht : P.underlying t = some (.slice (P.elem t))) (hsz : ∀ w, (sizeOf (P.elem t)).run P w = .ok size w)
    (S : Nat → Prop) (v : Value) (n : Nat) (cs : List Value) (hx : a.eval x = v) (hsl : SlR S w size v n cs) (k : Nat) (kh : IntKind) (ki : Int) (hh : a.eval h = .int kh ki) (hki : ki = k) (hk : k ≤ n)
    (hn : ∀ sv, SlR S w size sv k (cs.take (k * size)) → wpList P ops Q rest (a.put o.dst sv) w) : wpList P ops Q (o :: rest) a w := by
  obtain ⟨ad, cap, hv⟩ := hsl.shape
  have hcap : n ≤ cap := hsl.le_cap hv
  refine wpList_plain hgd fun _ hK => ?_
  unfold Oper.wp execOp
  subst hki
  have hr := run_slice_h (P := P) w t ad n cap ht kh (k : Int) (by omega) (by omega)
  simp only [hsz, Result.andThen_ok] at hr
  rw [hv] at hx
  have e : sliced ad 0 (k : Int).toNat cap size = .slice ad k cap := by
    simp [sliced]
    intro h0
    cases ad with
    | none => rfl
    | some ad => simp [Addr.add]
  rw [e] at hr
  simp only [ho, run_sliceAt_slice (P := P) w t _ _ _ _ ht, Sem.run_bind, Sem.run_pure, Result.andThen_ok, Option.map_some, Option.map_none, hx, hh, hr]
  exact hK _ _ (hn _ (hsl.to hv k hk))

/-- x[l:] -/
theorem wpList_slice_from {ops : Array Oper} {rest : List Oper} {o : Oper} {a : Act} {Q : Exit → Act → World → Prop} (hgd : o.guard = none) (t : TypeId) (x l : Operand)
    (ho : o.op = .slice t x (some l) none none) (size : Nat) (ht : P.underlying t = some (.slice (P.elem t))) (hsz : ∀ w, (sizeOf (P.elem t)).run P w = .ok size w)
    (S : Nat → Prop) (v : Value) (n : Nat) (cs : List Value) (hx : a.eval x = v) (hsl : SlR S w size v n cs) (k : Nat) (kh : IntKind) (ki : Int) (hh : a.eval l = .int kh ki) (hki : ki = k) (hk : k ≤ n)
    (hn : ∀ sv, SlR S w size sv (n - k) (cs.drop (k * size)) → wpList P ops Q rest (a.put o.dst sv) w) : wpList P ops Q (o :: rest) a w := by
  obtain ⟨ad, cap, hv⟩ := hsl.shape
  refine wpList_plain hgd fun _ hK => ?_
  unfold Oper.wp execOp
  subst hki
  have hr := run_slice_l (P := P) w t ad n cap ht kh (k : Int) (by omega) (by omega)
  simp only [hsz, Result.andThen_ok, Int.toNat_natCast] at hr
  rw [hv] at hx
  simp only [ho, run_sliceAt_slice (P := P) w t _ _ _ _ ht, Sem.run_bind, Sem.run_pure, Result.andThen_ok, Option.map_some, Option.map_none, hx, hh, hr]
  exact hK _ _ (hn _ (hsl.from hv k hk))
end
end Go.Hw

/- Terms: pure. -/
namespace Go.Hw
set_option linter.unusedVariables false
set_option linter.unusedSimpArgs false
abbrev By := ByteArray
def nul : By := ⟨#[]⟩
inductive Tm where
  | mk (name sort : By) (L : List Tm)
namespace Tm
def name : Tm → By | .mk n _ _ => n
def sort : Tm → By | .mk _ s _ => s
def kids : Tm → List Tm | .mk _ _ l => l
instance : Inhabited Tm := ⟨.mk nul nul []⟩
theorem eta (t : Tm) : .mk t.name t.sort t.kids = t := by cases t; rfl
theorem ind {P : Tm → Prop} (h : ∀ n s L, (∀ x ∈ L, P x) → P (.mk n s L)) : ∀ t, P t := by
  intro t
  refine Tm.rec (motive_1 := P) (motive_2 := fun L => ∀ x ∈ L, P x) (fun n s L ih => h n s L ih) (fun x hx => by cases hx) (fun a L ha hL x hx => ?_) t
  rcases List.mem_cons.1 hx with e | hx
  · rw [e]; exact ha
  · exact hL x hx
mutual
def size : Tm → Nat
  | .mk _ _ L => sizes L + 1
def sizes : List Tm → Nat
  | [] => 0
  | t :: L => size t + sizes L
end
mutual
def depth : Tm → Nat
  | .mk _ _ L => depths L + 1
def depths : List Tm → Nat
  | [] => 0
  | t :: L => max (depth t) (depths L)
end
mutual
def beq : Tm → Tm → Bool
  | .mk n s L, .mk m r M => decide (n = m) && (decide (s = r) && beqs L M)
def beqs : List Tm → List Tm → Bool
  | [], [] => true
  | t :: L, u :: M => beq t u && beqs L M
  | _, _ => false
end
theorem beq_eq : ∀ t u : Tm, beq t u = true ↔ t = u := by
  refine ind (fun n s L ih u => ?_)
  obtain ⟨m, r, M⟩ := u
  unfold beq
  have hL : ∀ (L : List Tm), (∀ x ∈ L, ∀ u, beq x u = true ↔ x = u) → ∀ M, beqs L M = true ↔ L = M := by
    intro L
    induction L with
    | nil => intro _ M; cases M <;> simp [beqs]
    | cons a L ihL =>
      intro h M
      cases M with
      | nil => simp [beqs]
      | cons b M =>
        unfold beqs
        rw [Bool.and_eq_true, h a (List.mem_cons_self ..), ihL (fun x hx => h x (List.mem_cons_of_mem _ hx)), List.cons.injEq]
  rw [Bool.and_eq_true, Bool.and_eq_true, decide_eq_true_eq, decide_eq_true_eq, hL L ih M, Tm.mk.injEq]
instance : DecidableEq Tm := fun t u => decidable_of_iff _ (beq_eq t u)
theorem size_pos (t : Tm) : 0 < t.size := by cases t; simp [size]
theorem size_mem {x : Tm} : ∀ {L : List Tm}, x ∈ L → x.size ≤ sizes L
  | a :: L, h => by
    rcases List.mem_cons.1 h with e | h
    · rw [e]; simp [sizes]
    · have := size_mem h; simp [sizes]; omega
theorem size_kid {t x : Tm} (h : x ∈ t.kids) : x.size < t.size := by
  obtain ⟨n, s, L⟩ := t
  have := size_mem (L := L) h
  simp [size]
  omega
theorem size_eq (t : Tm) : t.size = sizes t.kids + 1 := by cases t; rfl
theorem depth_eq (t : Tm) : t.depth = depths t.kids + 1 := by cases t; rfl
theorem depth_mem {x : Tm} : ∀ {L : List Tm}, x ∈ L → x.depth ≤ depths L
  | a :: L, h => by
    rcases List.mem_cons.1 h with e | h
    · rw [e]; simp only [depths]; omega
    · have := depth_mem h; simp only [depths]; omega
theorem sizes_append (L M : List Tm) : sizes (L ++ M) = sizes L + sizes M := by
  induction L with
  | nil => simp [sizes]
  | cons a L ih => simp [sizes, ih]; omega
theorem depths_append (L M : List Tm) : depths (L ++ M) = max (depths L) (depths M) := by
  induction L with
  | nil => simp [depths]
  | cons a L ih => simp only [List.cons_append, depths, ih]; omega
theorem length_le_sizes : ∀ L : List Tm, L.length ≤ sizes L
  | [] => Nat.le_refl _
  | a :: L => by have := length_le_sizes L; have := size_pos a; simp [sizes]; omega
end Tm
open Tm
/- the nodes in preorder, with their depths -/
mutual
def nodesD : Nat → Tm → List (Tm × Nat)
  | d, .mk n s L => (.mk n s L, d) :: nodesDs (d + 1) L
def nodesDs : Nat → List Tm → List (Tm × Nat)
  | _, [] => []
  | d, t :: L => nodesD d t ++ nodesDs d L
end
theorem nodesD_eq (d : Nat) (t : Tm) : nodesD d t = (t, d) :: nodesDs (d + 1) t.kids := by cases t; rfl
theorem nodesDs_append (d : Nat) (L M : List Tm) : nodesDs d (L ++ M) = nodesDs d L ++ nodesDs d M := by
  induction L with
  | nil => simp [nodesDs]
  | cons a L ih => simp [nodesDs, ih]
theorem nodesDs_flat (d : Nat) (L : List Tm) : nodesDs d L = L.flatMap (nodesD d) := by
  induction L with
  | nil => rfl
  | cons a L ih => simp [nodesDs, ih]
theorem nodesD_len : ∀ (t : Tm) (d : Nat), (nodesD d t).length = t.size := by
  refine ind (fun n s L ih d => ?_)
  rw [nodesD_eq]
  have : ∀ (L : List Tm) (d : Nat), (∀ x ∈ L, ∀ d, (nodesD d x).length = x.size) → (nodesDs d L).length = sizes L := by
    intro L
    induction L with
    | nil => intro d _; rfl
    | cons a L ihL =>
      intro d h
      simp only [nodesDs, List.length_append, sizes]
      rw [h a (List.mem_cons_self ..), ihL d (fun x hx => h x (List.mem_cons_of_mem _ hx))]
  simp only [kids, List.length_cons, Tm.size]
  rw [this L (d + 1) ih]
theorem nodesDs_len (L : List Tm) (d : Nat) : (nodesDs d L).length = sizes L := by
  induction L with
  | nil => rfl
  | cons a L ih => simp only [nodesDs, List.length_append, sizes, nodesD_len, ih]
/-- the subterms, in preorder -/
def sbts (t : Tm) : List Tm := (nodesD 0 t).map (·.1)
theorem nodesD_fst (t : Tm) : ∀ d e : Nat, (nodesD d t).map (·.1) = (nodesD e t).map (·.1) := by
  refine ind (P := fun t => ∀ d e : Nat, (nodesD d t).map (·.1) = (nodesD e t).map (·.1)) (fun n s L ih d e => ?_) t
  rw [nodesD_eq, nodesD_eq, nodesDs_flat, nodesDs_flat]
  simp only [kids, List.map_cons, List.map_flatMap]
  congr 1
  induction L with
  | nil => rfl
  | cons a L ihL =>
    simp only [List.flatMap_cons]
    rw [ih a (List.mem_cons_self ..) (d + 1) (e + 1), ihL (fun x hx => ih x (List.mem_cons_of_mem _ hx))]
theorem sbts_eq (t : Tm) : sbts t = t :: t.kids.flatMap sbts := by
  unfold sbts
  rw [nodesD_eq, nodesDs_flat]
  simp only [List.map_cons, List.map_flatMap]
  congr 1
  have : ∀ L : List Tm, (L.flatMap fun a => (nodesD (0 + 1) a).map (·.1)) = L.flatMap fun t => (nodesD 0 t).map (·.1) := by
    intro L
    induction L with
    | nil => rfl
    | cons a L ih => simp only [List.flatMap_cons]; rw [ih, nodesD_fst a (0 + 1) 0]
  exact this _
theorem mem_sbts_self (t : Tm) : t ∈ sbts t := by rw [sbts_eq]; exact List.mem_cons_self ..
theorem mem_sbts_kid {t x y : Tm} (h : x ∈ t.kids) (hy : y ∈ sbts x) : y ∈ sbts t := by
  rw [sbts_eq]
  exact List.mem_cons_of_mem _ (List.mem_flatMap.2 ⟨x, h, hy⟩)
end Go.Hw

/- Terms in memory. -/
namespace Go.Hw
open Go.RowKit Tm
set_option linter.unusedVariables false
set_option linter.unusedSimpArgs false
abbrev nilS : Value := .slice none 0 0
/-- the cells of a list of terms; us: the slices of their parts -/
def tCells : List Tm → List Value → List Value
  | [], _ => []
  | t :: L, us => .string t.name :: .string t.sort :: us.headD nilS :: tCells L us.tail
abbrev tg (L : List Tm) (i : Nat) : Tm := L.getD i default
abbrev ug (us : List Value) (i : Nat) : Value := us.getD i nilS
theorem tCells_len : ∀ (L : List Tm) (us : List Value), (tCells L us).length = L.length * 3
  | [], _ => rfl
  | t :: L, us => by simp [tCells, tCells_len L us.tail]; omega
theorem tCells_at : ∀ (L : List Tm) (us : List Value) (i : Nat), i < L.length →
    (tCells L us)[i * 3]? = some (.string (tg L i).name) ∧ (tCells L us)[i * 3 + 1]? = some (.string (tg L i).sort) ∧ (tCells L us)[i * 3 + 2]? = some (ug us i)
  | t :: L, us, 0, _ => by
    refine ⟨rfl, rfl, ?_⟩
    cases us <;> rfl
  | t :: L, us, i + 1, h => by
    obtain ⟨h0, h1, h2⟩ := tCells_at L us.tail i (by simpa using h)
    have e : ∀ k, (tCells (t :: L) us)[(i + 1) * 3 + k]? = (tCells L us.tail)[i * 3 + k]? := fun k => by
      rw [show (i + 1) * 3 + k = i * 3 + k + 1 + 1 + 1 by omega]
      rfl
    refine ⟨by rw [← Nat.add_zero ((i + 1) * 3), e]; exact h0, by rw [e]; exact h1, ?_⟩
    rw [e, h2]
    cases us <;> rfl
theorem tCells_snoc : ∀ (L : List Tm) (us : List Value) (t : Tm) (u : Value), us.length = L.length → tCells (L ++ [t]) (us ++ [u]) = tCells L us ++ [.string t.name, .string t.sort, u]
  | [], [], t, u, _ => rfl
  | a :: L, b :: us, t, u, h => by
    have := tCells_snoc L us t u (by simpa using h)
    simp only [List.cons_append, tCells, List.headD_cons, List.tail_cons, this]
/-- a list of terms that is read -/
inductive TlR (S : Nat → Prop) (w : World) : List Tm → Value → Prop
  | mk (L : List Tm) (us : List Value) (v : Value) (hl : us.length = L.length) (h : SlR S w 3 v L.length (tCells L us)) (hk : ∀ i, i < L.length → TlR S w (tg L i).kids (ug us i)) : TlR S w L v
theorem TlR.nil (S : Nat → Prop) (w : World) : TlR S w [] nilS := ⟨[], [], nilS, rfl, SlR.nil _ _ _, fun i h => by cases h⟩
theorem TlR.shape {S : Nat → Prop} {w : World} {L : List Tm} {v : Value} (h : TlR S w L v) : ∃ a cap, v = .slice a L.length cap := by
  cases h with
  | mk _ us _ hl h hk => exact h.shape
theorem TlR.kept {S F : Nat → Prop} {w w' : World} {L : List Tm} {v : Value} (h : TlR S w L v) (hu : Upd F w w') (hF : ∀ k, S k → ¬ F k) : TlR S w' L v := by
  induction h with
  | mk L us v hl h hk ih => exact ⟨L, us, v, hl, h.kept hu hF, ih⟩
theorem TlR.ext {S : Nat → Prop} {w w' : World} {L : List Tm} {v : Value} (h : TlR S w L v) (hu : Ext w w') : TlR S w' L v := h.kept hu (fun _ _ h => h)
theorem TlR.weaken {S T : Nat → Prop} {w : World} {L : List Tm} {v : Value} (h : TlR S w L v) (hs : ∀ k, S k → T k) : TlR T w L v := by
  induction h with
  | mk L us v hl h hk ih => exact ⟨L, us, v, hl, h.weaken hs, ih⟩
theorem TlR.le_cap {S : Nat → Prop} {w : World} {L : List Tm} {a : Option Addr} {n cap : Nat} (h : TlR S w L (.slice a n cap)) : n = L.length ∧ n ≤ cap := by
  cases h with
  | mk _ us _ hl h hk =>
    obtain ⟨a', c', e⟩ := h.shape
    injection e with e1 e2 e3
    exact ⟨e2, by rw [e2]; exact h.le_cap (by rw [e1, e2])⟩
/-- the element i, in its cells -/
theorem TlR.at_ {S : Nat → Prop} {w : World} {L : List Tm} {a : Option Addr} {n cap : Nat} (h : TlR S w L (.slice a n cap)) (hL : 0 < L.length) :
    ∃ g off, a = some ⟨g, off, none⟩ ∧ S g ∧ ∀ i, i < L.length → ∃ a' cap', w.cell? ⟨g, off + i * 3, none⟩ = some (.string (tg L i).name) ∧ w.cell? ⟨g, off + (i * 3 + 1), none⟩ = some (.string (tg L i).sort) ∧
      w.cell? ⟨g, off + (i * 3 + 2), none⟩ = some (.slice a' (tg L i).kids.length cap') ∧ TlR S w (tg L i).kids (.slice a' (tg L i).kids.length cap') := by
  cases h with
  | mk _ us _ hl h hk =>
    obtain ⟨g, off, cap', e, hc, hS, hj⟩ := h.pos hL
    injection e with e1 e2 e3
    refine ⟨g, off, e1, hS, fun i hi => ?_⟩
    obtain ⟨h0, h1, h2⟩ := tCells_at L us i hi
    obtain ⟨a', cap', e'⟩ := (hk i hi).shape
    have hk' := hk i hi
    rw [e'] at hk' h2
    exact ⟨a', cap', by rw [hj _ (by omega), h0], by rw [hj _ (by omega), h1], by rw [hj _ (by omega), h2], hk'⟩
/-- a term as a value -/
abbrev tV (t : Tm) (u : Value) : Value := .agg #[.string t.name, .string t.sort, u]
def TmR (S : Nat → Prop) (w : World) (t : Tm) (v : Value) : Prop := ∃ a cap, v = tV t (.slice a t.kids.length cap) ∧ TlR S w t.kids (.slice a t.kids.length cap)
theorem TmR.kept {S F : Nat → Prop} {w w' : World} {t : Tm} {v : Value} (h : TmR S w t v) (hu : Upd F w w') (hF : ∀ k, S k → ¬ F k) : TmR S w' t v := by
  obtain ⟨a, cap, e, h⟩ := h
  exact ⟨a, cap, e, h.kept hu hF⟩
theorem TmR.ext {S : Nat → Prop} {w w' : World} {t : Tm} {v : Value} (h : TmR S w t v) (hu : Ext w w') : TmR S w' t v := h.kept hu (fun _ _ h => h)
theorem TmR.weaken {S T : Nat → Prop} {w : World} {t : Tm} {v : Value} (h : TmR S w t v) (hs : ∀ k, S k → T k) : TmR T w t v := by
  obtain ⟨a, cap, e, h⟩ := h
  exact ⟨a, cap, e, h.weaken hs⟩
theorem TmR.of {S : Nat → Prop} {w : World} {t : Tm} {u : Value} (h : TlR S w t.kids u) : TmR S w t (tV t u) := by
  obtain ⟨a, cap, e⟩ := h.shape
  exact ⟨a, cap, by rw [e], e ▸ h⟩
end Go.Hw

/- The lexicographic path order: pure. -/
namespace Go.Hw
open Tm
set_option linter.unusedVariables false
set_option linter.unusedSimpArgs false
/-- the first parts that differ decide -/
def lexG (g : Tm → Tm → Bool) : List Tm → List Tm → Bool
  | a :: L, b :: M => if a = b then lexG g L M else g a b
  | _, _ => false
def gtF (r : By → Nat) : Nat → Tm → Tm → Bool
  | 0, _, _ => false
  | n + 1, s, t => decide (s.sort = nul) && (s.kids.any (fun k => decide (k = t) || gtF r n k t) ||
      (decide (t.sort = nul) && (t.kids.all (fun k => gtF r n s k) && (if s.name = t.name then decide (s.kids.length = t.kids.length) && lexG (gtF r n) s.kids t.kids else decide (r s.name < r t.name)))))
/-- one term is greater than another one -/
def gt (r : By → Nat) (s t : Tm) : Bool := gtF r (s.size + t.size) s t
theorem any_congr {α : Type} {L : List α} {f g : α → Bool} (h : ∀ x ∈ L, f x = g x) : L.any f = L.any g := by
  induction L with
  | nil => rfl
  | cons a L ih => rw [List.any_cons, List.any_cons, h a (List.mem_cons_self ..), ih (fun x hx => h x (List.mem_cons_of_mem _ hx))]
theorem all_congr {α : Type} {L : List α} {f g : α → Bool} (h : ∀ x ∈ L, f x = g x) : L.all f = L.all g := by
  induction L with
  | nil => rfl
  | cons a L ih => rw [List.all_cons, List.all_cons, h a (List.mem_cons_self ..), ih (fun x hx => h x (List.mem_cons_of_mem _ hx))]
theorem lexG_congr {f g : Tm → Tm → Bool} : ∀ {L M : List Tm}, (∀ a ∈ L, ∀ b ∈ M, f a b = g a b) → lexG f L M = lexG g L M
  | [], _, _ => by cases ‹List Tm› <;> rfl
  | a :: L, [], _ => rfl
  | a :: L, b :: M, h => by
    unfold lexG
    rw [lexG_congr (fun x hx y hy => h x (List.mem_cons_of_mem _ hx) y (List.mem_cons_of_mem _ hy)), h a (List.mem_cons_self ..) b (List.mem_cons_self ..)]
theorem gtF_fuel (r : By → Nat) : ∀ (n m : Nat) (s t : Tm), s.size + t.size ≤ n → s.size + t.size ≤ m → gtF r n s t = gtF r m s t
  | 0, _, s, t, h, _ => by have := size_pos s; omega
  | _ + 1, 0, s, t, _, h => by have := size_pos s; omega
  | n + 1, m + 1, s, t, h1, h2 => by
    unfold gtF
    have e1 : s.kids.any (fun k => decide (k = t) || gtF r n k t) = s.kids.any (fun k => decide (k = t) || gtF r m k t) := any_congr (fun k hk => by
      have := size_kid hk
      rw [gtF_fuel r n m k t (by omega) (by omega)])
    have e2 : t.kids.all (fun k => gtF r n s k) = t.kids.all (fun k => gtF r m s k) := all_congr (fun k hk => by
      have := size_kid hk
      rw [gtF_fuel r n m s k (by omega) (by omega)])
    have e3 : lexG (gtF r n) s.kids t.kids = lexG (gtF r m) s.kids t.kids := lexG_congr (fun a ha b hb => by
      have := size_kid ha
      have := size_kid hb
      exact gtF_fuel r n m a b (by omega) (by omega))
    rw [e1, e2, e3]
theorem gt_eq (r : By → Nat) (s t : Tm) : gt r s t = (decide (s.sort = nul) && (s.kids.any (fun k => decide (k = t) || gt r k t) ||
      (decide (t.sort = nul) && (t.kids.all (fun k => gt r s k) && (if s.name = t.name then decide (s.kids.length = t.kids.length) && lexG (gt r) s.kids t.kids else decide (r s.name < r t.name)))))) := by
  have hp := size_pos s
  have h0 : gt r s t = gtF r (s.size + t.size - 1 + 1) s t := gtF_fuel r _ _ s t (by omega) (by omega)
  rw [h0]
  generalize hn : s.size + t.size - 1 = n
  have e1 : s.kids.any (fun k => decide (k = t) || gtF r n k t) = s.kids.any (fun k => decide (k = t) || gt r k t) := any_congr (fun k hk => by
    have := size_kid hk
    rw [gtF_fuel r n (k.size + t.size) k t (by omega) (by omega)]; rfl)
  have e2 : t.kids.all (fun k => gtF r n s k) = t.kids.all (fun k => gt r s k) := all_congr (fun k hk => by
    have := size_kid hk
    rw [gtF_fuel r n (s.size + k.size) s k (by omega) (by omega)]; rfl)
  have e3 : lexG (gtF r n) s.kids t.kids = lexG (gt r) s.kids t.kids := lexG_congr (fun a ha b hb => by
    have := size_kid ha
    have := size_kid hb
    exact gtF_fuel r n (a.size + b.size) a b (by omega) (by omega))
  unfold gtF
  rw [e1, e2, e3]
/-- a part is equal or greater -/
def Cov (r : By → Nat) (s t : Tm) : Prop := ∃ k ∈ s.kids, k = t ∨ gt r k t = true
/-- greater than all parts, and first, or with greater parts -/
def Abv (r : By → Nat) (s t : Tm) : Prop := t.sort = nul ∧ (∀ k ∈ t.kids, gt r s k = true) ∧ (s.name = t.name ∧ s.kids.length = t.kids.length ∧ lexG (gt r) s.kids t.kids = true ∨ s.name ≠ t.name ∧ r s.name < r t.name)
theorem gt_iff (r : By → Nat) (s t : Tm) : gt r s t = true ↔ s.sort = nul ∧ (Cov r s t ∨ Abv r s t) := by
  rw [gt_eq]
  simp only [Bool.and_eq_true, Bool.or_eq_true, decide_eq_true_eq, List.any_eq_true, List.all_eq_true]
  unfold Cov Abv
  have : ((if s.name = t.name then decide (s.kids.length = t.kids.length) && lexG (gt r) s.kids t.kids else decide (r s.name < r t.name)) = true) ↔ (s.name = t.name ∧ s.kids.length = t.kids.length ∧ lexG (gt r) s.kids t.kids = true ∨ s.name ≠ t.name ∧ r s.name < r t.name) := by
    by_cases h : s.name = t.name
    · rw [if_pos h]; simp [h]
    · rw [if_neg h]; simp [h]
  rw [this]
theorem lexG_trans {g : Tm → Tm → Bool} : ∀ {L M K : List Tm}, (∀ a ∈ L, ∀ b ∈ M, ∀ c ∈ K, g a b = true → g b c = true → g a c = true) → (∀ a ∈ L, ∀ b ∈ M, a ∈ K → g a b = true → g b a = true → False) → L.length = M.length → M.length = K.length → lexG g L M = true → lexG g M K = true → lexG g L K = true
  | [], _, _, _, _, _, _, h, _ => by cases h
  | a :: L, [], _, _, _, h, _, _, _ => by simp at h
  | a :: L, b :: M, [], _, _, _, h, _, _ => by simp at h
  | a :: L, b :: M, c :: K, ht, hi, e1, e2, h1, h2 => by
    unfold lexG at h1 h2 ⊢
    by_cases hab : a = b
    · rw [if_pos hab] at h1
      subst hab
      by_cases hac : a = c
      · rw [if_pos hac] at h2 ⊢
        exact lexG_trans (fun x hx y hy z hz => ht x (List.mem_cons_of_mem _ hx) y (List.mem_cons_of_mem _ hy) z (List.mem_cons_of_mem _ hz)) (fun x hx y hy hz => hi x (List.mem_cons_of_mem _ hx) y (List.mem_cons_of_mem _ hy) (List.mem_cons_of_mem _ hz)) (by simpa using e1) (by simpa using e2) h1 h2
      · rw [if_neg hac] at h2 ⊢
        exact h2
    · rw [if_neg hab] at h1
      by_cases hbc : b = c
      · subst hbc
        rw [if_neg hab]
        exact h1
      · rw [if_neg hbc] at h2
        by_cases hac : a = c
        · subst hac
          exact (hi a (List.mem_cons_self ..) b (List.mem_cons_self ..) (List.mem_cons_self ..) h1 h2).elim
        · rw [if_neg hac]
          exact ht a (List.mem_cons_self ..) b (List.mem_cons_self ..) c (List.mem_cons_self ..) h1 h2
theorem lexG_irrefl (g : Tm → Tm → Bool) : ∀ L : List Tm, lexG g L L = false
  | [] => rfl
  | a :: L => by unfold lexG; rw [if_pos rfl]; exact lexG_irrefl g L
theorem gt_kid (r : By → Nat) {s k : Tm} (hs : s.sort = nul) (hk : k ∈ s.kids) : gt r s k = true := (gt_iff r s k).2 ⟨hs, .inl ⟨k, hk, .inl rfl⟩⟩
/-- transitive and irreflexive, in one induction -/
theorem gt_both (r : By → Nat) : ∀ N : Nat, (∀ s t u : Tm, s.size + t.size + u.size ≤ N → gt r s t = true → gt r t u = true → gt r s u = true) ∧ (∀ s : Tm, 3 * s.size ≤ N → gt r s s = false)
  | 0 => ⟨fun s t u h => by have := size_pos s; omega, fun s h => by have := size_pos s; omega⟩
  | N + 1 => by
    obtain ⟨iht, ihi⟩ := gt_both r N
    have hT : ∀ s t u : Tm, s.size + t.size + u.size ≤ N + 1 → gt r s t = true → gt r t u = true → gt r s u = true := by
      intro s t u hN h1 h2
      obtain ⟨hs, h1'⟩ := (gt_iff r s t).1 h1
      rcases h1' with ⟨k, hk, hkt⟩ | ⟨htv, hall, hnm⟩
      · have hsz := size_kid hk
        have hku : gt r k u = true := by
          rcases hkt with e | e
          · rw [e]; exact h2
          · exact iht k t u (by omega) e h2
        exact (gt_iff r s u).2 ⟨hs, .inl ⟨k, hk, .inr hku⟩⟩
      · obtain ⟨_, h2'⟩ := (gt_iff r t u).1 h2
        rcases h2' with ⟨k, hk, hku⟩ | ⟨huv, hall2, hnm2⟩
        · have hsz := size_kid hk
          rcases hku with e | e
          · rw [← e]; exact hall k hk
          · exact iht s k u (by omega) (hall k hk) e
        · refine (gt_iff r s u).2 ⟨hs, .inr ⟨huv, fun k hk => ?_, ?_⟩⟩
          · have hsz := size_kid hk
            exact iht s t k (by omega) h1 (hall2 k hk)
          · rcases hnm with ⟨e1, l1, x1⟩ | ⟨e1, x1⟩
            · rcases hnm2 with ⟨e2, l2, x2⟩ | ⟨e2, x2⟩
              · refine .inl ⟨e1.trans e2, l1.trans l2, lexG_trans (fun a ha b hb c hc h3 h4 => ?_) (fun a ha b hb hc h3 h4 => ?_) l1 l2 x1 x2⟩
                · have q1 := size_kid ha
                  have q2 := size_kid hb
                  have q3 := size_kid hc
                  exact iht a b c (by omega) h3 h4
                · have q1 := size_kid ha
                  have q2 := size_kid hb
                  have q3 := size_kid hc
                  rcases Nat.le_total a.size b.size with q | q
                  · have h5 := iht a b a (by omega) h3 h4
                    rw [ihi a (by omega)] at h5
                    cases h5
                  · have h5 := iht b a b (by omega) h4 h3
                    rw [ihi b (by omega)] at h5
                    cases h5
              · exact .inr ⟨by rw [e1]; exact e2, by rw [e1]; exact x2⟩
            · rcases hnm2 with ⟨e2, l2, x2⟩ | ⟨e2, x2⟩
              · exact .inr ⟨by rw [← e2]; exact e1, by rw [← e2]; exact x1⟩
              · refine .inr ⟨fun e => ?_, by omega⟩
                rw [← e] at x2
                omega
    refine ⟨hT, fun s hN => ?_⟩
    rw [Bool.eq_false_iff]
    intro h
    obtain ⟨hs, h'⟩ := (gt_iff r s s).1 h
    rcases h' with ⟨k, hk, e | e⟩ | ⟨_, _, hnm⟩
    · have := size_kid hk
      rw [e] at this
      omega
    · have hsz := size_kid hk
      have h3 := iht k s k (by omega) e (gt_kid r hs hk)
      rw [ihi k (by omega)] at h3
      cases h3
    · rcases hnm with ⟨_, _, x⟩ | ⟨x, _⟩
      · rw [lexG_irrefl] at x; cases x
      · exact x rfl
theorem gt_trans (r : By → Nat) {s t u : Tm} (h1 : gt r s t = true) (h2 : gt r t u = true) : gt r s u = true := (gt_both r _).1 s t u (Nat.le_refl _) h1 h2
theorem gt_irrefl (r : By → Nat) (s : Tm) : gt r s s = false := (gt_both r _).2 s (Nat.le_refl _)
theorem gt_asymm (r : By → Nat) {s t : Tm} (h1 : gt r s t = true) : gt r t s = false := by
  rw [Bool.eq_false_iff]
  intro h2
  have := gt_trans r h1 h2
  rw [gt_irrefl] at this
  cases this
/-- the same, where equal terms are told apart first -/
theorem gt_ne (r : By → Nat) (s t : Tm) : (decide (s ≠ t) && gt r s t) = gt r s t := by
  by_cases h : s = t
  · rw [h, gt_irrefl, Bool.and_false]
  · rw [decide_eq_true h, Bool.true_and]
end Go.Hw

/- The path order: contexts, terms without variables, substitutions. -/
namespace Go.Hw
open Tm
set_option linter.unusedVariables false
set_option linter.unusedSimpArgs false
/-- variables have no parts -/
def NoP (t : Tm) : Prop := ∀ x ∈ sbts t, x.sort ≠ nul → x.kids = []
theorem NoP.kid {t x : Tm} (h : NoP t) (hx : x ∈ t.kids) : NoP x := fun y hy => h y (mem_sbts_kid hx hy)
def subAt : Tm → List Nat → Option Tm
  | t, [] => some t
  | t, i :: p => (t.kids[i]?).bind fun x => subAt x p
def putAt : Tm → List Nat → Tm → Tm
  | _, [], u => u
  | .mk n s L, i :: p, u => .mk n s (L.set i (putAt (L.getD i default) p u))
theorem lexG_set (g : Tm → Tm → Bool) (z : Tm) : ∀ (L : List Tm) (i : Nat), i < L.length → L.getD i default ≠ z → g (L.getD i default) z = true → lexG g L (L.set i z) = true
  | [], i, h, _, _ => by simp at h
  | a :: L, 0, _, hne, hg => by
    simp only [List.set_cons_zero, lexG]
    rw [if_neg (show ¬ a = z from hne)]
    exact hg
  | a :: L, i + 1, h, hne, hg => by
    simp only [List.set_cons_succ, lexG, if_true]
    exact lexG_set g z L i (by simpa using h) hne hg
theorem gt_context (r : By → Nat) (y x : Tm) : ∀ (p : List Nat) (a : Tm), NoP a → subAt a p = some x → gt r x y = true → gt r a (putAt a p y) = true
  | [], a, _, h, hg => by
    injection h with h
    subst h
    exact hg
  | i :: p, .mk n s L, hn, h, hg => by
    unfold subAt at h
    simp only [Tm.kids] at h
    cases hx : L[i]? with
    | none => rw [hx] at h; cases h
    | some x' =>
      rw [hx] at h
      have hi : i < L.length := (List.getElem?_eq_some_iff.1 hx).1
      have hxm : x' ∈ L := List.mem_of_getElem? hx
      have hd : L.getD i default = x' := by rw [List.getD_eq_getElem?_getD, hx]; rfl
      have hs : s = nul := by
        by_cases e : s = nul
        · exact e
        · have := hn (.mk n s L) (mem_sbts_self _) e
          simp only [Tm.kids] at this
          rw [this] at hi; simp at hi
      have ih := gt_context r y x p x' (hn.kid hxm) h hg
      unfold putAt
      rw [hd]
      refine (gt_iff r _ _).2 ⟨hs, .inr ⟨hs, fun k hk => ?_, .inl ⟨rfl, by simp [Tm.kids], ?_⟩⟩⟩
      · simp only [Tm.kids] at hk
        rcases List.mem_or_eq_of_mem_set hk with h1 | h1
        · exact gt_kid r hs h1
        · rw [h1]; exact gt_trans r (gt_kid r (s := .mk n s L) hs hxm) ih
      · refine lexG_set (gt r) _ L i hi ?_ ?_
        · rw [hd]; intro e; rw [← e, gt_irrefl] at ih; cases ih
        · rw [hd]; exact ih
/-- a proper part of a part is less -/
theorem gt_sub (r : By → Nat) (x : Tm) : ∀ (p : List Nat) (a : Tm), NoP a → p ≠ [] → subAt a p = some x → gt r a x = true
  | [], a, _, h, _ => absurd rfl h
  | i :: p, .mk n s L, hn, _, h => by
    unfold subAt at h
    simp only [Tm.kids] at h
    cases hx : L[i]? with
    | none => rw [hx] at h; cases h
    | some x' =>
      rw [hx] at h
      have hi : i < L.length := (List.getElem?_eq_some_iff.1 hx).1
      have hxm : x' ∈ L := List.mem_of_getElem? hx
      have hs : s = nul := by
        by_cases e : s = nul
        · exact e
        · have := hn (.mk n s L) (mem_sbts_self _) e
          simp only [Tm.kids] at this
          rw [this] at hi; simp at hi
      have h1 := gt_kid r (s := .mk n s L) hs hxm
      cases p with
      | nil => injection h with h; rw [← h]; exact h1
      | cons j p => exact gt_trans r h1 (gt_sub r x (j :: p) x' (hn.kid hxm) (by simp) h)
/-- of two different lists of parts one is greater, where each two parts can be compared -/
theorem lexG_total {g : Tm → Tm → Bool} : ∀ {L M : List Tm}, L.length = M.length → L ≠ M → (∀ a ∈ L, ∀ b ∈ M, a ≠ b → g a b = true ∨ g b a = true) → lexG g L M = true ∨ lexG g M L = true
  | [], [], _, h, _ => absurd rfl h
  | [], b :: M, h, _, _ => by simp at h
  | a :: L, [], h, _, _ => by simp at h
  | a :: L, b :: M, hl, hne, h => by
    unfold lexG
    by_cases e : a = b
    · subst e
      simp only [if_true]
      exact lexG_total (by simpa using hl) (fun h2 => hne (by rw [h2])) (fun x hx y hy => h x (List.mem_cons_of_mem _ hx) y (List.mem_cons_of_mem _ hy))
    · rw [if_neg e, if_neg (fun h2 => e h2.symm)]
      exact h a (List.mem_cons_self ..) b (List.mem_cons_self ..) e
/-- without variables, names with one rank and one number of parts each -/
structure Grd (r : By → Nat) (ar : By → Nat) (K : By → Prop) (t : Tm) : Prop where
  op : ∀ x ∈ sbts t, x.sort = nul
  ar : ∀ x ∈ sbts t, x.kids.length = ar x.name
  kn : ∀ x ∈ sbts t, K x.name
theorem Grd.kid {r ar : By → Nat} {K : By → Prop} {t x : Tm} (h : Grd r ar K t) (hx : x ∈ t.kids) : Grd r ar K x := ⟨fun y hy => h.op y (mem_sbts_kid hx hy), fun y hy => h.ar y (mem_sbts_kid hx hy), fun y hy => h.kn y (mem_sbts_kid hx hy)⟩
theorem gt_total {r ar : By → Nat} {K : By → Prop} (hr : ∀ a b, K a → K b → r a = r b → a = b) : ∀ (N : Nat) (s t : Tm), s.size + t.size ≤ N → Grd r ar K s → Grd r ar K t → s ≠ t → gt r s t = true ∨ gt r t s = true
  | 0, s, t, h, _, _, _ => by have := size_pos s; omega
  | N + 1, s, t, hN, hs, ht, hne => by
    have so := hs.op s (mem_sbts_self s)
    have to := ht.op t (mem_sbts_self t)
    by_cases h1 : ∃ k ∈ s.kids, k = t ∨ gt r k t = true
    · exact .inl ((gt_iff r s t).2 ⟨so, .inl h1⟩)
    by_cases h2 : ∃ k ∈ t.kids, k = s ∨ gt r k s = true
    · exact .inr ((gt_iff r t s).2 ⟨to, .inl h2⟩)
    have hts : ∀ k ∈ s.kids, gt r t k = true := fun k hk => by
      have hz := size_kid hk
      rcases gt_total hr N k t (by omega) (hs.kid hk) ht (fun e => h1 ⟨k, hk, .inl e⟩) with h | h
      · exact absurd ⟨k, hk, .inr h⟩ h1
      · exact h
    have hst : ∀ k ∈ t.kids, gt r s k = true := fun k hk => by
      have hz := size_kid hk
      rcases gt_total hr N k s (by omega) (ht.kid hk) hs (fun e => h2 ⟨k, hk, .inl e⟩) with h | h
      · exact absurd ⟨k, hk, .inr h⟩ h2
      · exact h
    by_cases hn : s.name = t.name
    · have hl : s.kids.length = t.kids.length := by rw [hs.ar s (mem_sbts_self s), ht.ar t (mem_sbts_self t), hn]
      have hk : s.kids ≠ t.kids := fun e => hne (by rw [← eta s, ← eta t, hn, so, to, e])
      rcases lexG_total (g := gt r) hl hk (fun a ha b hb hab => by
        have z1 := size_kid ha
        have z2 := size_kid hb
        exact gt_total hr N a b (by omega) (hs.kid ha) (ht.kid hb) hab) with h | h
      · exact .inl ((gt_iff r s t).2 ⟨so, .inr ⟨to, hst, .inl ⟨hn, hl, h⟩⟩⟩)
      · exact .inr ((gt_iff r t s).2 ⟨to, .inr ⟨so, hts, .inl ⟨hn.symm, hl.symm, h⟩⟩⟩)
    · rcases Nat.lt_trichotomy (r s.name) (r t.name) with h | h | h
      · exact .inl ((gt_iff r s t).2 ⟨so, .inr ⟨to, hst, .inr ⟨hn, h⟩⟩⟩)
      · exact absurd (hr _ _ (hs.kn s (mem_sbts_self s)) (ht.kn t (mem_sbts_self t)) h) hn
      · exact .inr ((gt_iff r t s).2 ⟨to, .inr ⟨so, hts, .inr ⟨fun e => hn e.symm, h⟩⟩⟩)
/- a substitution: what stands for a variable -/
mutual
def sbT (σ : By → By → Tm) : Tm → Tm
  | .mk n s L => if s = nul then .mk n s (sbs σ L) else σ n s
def sbs (σ : By → By → Tm) : List Tm → List Tm
  | [] => []
  | a :: L => sbT σ a :: sbs σ L
end
theorem sbs_map (σ : By → By → Tm) : ∀ L, sbs σ L = L.map (sbT σ)
  | [] => rfl
  | a :: L => by simp [sbs, sbs_map σ L]
theorem sbT_op (σ : By → By → Tm) {t : Tm} (h : t.sort = nul) : sbT σ t = .mk t.name nul (t.kids.map (sbT σ)) := by
  obtain ⟨n, s, L⟩ := t
  have h' : s = nul := h
  subst h'
  unfold sbT
  rw [if_pos rfl, sbs_map]
  rfl
theorem lexG_map {r : By → Nat} {f : Tm → Tm} : ∀ {L M : List Tm}, (∀ a ∈ L, ∀ b ∈ M, gt r a b = true → gt r (f a) (f b) = true) → lexG (gt r) L M = true → lexG (gt r) (L.map f) (M.map f) = true
  | [], _, _, h => by cases h
  | a :: L, [], _, h => by cases h
  | a :: L, b :: M, hm, h => by
    unfold lexG at h
    simp only [List.map_cons, lexG]
    by_cases e : a = b
    · subst e
      rw [if_pos rfl] at h ⊢
      exact lexG_map (fun x hx y hy => hm x (List.mem_cons_of_mem _ hx) y (List.mem_cons_of_mem _ hy)) h
    · rw [if_neg e] at h
      have h2 := hm a (List.mem_cons_self ..) b (List.mem_cons_self ..) h
      rw [if_neg (fun e2 => by rw [e2, gt_irrefl] at h2; cases h2)]
      exact h2
theorem gt_subst (r : By → Nat) (σ : By → By → Tm) : ∀ (N : Nat) (s t : Tm), s.size + t.size ≤ N → gt r s t = true → gt r (sbT σ s) (sbT σ t) = true
  | 0, s, t, h, _ => by have := size_pos s; omega
  | N + 1, s, t, hN, hg => by
    obtain ⟨hs, h⟩ := (gt_iff r s t).1 hg
    rw [sbT_op σ hs]
    refine (gt_iff r _ _).2 ⟨rfl, ?_⟩
    rcases h with ⟨k, hk, e⟩ | ⟨ht, hall, hnm⟩
    · refine .inl ⟨sbT σ k, List.mem_map_of_mem hk, ?_⟩
      have hz := size_kid hk
      rcases e with e | e
      · exact .inl (by rw [e])
      · exact .inr (gt_subst r σ N k t (by omega) e)
    · rw [sbT_op σ ht]
      refine .inr ⟨rfl, fun k hk => ?_, ?_⟩
      · obtain ⟨x, hx, rfl⟩ := List.mem_map.1 hk
        have hz := size_kid hx
        have h1 := gt_subst r σ N s x (by omega) (hall x hx)
        rw [sbT_op σ hs] at h1
        exact h1
      · rcases hnm with ⟨e1, l1, x1⟩ | ⟨e1, x1⟩
        · refine .inl ⟨e1, by simp only [Tm.kids, List.length_map]; exact l1, ?_⟩
          exact lexG_map (fun a ha b hb h3 => by
            have z1 := size_kid ha
            have z2 := size_kid hb
            exact gt_subst r σ N a b (by omega) h3) x1
        · exact .inr ⟨e1, x1⟩
end Go.Hw

/- Numbered terms, their keys, and the path order by numbers: pure. -/
namespace Go.Hw
open Tm
set_option linter.unusedVariables false
set_option linter.unusedSimpArgs false
/-- a term with the numbers of its parts -/
abbrev Nt := Tm × List Nat
abbrev ng (N : List Nt) (i : Nat) : Nt := N.getD i (default, [])
structure Num (N : List Nt) : Prop where
  kid : ∀ i, i < N.length → ∀ k ∈ (ng N i).2, k < i
  map : ∀ i, i < N.length → (ng N i).2.map (fun k => (ng N k).1) = (ng N i).1.kids
theorem ng_left {N : List Nt} (M : List Nt) {i : Nat} (h : i < N.length) : ng (N ++ M) i = ng N i := by
  unfold ng
  rw [List.getD_eq_getElem?_getD, List.getD_eq_getElem?_getD, List.getElem?_append_left h]
theorem ng_last (N : List Nt) (x : Nt) : ng (N ++ [x]) N.length = x := by
  unfold ng
  rw [List.getD_eq_getElem?_getD, List.getElem?_concat_length]
  rfl
theorem ng_pre {N N' : List Nt} (h : N <+: N') {i : Nat} (hi : i < N.length) : ng N' i = ng N i := by
  obtain ⟨M, rfl⟩ := h
  exact ng_left M hi
theorem Num.nil : Num [] := ⟨fun i h => by simp at h, fun i h => by simp at h⟩
theorem Num.snoc {N : List Nt} (h : Num N) (t : Tm) (ks : List Nat) (h1 : ∀ k ∈ ks, k < N.length) (h2 : ks.map (fun k => (ng N k).1) = t.kids) : Num (N ++ [(t, ks)]) := by
  have hm : ∀ (l : List Nat), (∀ k ∈ l, k < N.length) → l.map (fun k => (ng (N ++ [(t, ks)]) k).1) = l.map (fun k => (ng N k).1) := fun l hl =>
    List.map_congr_left fun k hk => by rw [ng_left _ (hl k hk)]
  refine ⟨fun i hi k hk => ?_, fun i hi => ?_⟩
  · rw [List.length_append, List.length_singleton] at hi
    by_cases hl : i < N.length
    · rw [ng_left _ hl] at hk
      exact h.kid i hl k hk
    · obtain rfl : i = N.length := by omega
      rw [ng_last] at hk
      exact h1 k hk
  · rw [List.length_append, List.length_singleton] at hi
    by_cases hl : i < N.length
    · rw [ng_left _ hl, hm _ (fun k hk => Nat.lt_trans (h.kid i hl k hk) hl)]
      exact h.map i hl
    · obtain rfl : i = N.length := by omega
      rw [ng_last, hm _ h1]
      exact h2
/-- no term has two numbers -/
def Uniq (N : List Nt) : Prop := ∀ i j, i < N.length → j < N.length → (ng N i).1 = (ng N j).1 → i = j
theorem Uniq.nil : Uniq [] := fun i j h => by simp at h
theorem Uniq.snoc {N : List Nt} (h : Uniq N) (t : Tm) (ks : List Nat) (hn : ∀ i, i < N.length → (ng N i).1 ≠ t) : Uniq (N ++ [(t, ks)]) := by
  intro i j hi hj e
  rw [List.length_append, List.length_singleton] at hi hj
  by_cases h1 : i < N.length
  · rw [ng_left _ h1] at e
    by_cases h2 : j < N.length
    · rw [ng_left _ h2] at e
      exact h i j h1 h2 e
    · obtain rfl : j = N.length := by omega
      rw [ng_last] at e
      exact absurd e (hn i h1)
  · obtain rfl : i = N.length := by omega
    rw [ng_last] at e
    by_cases h2 : j < N.length
    · rw [ng_left _ h2] at e
      exact absurd e.symm (hn j h2)
    · omega
/-! ### keys -/
def nstr (n : Nat) : By := ⟨(Lib.itoa (n : Int)).toArray⟩
theorem nstr_list (n : Nat) : (nstr n).data.toList = Lib.decDigits n := by
  unfold nstr Lib.itoa
  rw [if_neg (by omega)]
  simp
def colonB : By := ⟨#[58]⟩
def spB : By := ⟨#[32]⟩
def keyK (n s : By) (ks : List Nat) : By := ks.foldl (fun b k => b ++ (spB ++ nstr k)) ((n ++ colonB) ++ s)
theorem keyK_snoc (n s : By) (ks : List Nat) (k : Nat) : keyK n s (ks ++ [k]) = keyK n s ks ++ (spB ++ nstr k) := by
  unfold keyK
  rw [List.foldl_append]
  rfl
def keyT (ks : List Nat) : List UInt8 := ks.flatMap fun k => 32 :: Lib.decDigits k
theorem app_list (a b : By) : (a ++ b).data.toList = a.data.toList ++ b.data.toList := by
  rw [ByteArray.data_append, Array.toList_append]
theorem keyK_list (n s : By) : ∀ (ks : List Nat), (keyK n s ks).data.toList = n.data.toList ++ 58 :: (s.data.toList ++ keyT ks) := by
  have h : ∀ (ks : List Nat) (b : By), (ks.foldl (fun b k => b ++ (spB ++ nstr k)) b).data.toList = b.data.toList ++ keyT ks := by
    intro ks
    induction ks with
    | nil => intro b; simp [keyT]
    | cons k ks ih =>
      intro b
      rw [List.foldl_cons, ih, app_list, app_list, nstr_list]
      simp [keyT, spB]
  intro ks
  unfold keyK
  rw [h, app_list, app_list]
  simp [colonB]
theorem split_uniq (c : UInt8) : ∀ {a a' b b' : List UInt8}, c ∉ a → c ∉ a' → a ++ c :: b = a' ++ c :: b' → a = a' ∧ b = b'
  | [], [], b, b', _, _, h => by
    injection h with _ h
    exact ⟨rfl, h⟩
  | [], x :: a', b, b', _, h2, h => by
    injection h with h _
    exact absurd (by rw [h]; exact List.mem_cons_self ..) h2
  | x :: a, [], b, b', h1, _, h => by
    injection h with h _
    exact absurd (by rw [h]; exact List.mem_cons_self ..) h1
  | x :: a, y :: a', b, b', h1, h2, h => by
    injection h with e h
    obtain ⟨r1, r2⟩ := split_uniq c (fun hh => h1 (List.mem_cons_of_mem _ hh)) (fun hh => h2 (List.mem_cons_of_mem _ hh)) h
    exact ⟨by rw [e, r1], r2⟩
/-- empty, or beginning with c -/
def Beg (c : UInt8) (l : List UInt8) : Prop := l = [] ∨ ∃ m, l = c :: m
theorem split_beg (c : UInt8) : ∀ {a a' b b' : List UInt8}, c ∉ a → c ∉ a' → Beg c b → Beg c b' → a ++ b = a' ++ b' → a = a' ∧ b = b'
  | [], [], b, b', _, _, _, _, h => ⟨rfl, h⟩
  | [], x :: a', b, b', _, h2, hb, _, h => by
    rcases hb with rfl | ⟨m, rfl⟩
    · simp at h
    · injection h with h _
      exact absurd (by rw [h]; exact List.mem_cons_self ..) h2
  | x :: a, [], b, b', h1, _, _, hb, h => by
    rcases hb with rfl | ⟨m, rfl⟩
    · simp at h
    · injection h with h _
      exact absurd (by rw [h]; exact List.mem_cons_self ..) h1
  | x :: a, y :: a', b, b', h1, h2, hb, hb', h => by
    injection h with e h
    obtain ⟨r1, r2⟩ := split_beg c (fun hh => h1 (List.mem_cons_of_mem _ hh)) (fun hh => h2 (List.mem_cons_of_mem _ hh)) hb hb' h
    exact ⟨by rw [e, r1], r2⟩
theorem keyT_beg (ks : List Nat) : Beg 32 (keyT ks) := by
  cases ks with
  | nil => exact .inl rfl
  | cons k ks => exact .inr ⟨_, rfl⟩
def valD (l : List UInt8) : Nat := l.foldl (fun a c => 10 * a + (c.toNat - 48)) 0
theorem dig_nat (k : Nat) (h : k < 10) : (UInt8.ofNat (48 + k)).toNat = 48 + k := by
  rw [UInt8.toNat_ofNat']
  omega
theorem valD_dec (m : Nat) : valD (Lib.decDigits m) = m := by
  induction m using Nat.strongRecOn with
  | _ m ih =>
    rw [Lib.decDigits]
    split
    · rename_i h
      unfold valD
      simp only [List.foldl_cons, List.foldl_nil]
      rw [dig_nat m h]
      omega
    · rename_i h
      have h1 := ih (m / 10) (by omega)
      unfold valD at h1 ⊢
      rw [List.foldl_append, h1]
      simp only [List.foldl_cons, List.foldl_nil]
      rw [dig_nat (m % 10) (by omega)]
      omega
theorem dec_inj {m n : Nat} (h : Lib.decDigits m = Lib.decDigits n) : m = n := by rw [← valD_dec m, h, valD_dec]
theorem dec_nosp (m : Nat) : (32 : UInt8) ∉ Lib.decDigits m := by
  induction m using Nat.strongRecOn with
  | _ m ih =>
    rw [Lib.decDigits]
    split
    · rename_i h
      intro hm
      rw [List.mem_singleton] at hm
      have := congrArg UInt8.toNat hm
      rw [dig_nat m h] at this
      have h2 : (32 : UInt8).toNat = 32 := rfl
      omega
    · rename_i h
      intro hm
      rw [List.mem_append, List.mem_singleton] at hm
      rcases hm with hm | hm
      · exact ih (m / 10) (by omega) hm
      · have := congrArg UInt8.toNat hm
        rw [dig_nat (m % 10) (by omega)] at this
        have h2 : (32 : UInt8).toNat = 32 := rfl
        omega
theorem keyT_inj : ∀ {ks ks' : List Nat}, keyT ks = keyT ks' → ks = ks'
  | [], [], _ => rfl
  | [], k :: ks, h => by simp [keyT] at h
  | k :: ks, [], h => by simp [keyT] at h
  | k :: ks, j :: js, h => by
    have h' : Lib.decDigits k ++ keyT ks = Lib.decDigits j ++ keyT js := by
      simpa [keyT] using h
    obtain ⟨e1, e2⟩ := split_beg 32 (dec_nosp k) (dec_nosp j) (keyT_beg ks) (keyT_beg js) h'
    rw [dec_inj e1, keyT_inj e2]
/-- neither a colon nor a space -/
def NoCS (b : By) : Prop := (58 : UInt8) ∉ b.data.toList ∧ (32 : UInt8) ∉ b.data.toList
theorem NoCS.nul : NoCS nul := ⟨by simp [Go.Hw.nul], by simp [Go.Hw.nul]⟩
theorem bytes_ext {a b : By} (h : a.data.toList = b.data.toList) : a = b := by
  cases a; cases b
  simp only [ByteArray.mk.injEq]
  exact Array.toList_inj.1 h
theorem keyK_inj {n s n' s' : By} {ks ks' : List Nat} (h1 : NoCS n) (h2 : NoCS s) (h1' : NoCS n') (h2' : NoCS s') (h : keyK n s ks = keyK n' s' ks') : n = n' ∧ s = s' ∧ ks = ks' := by
  have h3 := congrArg (fun b : By => b.data.toList) h
  simp only [keyK_list] at h3
  obtain ⟨e1, e2⟩ := split_uniq 58 h1.1 h1'.1 h3
  obtain ⟨e3, e4⟩ := split_beg 32 h2.2 h2'.2 (keyT_beg ks) (keyT_beg ks') e2
  exact ⟨bytes_ext e1, bytes_ext e3, keyT_inj e4⟩
/-! ### the order, case by case -/
theorem gt_leaf (r : By → Nat) {s t : Tm} (h : s.sort ≠ nul) : gt r s t = false := by
  rw [Bool.eq_false_iff]
  exact fun h2 => h ((gt_iff r s t).1 h2).1
theorem gt_cov (r : By → Nat) {s t k : Tm} (hs : s.sort = nul) (hk : k ∈ s.kids) (h : k = t ∨ gt r k t = true) : gt r s t = true := (gt_iff r s t).2 ⟨hs, .inl ⟨k, hk, h⟩⟩
theorem gt_var (r : By → Nat) {s t : Tm} (hn : ¬ Cov r s t) (ht : t.sort ≠ nul) : gt r s t = false := by
  rw [Bool.eq_false_iff]
  intro h
  rcases ((gt_iff r s t).1 h).2 with h | h
  · exact hn h
  · exact ht h.1
theorem gt_part (r : By → Nat) {s t k : Tm} (hn : ¬ Cov r s t) (hk : k ∈ t.kids) (h : gt r s k = false) : gt r s t = false := by
  rw [Bool.eq_false_iff]
  intro h2
  rcases ((gt_iff r s t).1 h2).2 with h3 | h3
  · exact hn h3
  · rw [h3.2.1 k hk] at h; cases h
theorem gt_name (r : By → Nat) {s t : Tm} (hn : ¬ Cov r s t) (hs : s.sort = nul) (ht : t.sort = nul) (ha : ∀ k ∈ t.kids, gt r s k = true) (hne : s.name ≠ t.name) : gt r s t = decide (r s.name < r t.name) := by
  rw [Bool.eq_iff_iff, gt_iff, decide_eq_true_eq]
  constructor
  · rintro ⟨_, h | ⟨_, _, h | h⟩⟩
    · exact absurd h hn
    · exact absurd h.1 hne
    · exact h.2
  · exact fun h => ⟨hs, .inr ⟨ht, ha, .inr ⟨hne, h⟩⟩⟩
theorem gt_len (r : By → Nat) {s t : Tm} (hn : ¬ Cov r s t) (he : s.name = t.name) (hl : s.kids.length ≠ t.kids.length) : gt r s t = false := by
  rw [Bool.eq_false_iff]
  intro h
  rcases ((gt_iff r s t).1 h).2 with h | ⟨_, _, h | h⟩
  · exact hn h
  · exact hl h.2.1
  · exact h.1 he
theorem gt_lex (r : By → Nat) {s t : Tm} (hn : ¬ Cov r s t) (hs : s.sort = nul) (ht : t.sort = nul) (ha : ∀ k ∈ t.kids, gt r s k = true) (he : s.name = t.name) (hl : s.kids.length = t.kids.length) : gt r s t = lexG (gt r) s.kids t.kids := by
  rw [Bool.eq_iff_iff, gt_iff]
  constructor
  · rintro ⟨_, h | ⟨_, _, h | h⟩⟩
    · exact absurd h hn
    · exact h.2.2
    · exact absurd he h.1
  · exact fun h => ⟨hs, .inr ⟨ht, ha, .inl ⟨he, hl, h⟩⟩⟩
theorem lexG_at (g : Tm → Tm → Bool) : ∀ (i : Nat) (L M : List Tm), i < L.length → i < M.length → (∀ j, j < i → tg L j = tg M j) → tg L i ≠ tg M i → lexG g L M = g (tg L i) (tg M i)
  | _, [], _, h, _, _, _ => by simp at h
  | _, a :: L, [], _, h, _, _ => by simp at h
  | 0, a :: L, b :: M, _, _, _, h => by
    unfold lexG
    exact if_neg h
  | i + 1, a :: L, b :: M, h1, h2, he, hne => by
    unfold lexG
    have h0 : a = b := he 0 (by omega)
    rw [if_pos h0]
    exact lexG_at g i L M (by simpa using h1) (by simpa using h2) (fun j hj => he (j + 1) (by omega)) hne
theorem lexG_all (g : Tm → Tm → Bool) {L M : List Tm} (hl : L.length = M.length) (he : ∀ j, j < L.length → tg L j = tg M j) : lexG g L M = false := by
  have : L = M := List.ext_getElem hl (fun j h1 h2 => by
    have := he j h1
    unfold tg at this
    rwa [List.getD_eq_getElem?_getD, List.getD_eq_getElem?_getD, List.getElem?_eq_getElem h1, List.getElem?_eq_getElem h2] at this)
  rw [this]
  exact lexG_irrefl g M
/- a variable occurs -/
mutual
def occ (v : Tm) : Tm → Bool
  | .mk n s L => if s = nul then occs v L else decide (n = v.name) && decide (s = v.sort)
def occs (v : Tm) : List Tm → Bool
  | [] => false
  | a :: L => occ v a || occs v L
end
theorem occs_any (v : Tm) : ∀ L, occs v L = L.any (occ v)
  | [] => rfl
  | a :: L => by rw [occs, List.any_cons, occs_any v L]
theorem occ_iff (r : By → Nat) {v : Tm} (hv : v.sort ≠ nul) (hk : v.kids = []) : ∀ s : Tm, NoP s → (occ v s = true ↔ s = v ∨ gt r s v = true) := by
  refine ind (fun n s L ih hn => ?_)
  unfold occ
  by_cases hs : s = nul
  · rw [if_pos hs, occs_any, List.any_eq_true]
    constructor
    · rintro ⟨x, hx, ho⟩
      exact .inr (gt_cov r hs hx ((ih x hx (hn.kid hx)).1 ho))
    · rintro (h | h)
      · exact absurd (by rw [← h]; exact hs) hv
      · rcases ((gt_iff r _ _).1 h).2 with ⟨k, hk, h2⟩ | h2
        · exact ⟨k, hk, (ih k hk (hn.kid hk)).2 h2⟩
        · exact absurd h2.1 hv
  · rw [if_neg hs, gt_leaf r (show (Tm.mk n s L).sort ≠ nul from hs), Bool.and_eq_true, decide_eq_true_eq, decide_eq_true_eq]
    have hL : L = [] := hn _ (mem_sbts_self _) hs
    constructor
    · rintro ⟨h1, h2⟩
      refine .inl ?_
      rw [← eta v, ← h1, ← h2, hk, hL]
    · rintro (h | h)
      · rw [← h]; exact ⟨rfl, rfl⟩
      · cases h
theorem gt_occ (r : By → Nat) {s t : Tm} (hn : ¬ Cov r s t) (hs : s.sort = nul) (ht : t.sort ≠ nul) (hk : t.kids = []) (hp : NoP s) : gt r s t = occ t s := by
  rw [gt_var r hn ht]
  refine (Bool.eq_false_iff.2 fun h => ?_).symm
  rcases (occ_iff r ht hk s hp).1 h with h2 | h2
  · exact ht (by rw [← h2]; exact hs)
  · rw [gt_var r hn ht] at h2; cases h2
end Go.Hw

/- Lists of lists in memory. -/
namespace Go.Hw
open Go.RowKit Tm
set_option linter.unusedVariables false
set_option linter.unusedSimpArgs false
abbrev natV (k : Nat) : Value := .int .i64 (k : Int)
theorem SlR.one_at {β : Type} {enc : β → Value} {d : β} {S : Nat → Prop} {w : World} {a : Option Addr} {n cap : Nat} {l : List β} (h : SlR S w 1 (.slice a n cap) l.length (l.map enc)) (hl : 0 < l.length) :
    ∃ g off, a = some ⟨g, off, none⟩ ∧ S g ∧ ∀ i, i < l.length → w.cell? ⟨g, off + i, none⟩ = some (enc (l.getD i d)) := by
  obtain ⟨g, off, c, e, _, hS, hj⟩ := SlR.pos h hl
  injection e with e1 e2 e3
  refine ⟨g, off, e1, hS, fun i hi => ?_⟩
  rw [hj i (by omega), List.getElem?_map, List.getElem?_eq_getElem hi, List.getD_eq_getElem?_getD, List.getElem?_eq_getElem hi]
  rfl
/-- a list of lists that is read -/
def LlR {β : Type} (enc : β → Value) (S : Nat → Prop) (w : World) (v : Value) (LL : List (List β)) : Prop :=
  ∃ us : List Value, us.length = LL.length ∧ SlR S w 1 v LL.length us ∧ ∀ i, i < LL.length → SlR S w 1 (ug us i) (LL.getD i []).length ((LL.getD i []).map enc)
section
variable {β : Type} {enc : β → Value} {S T F : Nat → Prop} {w w' : World} {v : Value} {LL : List (List β)}
theorem LlR.shape (h : LlR enc S w v LL) : ∃ a cap, v = .slice a LL.length cap := by
  obtain ⟨us, _, h, _⟩ := h
  exact h.shape
theorem LlR.kept (h : LlR enc S w v LL) (hu : Upd F w w') (hF : ∀ k, S k → ¬ F k) : LlR enc S w' v LL := by
  obtain ⟨us, h1, h2, h3⟩ := h
  exact ⟨us, h1, h2.kept hu hF, fun i hi => (h3 i hi).kept hu hF⟩
theorem LlR.ext (h : LlR enc S w v LL) (hu : Ext w w') : LlR enc S w' v LL := h.kept hu (fun _ _ h => h)
theorem LlR.weaken (h : LlR enc S w v LL) (hs : ∀ k, S k → T k) : LlR enc T w v LL := by
  obtain ⟨us, h1, h2, h3⟩ := h
  exact ⟨us, h1, h2.weaken hs, fun i hi => (h3 i hi).weaken hs⟩
theorem LlR.at_ {a : Option Addr} {n cap : Nat} (h : LlR enc S w (.slice a n cap) LL) (hl : 0 < LL.length) :
    ∃ g off, a = some ⟨g, off, none⟩ ∧ S g ∧ ∀ i, i < LL.length → ∃ a' cap', w.cell? ⟨g, off + i, none⟩ = some (.slice a' (LL.getD i []).length cap') ∧ SlR S w 1 (.slice a' (LL.getD i []).length cap') (LL.getD i []).length ((LL.getD i []).map enc) := by
  obtain ⟨us, h1, h2, h3⟩ := h
  obtain ⟨g, off, c, e, _, hS, hj⟩ := h2.pos hl
  injection e with e1 e2 e3
  refine ⟨g, off, e1, hS, fun i hi => ?_⟩
  have h4 := h3 i hi
  obtain ⟨a', cap', e'⟩ := h4.shape
  rw [e'] at h4
  refine ⟨a', cap', ?_, h4⟩
  rw [hj i (by omega), ← e']
  unfold ug
  rw [List.getD_eq_getElem?_getD, List.getElem?_eq_getElem (by omega)]
  rfl
end
theorem ng_map1 (N : List Nt) (i : Nat) (h : i < N.length) : tg (N.map (·.1)) i = (ng N i).1 := by
  unfold tg ng
  rw [List.getD_eq_getElem?_getD, List.getD_eq_getElem?_getD, List.getElem?_map, List.getElem?_eq_getElem h]
  rfl
theorem ng_map2 (N : List Nt) (i : Nat) (h : i < N.length) : (N.map (·.2)).getD i [] = (ng N i).2 := by
  unfold ng
  rw [List.getD_eq_getElem?_getD, List.getD_eq_getElem?_getD, List.getElem?_map, List.getElem?_eq_getElem h]
  rfl
/-- the parts by their numbers -/
theorem Num.part {N : List Nt} (h : Num N) {i : Nat} (hi : i < N.length) {k : Nat} (hk : k < (ng N i).2.length) : (ng N i).2.getD k 0 < i ∧ (ng N ((ng N i).2.getD k 0)).1 = tg (ng N i).1.kids k := by
  have h1 := h.map i hi
  have h2 := h.kid i hi
  generalize (ng N i).2 = ks at *
  generalize (ng N i).1.kids = L at *
  have hg : ks.getD k 0 = ks[k] := by rw [List.getD_eq_getElem?_getD, List.getElem?_eq_getElem hk]; rfl
  refine ⟨h2 _ (by rw [hg]; exact List.getElem_mem hk), ?_⟩
  rw [hg, ← h1]
  show _ = (ks.map (fun k => (ng N k).1)).getD k default
  rw [List.getD_eq_getElem?_getD, List.getElem?_map, List.getElem?_eq_getElem hk]
  rfl
theorem Num.len {N : List Nt} (h : Num N) {i : Nat} (hi : i < N.length) : (ng N i).2.length = (ng N i).1.kids.length := by rw [← h.map i hi, List.length_map]
theorem not_cov_of {r : By → Nat} {s t : Tm} (h : ∀ j, j < s.kids.length → ¬ (tg s.kids j = t ∨ gt r (tg s.kids j) t = true)) : ¬ Cov r s t := by
  rintro ⟨k, hk, h2⟩
  obtain ⟨i, hi, rfl⟩ := List.mem_iff_getElem.1 hk
  have h3 : tg s.kids i = s.kids[i] := by unfold tg; rw [List.getD_eq_getElem?_getD, List.getElem?_eq_getElem hi]; rfl
  exact h i hi (by rw [h3]; exact h2)
theorem all_of_tg {P : Tm → Prop} {L : List Tm} (h : ∀ j, j < L.length → P (tg L j)) : ∀ k ∈ L, P k := by
  intro k hk
  obtain ⟨i, hi, rfl⟩ := List.mem_iff_getElem.1 hk
  have h3 : tg L i = L[i] := by unfold tg; rw [List.getD_eq_getElem?_getD, List.getElem?_eq_getElem hi]; rfl
  rw [← h3]
  exact h i hi
theorem tg_in {L : List Tm} {k : Nat} (h : k < L.length) : tg L k ∈ L := by
  unfold tg; rw [List.getD_eq_getElem?_getD, List.getElem?_eq_getElem h]; exact List.getElem_mem h
abbrev bt (T : List (List Bool)) (p q : Nat) : Bool := (T.getD p []).getD q false
end Go.Hw

/- Maps in memory, as lists of entries in the order in which they came. -/
namespace Go.Hw
open Go.RowKit
set_option linter.unusedVariables false
set_option linter.unusedSimpArgs false
section
variable {κ : Type} [DecidableEq κ]
def afind (l : List (κ × Value)) (k : κ) : Option Value := (l.find? fun p => decide (p.1 = k)).map (·.2)
def aput (l : List (κ × Value)) (k : κ) (v : Value) : List (κ × Value) :=
  match l with
  | [] => [(k, v)]
  | p :: l => if p.1 = k then (k, v) :: l else p :: aput l k v
theorem afind_cons (p : κ × Value) (l : List (κ × Value)) (k : κ) : afind (p :: l) k = if p.1 = k then some p.2 else afind l k := by
  unfold afind
  rw [List.find?_cons]
  by_cases h : p.1 = k
  · rw [if_pos h, decide_eq_true h]; rfl
  · rw [if_neg h, decide_eq_false h]
theorem afind_put (l : List (κ × Value)) (k j : κ) (v : Value) : afind (aput l k v) j = if j = k then some v else afind l j := by
  induction l with
  | nil =>
    unfold aput
    rw [afind_cons]
    by_cases h : j = k
    · rw [if_pos h, if_pos h.symm]
    · rw [if_neg h, if_neg (fun e => h e.symm)]
  | cons p l ih =>
    unfold aput
    by_cases h : p.1 = k
    · rw [if_pos h, afind_cons, afind_cons]
      by_cases h2 : j = k
      · rw [if_pos h2, if_pos h2.symm]
      · rw [if_neg h2, if_neg (fun e => h2 e.symm), if_neg (fun e => h2 (by rw [← e, h]))]
    · rw [if_neg h, afind_cons, afind_cons, ih]
      by_cases h2 : j = k
      · subst h2; rw [if_neg h, if_pos rfl, if_pos rfl]
      · rw [if_neg h2, if_neg h2]
theorem aput_len (l : List (κ × Value)) (k : κ) (v : Value) : (aput l k v).length ≤ l.length + 1 := by
  induction l with
  | nil => simp [aput]
  | cons p l ih =>
    unfold aput
    split
    · simp
    · simp; omega
/-- keys that the machine finds -/
structure KeyEnc (P : Program) (kt : TypeId) (enc : κ → Value) : Prop where
  check : ∀ b x W, (Instr.checkKey b 10000 kt (enc x)).run P W = .ok () W
  find : ∀ x (es : List MapEntry) (l : List (κ × Value)) W, es.map (fun e => (e.key, e.val)) = l.map (fun p => (enc p.1, p.2)) →
    (Instr.findKey kt (enc x) es).run P W = .ok ((l.findIdx? fun p => decide (p.1 = x)).map fun i => (i, ((l[i]?).map (·.2)).getD (.bool false))) W
  same : ∀ x, Instr.sameBits 10000 (enc x) (enc x) = true
def MpR (enc : κ → Value) (w : World) (b : Nat) (l : List (κ × Value)) : Prop :=
  ∃ es clock, w.heap[b]? = some (.map es clock) ∧ es.toList.map (fun e => (e.key, e.val)) = l.map (fun p => (enc p.1, p.2)) ∧ es.toList.Pairwise (fun x y => x.born < y.born) ∧ ∀ e ∈ es.toList, e.born < clock
omit [DecidableEq κ] in
theorem MpR.made (enc : κ → Value) (w : World) : MpR enc (w.alloc (.map #[] 0)) w.heap.size [] := ⟨#[], 0, alloc0 _ _, rfl, List.Pairwise.nil, fun _ h => by cases h⟩
omit [DecidableEq κ] in
theorem MpR.kept {enc : κ → Value} {F : Nat → Prop} {w w' : World} {b : Nat} {l : List (κ × Value)} (h : MpR enc w b l) (hu : Upd F w w') (hF : ¬ F b) : MpR enc w' b l := by
  obtain ⟨es, c, h1, h2⟩ := h
  exact ⟨es, c, hu.heap h1 hF, h2⟩
omit [DecidableEq κ] in
theorem MpR.ext {enc : κ → Value} {w w' : World} {b : Nat} {l : List (κ × Value)} (h : MpR enc w b l) (hu : Ext w w') : MpR enc w' b l := h.kept hu (fun h => h)
omit [DecidableEq κ] in
theorem MpR.lt {enc : κ → Value} {w : World} {b : Nat} {l : List (κ × Value)} (h : MpR enc w b l) : b < w.heap.size := by
  obtain ⟨es, c, h1, _⟩ := h
  exact (Array.getElem?_eq_some_iff.1 h1).1
theorem idx_find (l : List (κ × Value)) (k : κ) : (l.findIdx? fun p => decide (p.1 = k)).map (fun i => ((l[i]?).map (·.2)).getD (.bool false)) = afind l k := by
  induction l with
  | nil => rfl
  | cons p l ih =>
    rw [List.findIdx?_cons, afind_cons]
    by_cases h : p.1 = k
    · rw [if_pos h, decide_eq_true h]
      rfl
    · rw [if_neg h, decide_eq_false h, ← ih]
      simp only [Bool.false_eq_true, if_false, Option.map_map]
      rfl
theorem MpR.get {P : Program} {enc : κ → Value} {kt et t : TypeId} (K : KeyEnc P kt enc) (ht : P.underlying t = some (.map kt et)) {w : World} {b : Nat} {l : List (κ × Value)} {z : Value} (hz : (zeroValue et).run P w = .ok z w) (h : MpR enc w b l) (k : κ) (c : Bool) :
    (Instr.lookup t (.map (some b)) (enc k) c).run P w = .ok (if c then .tuple #[(afind l k).getD z, .bool (afind l k).isSome] else (afind l k).getD z) w := by
  obtain ⟨es, cl, h1, h2, _⟩ := h
  have hf := K.find k es.toList l w h2
  have hc := K.check es.isEmpty k w
  rw [← idx_find]
  generalize hx : (l.findIdx? fun p => decide (p.1 = k)) = x at *
  cases x with
  | none => cases c <;> simp [Instr.lookup, run_underlying ht, MapKept.run_getObj_map h1, hc, hf, hz, Result.andThen]
  | some i => cases c <;> simp [Instr.lookup, run_underlying ht, MapKept.run_getObj_map h1, hc, hf, hz, Result.andThen]
theorem aput_idx (l : List (κ × Value)) (k : κ) (v : Value) : aput l k v = match l.findIdx? fun p => decide (p.1 = k) with | some i => l.set i (k, v) | none => l ++ [(k, v)] := by
  induction l with
  | nil => rfl
  | cons p l ih =>
    unfold aput
    rw [List.findIdx?_cons]
    by_cases h : p.1 = k
    · rw [if_pos h, decide_eq_true h]
      rfl
    · rw [if_neg h, decide_eq_false h, ih]
      cases (l.findIdx? fun p => decide (p.1 = k)) <;> rfl
theorem MpR.put {P : Program} {enc : κ → Value} {kt et t : TypeId} (K : KeyEnc P kt enc) (ht : P.underlying t = some (.map kt et)) {w : World} {b : Nat} {l : List (κ × Value)} (h : MpR enc w b l) (k : κ) (v : Value) :
    ∃ w', (Instr.mapUpdate t (.map (some b)) (enc k) v).run P w = .ok () w' ∧ MpR enc w' b (aput l k v) ∧ Upd (fun j => j = b) w w' := by
  obtain ⟨es, cl, h1, h2, h3, h4⟩ := h
  have hf := K.find k es.toList l w h2
  have hc := K.check false k w
  have hblt := (Array.getElem?_eq_some_iff.1 h1).1
  have hupd : ∀ o, Upd (fun j => j = b) w { w with heap := w.heap.setIfInBounds b o } := fun o =>
    ⟨rfl, rfl, rfl, by simp, fun i hi hF => by simp [Ne.symm (show i ≠ b from hF)]⟩
  rw [aput_idx]
  generalize hx : (l.findIdx? fun p => decide (p.1 = k)) = x at *
  cases x with
  | none =>
    refine ⟨_, by simp [Instr.mapUpdate, run_underlying ht, MapKept.run_getObj_map h1, hc, hf, MapKept.run_setObj_map _ h1, Result.andThen]; rfl, ⟨es.push { key := enc k, val := v, born := cl }, cl + 1, by simp [hblt], ?_, ?_, ?_⟩, hupd _⟩
    · simp [h2]
    · simp only [Array.toList_push]
      rw [List.pairwise_append]
      refine ⟨h3, by simp, fun x hx y hy => ?_⟩
      rw [List.mem_singleton] at hy
      subst hy
      exact h4 x hx
    · intro e he
      simp only [Array.toList_push, List.mem_append, List.mem_singleton] at he
      rcases he with he | he
      · have := h4 e he; omega
      · subst he; simp
  | some i =>
    have hi : i < l.length := by
      rw [List.findIdx?_eq_some_iff_getElem] at hx
      exact hx.1
    have hlen : es.size = l.length := by
      have := congrArg List.length h2
      simpa using this
    have hki : (l[i]'hi).1 = k := by
      rw [List.findIdx?_eq_some_iff_getElem] at hx
      simpa using hx.2.1
    have hes : (es[i]'(by omega)).key = enc k := by
      have h5 : (es.toList.map (fun e => (e.key, e.val)))[i]? = (l.map (fun p => (enc p.1, p.2)))[i]? := by rw [h2]
      rw [List.getElem?_map, List.getElem?_map, Array.getElem?_toList, Array.getElem?_eq_getElem (show i < es.size by omega), List.getElem?_eq_getElem hi] at h5
      simp only [Option.map_some] at h5
      have h6 := congrArg Prod.fst (Option.some.inj h5)
      simp only at h6
      rw [h6, hki]
    have hst : (Instr.keyThatStays (((es[i]?).map (·.key)).getD (enc k)) (enc k)).run P w = .ok (enc k) w := by
      rw [Array.getElem?_eq_getElem (show i < es.size by omega)]
      simp only [Option.map_some, Option.getD_some, hes]
      unfold Instr.keyThatStays
      rw [if_pos (K.same k)]
      rfl
    refine ⟨_, by simp [Instr.mapUpdate, run_underlying ht, MapKept.run_getObj_map h1, hc, hf, hst, MapKept.run_setObj_map _ h1, Result.andThen]; rfl, ⟨es.modify i fun e => { e with key := enc k, val := v }, cl, by simp [hblt], ?_, ?_, ?_⟩, hupd _⟩
    · rw [Array.toList_modify]
      apply List.ext_getElem?
      intro j
      have h5 : (es.toList.map (fun e => (e.key, e.val)))[j]? = (l.map (fun p => (enc p.1, p.2)))[j]? := by rw [h2]
      simp only [List.getElem?_map, List.getElem?_modify, List.getElem?_set] at h5 ⊢
      by_cases e : i = j
      · subst e
        rw [if_pos rfl, if_pos hi]
        rw [Array.getElem?_toList, Array.getElem?_eq_getElem (show i < es.size by omega)]
        simp
      · rw [if_neg e]
        cases hq : es.toList[j]? with
        | none => rw [hq] at h5; simpa using h5
        | some u => rw [hq] at h5; simpa [e] using h5
    · rw [Array.toList_modify]
      have e : (es.toList.modify i fun e => { e with key := enc k, val := v }).map (·.born) = es.toList.map (·.born) := by
        apply List.ext_getElem?
        intro j
        simp only [List.getElem?_map, List.getElem?_modify]
        cases es.toList[j]? with
        | none => rfl
        | some u => simp only [Option.map_some]; split <;> rfl
      have h6 : (es.toList.map (·.born)).Pairwise (· < ·) := List.pairwise_map.2 h3
      rw [← e] at h6
      exact List.pairwise_map.1 h6
    · intro e he
      rw [Array.toList_modify] at he
      have h7 : e.born ∈ (es.toList.modify i fun e => { e with key := enc k, val := v }).map (·.born) := List.mem_map_of_mem he
      have e2 : (es.toList.modify i fun e => { e with key := enc k, val := v }).map (·.born) = es.toList.map (·.born) := by
        apply List.ext_getElem?
        intro j
        simp only [List.getElem?_map, List.getElem?_modify]
        cases es.toList[j]? with
        | none => rfl
        | some u => simp only [Option.map_some]; split <;> rfl
      rw [e2] at h7
      obtain ⟨u, hu, he2⟩ := List.mem_map.1 h7
      rw [← he2]
      exact h4 u hu
end
/-- strings -/
theorem strKey {P : Program} {kt : TypeId} (hk : P.underlying kt = some .string) : KeyEnc P kt (fun s : ByteArray => Value.string s) where
  check b x W := MapKept.run_checkKey hk (by simp [MapKept.IsKey]) b 9999
  same x := by
    show (x == x) = true
    exact (MapKept.bytes_beq _ _).2 rfl
  find x es l W h := by
    refine MapKept.run_findKey hk ?_
    have : ∀ (es : List MapEntry) (l : List (ByteArray × Value)) (i : Nat), es.map (fun e => (e.key, e.val)) = l.map (fun p => (Value.string p.1, p.2)) →
        Instr.findNow .string (.string x) es i = some ((l.findIdx? fun p => decide (p.1 = x)).map fun j => (i + j, ((l[j]?).map (·.2)).getD (.bool false))) := by
      intro es
      induction es with
      | nil =>
        intro l i h
        have : l = [] := by cases l; rfl; simp at h
        subst this
        rfl
      | cons e es ih =>
        intro l i h
        cases l with
        | nil => simp at h
        | cons p l =>
          simp only [List.map_cons, List.cons.injEq, Prod.mk.injEq] at h
          obtain ⟨⟨h1, h2⟩, h3⟩ := h
          unfold Instr.findNow
          rw [h1]
          simp only [Instr.sameNow]
          rw [List.findIdx?_cons]
          by_cases hx : p.1 = x
          · have hb : (x == p.1) = true := (MapKept.bytes_beq _ _).2 hx.symm
            rw [hb, decide_eq_true hx]
            simp [h2]
          · have hb : (x == p.1) = false := by
              rw [Bool.eq_false_iff]
              intro e
              exact hx ((MapKept.bytes_beq _ _).1 e).symm
            rw [hb, decide_eq_false hx]
            simp only
            rw [ih l (i + 1) h3]
            cases (l.findIdx? fun p => decide (p.1 = x)) with
            | none => rfl
            | some j => simp; omega
    have h2 := this es l 0 h
    simpa using h2
end Go.Hw

/- Pairs of numbers as keys of a map. -/
namespace Go.Hw
open Go.RowKit
set_option linter.unusedVariables false
set_option linter.unusedSimpArgs false
abbrev pairV (p : Nat × Nat) : Value := .agg #[natV p.1, natV p.2]
section
variable {P : Program} {kt et : TypeId} {i : TypeInfo}
theorem part_int (hk : P.underlying et = some (.int .i64)) (xs : Array Value) (o : Nat) (v : Value) (W : World) (h : xs[o]? = some v) : (part et xs o).run P W = .ok v W :=
  run_part_plain W (by unfold Program.plainKey; rw [hk]) h
theorem int_eq (he : P.underlying et = some (.int .i64)) (d : Nat) (a c : Int) (W : World) : (Op.equalIn (d + 1) et (.int .i64 a) (.int .i64 c)).run P W = .ok (a == c) W := by
  rw [Op.equalIn]
  simp only [Sem.run_bind, run_underlying he, Result.andThen_ok, if_true, Sem.run_pure]
theorem pair_eq' (hk : P.underlying kt = some (.array 2 et)) (he : P.underlying et = some (.int .i64)) (hi : P.info? et = some i) (hc : P.cellsOf et = 1) (n : Nat) (a b c d : Int) (W : World) :
    (Op.equalIn (n + 1 + 1) kt (.agg #[.int .i64 a, .int .i64 b]) (.agg #[.int .i64 c, .int .i64 d])).run P W = .ok (a == c && b == d) W := by
  have h0 := fun x y => part_int (P := P) he #[x, y] 0 x W rfl
  have h1 := fun x y => part_int (P := P) he #[x, y] 1 y W rfl
  have h2 := fun a c => int_eq (P := P) he n a c W
  rw [Op.equalIn]
  simp only [Sem.run_bind, run_underlying hk, Result.andThen_ok, run_sizeOf W hi, hc]
  simp only [Std.Legacy.Range.forIn_eq_forIn_range', Std.Legacy.Range.size, Nat.sub_zero, Nat.add_one_sub_one, Nat.div_one]
  rw [show List.range' 0 2 = [0, 1] from rfl]
  simp only [List.forIn_cons, List.forIn_nil, Sem.run_bind, Nat.mul_one, h0, h1, h2, Result.andThen_ok, Sem.run_pure]
  by_cases e1 : a = c <;> by_cases e2 : b = d <;> simp [e1, e2, h0, h1, h2, Result.andThen]
theorem pair_eq (hk : P.underlying kt = some (.array 2 et)) (he : P.underlying et = some (.int .i64)) (hi : P.info? et = some i) (hc : P.cellsOf et = 1) (a b c d : Int) (W : World) :
    (Op.equal kt (.agg #[.int .i64 a, .int .i64 b]) (.agg #[.int .i64 c, .int .i64 d])).run P W = .ok (a == c && b == d) W := pair_eq' hk he hi hc 9998 a b c d W
theorem int_check (he : P.underlying et = some (.int .i64)) (em : Bool) (d : Nat) (a : Int) (W : World) : (Instr.checkKey em (d + 1) et (.int .i64 a)).run P W = .ok () W := by
  rw [Instr.checkKey]
  simp only [Sem.run_bind, run_underlying he, Result.andThen_ok, Sem.run_pure]
theorem pair_check' (hk : P.underlying kt = some (.array 2 et)) (he : P.underlying et = some (.int .i64)) (hi : P.info? et = some i) (hc : P.cellsOf et = 1) (em : Bool) (n : Nat) (a b : Int) (W : World) :
    (Instr.checkKey em (n + 1 + 1) kt (.agg #[.int .i64 a, .int .i64 b])).run P W = .ok () W := by
  have h0 := fun x y => part_int (P := P) he #[x, y] 0 x W rfl
  have h1 := fun x y => part_int (P := P) he #[x, y] 1 y W rfl
  have h2 := fun a => int_check (P := P) he em n a W
  rw [Instr.checkKey]
  simp only [Sem.run_bind, run_underlying hk, Result.andThen_ok, run_sizeOf W hi, hc]
  simp only [Std.Legacy.Range.forIn_eq_forIn_range', Std.Legacy.Range.size, Nat.sub_zero, Nat.add_one_sub_one, Nat.div_one]
  rw [show List.range' 0 2 = [0, 1] from rfl]
  simp only [List.forIn_cons, List.forIn_nil, Sem.run_bind, run_sizeOf W hi, hc, Nat.mul_one, h0, h1, h2, Result.andThen_ok, Sem.run_pure]
theorem pair_check (hk : P.underlying kt = some (.array 2 et)) (he : P.underlying et = some (.int .i64)) (hi : P.info? et = some i) (hc : P.cellsOf et = 1) (em : Bool) (a b : Int) (W : World) :
    (Instr.checkKey em 10000 kt (.agg #[.int .i64 a, .int .i64 b])).run P W = .ok () W := pair_check' hk he hi hc em 9998 a b W
theorem nat_eq_int (a b : Nat) : ((a : Int) == (b : Int)) = decide (a = b) := by
  rw [Bool.eq_iff_iff, beq_iff_eq, decide_eq_true_eq]
  omega
theorem pairKey (hk : P.underlying kt = some (.array 2 et)) (he : P.underlying et = some (.int .i64)) (hi : P.info? et = some i) (hc : P.cellsOf et = 1) : KeyEnc P kt pairV where
  check b x W := pair_check hk he hi hc b _ _ W
  same x := by
    show Instr.sameBits (9998 + 1 + 1) _ _ = true
    simp [Instr.sameBits]
  find x es l W h := by
    rw [run_findKey_eq W (by rw [hk])]
    have : ∀ (es : List MapEntry) (l : List ((Nat × Nat) × Value)) (i : Nat), es.map (fun e => (e.key, e.val)) = l.map (fun p => (pairV p.1, p.2)) →
        (Instr.findAsking kt (pairV x) es i).run P W = .ok ((l.findIdx? fun p => decide (p.1 = x)).map fun j => (i + j, ((l[j]?).map (·.2)).getD (.bool false))) W := by
      intro es
      induction es with
      | nil =>
        intro l i h
        have : l = [] := by cases l; rfl; simp at h
        subst this
        rfl
      | cons e es ih =>
        intro l i h
        cases l with
        | nil => simp at h
        | cons p l =>
          simp only [List.map_cons, List.cons.injEq, Prod.mk.injEq] at h
          obtain ⟨⟨h1, h2⟩, h3⟩ := h
          have hq := pair_eq hk he hi hc x.1 x.2 p.1.1 p.1.2 W
          rw [nat_eq_int, nat_eq_int] at hq
          unfold Instr.findAsking
          rw [h1, List.findIdx?_cons]
          simp only [Sem.run_bind, pairV, natV, hq, Result.andThen_ok]
          by_cases hx : p.1 = x
          · have hb : (decide (x.1 = p.1.1) && decide (x.2 = p.1.2)) = true := by rw [hx]; simp
            rw [hb, decide_eq_true hx]
            simp [h2]
          · have hb : (decide (x.1 = p.1.1) && decide (x.2 = p.1.2)) = false := by
              rw [Bool.eq_false_iff]
              intro e
              rw [Bool.and_eq_true, decide_eq_true_eq, decide_eq_true_eq] at e
              exact hx (Prod.ext e.1.symm e.2.symm)
            rw [hb, decide_eq_false hx]
            have h4 := ih l (i + 1) h3
            simp only [pairV, natV] at h4
            simp only [Bool.false_eq_true, if_false, h4]
            cases (l.findIdx? fun p => decide (p.1 = x)) with
            | none => rfl
            | some j => simp; omega
    have h2 := this es l 0 h
    simpa using h2
end
end Go.Hw

/- Well-formed terms: pure. nm: which strings are names. -/
namespace Go.Hw
open Tm
set_option linter.unusedVariables false
set_option linter.unusedSimpArgs false
section
variable (nm : By → Bool)
/-- a node at a depth is well-formed by itself -/
def okN (p : Tm × Nat) : Bool := decide (p.2 ≤ 60) && (nm p.1.name && (decide (p.1.kids.length ≤ 6) && (decide (p.1.sort = nul) || (nm p.1.sort && decide (p.1.kids.length = 0)))))
/-- the nodes are well-formed and not too many -/
def formedL (l : List (Tm × Nat)) : Bool := decide (l.length ≤ 1000) && l.all (okN nm)
def formed (t : Tm) : Bool := formedL nm (nodesD 1 t)
theorem formed_iff (t : Tm) : formed nm t = true ↔ t.size ≤ 1000 ∧ ∀ p ∈ nodesD 1 t, okN nm p = true := by
  unfold formed formedL
  rw [Bool.and_eq_true, decide_eq_true_eq, nodesD_len, List.all_eq_true]
mutual
def small : Nat → Int → Tm → Int
  | d, left, .mk n s L => if left ≤ 0 ∨ okN nm (.mk n s L, d) = false then -1 else smalls (d + 1) (left - 1) L
def smalls : Nat → Int → List Tm → Int
  | _, left, [] => left
  | d, left, t :: L => if small d left t < 0 then small d left t else smalls d (small d left t) L
end
theorem small_eq (d : Nat) (left : Int) (t : Tm) : small nm d left t = if left ≤ 0 ∨ okN nm (t, d) = false then -1 else smalls nm (d + 1) (left - 1) t.kids := by cases t; rfl
theorem small_spec : ∀ (t : Tm) (d : Nat) (left : Int), small nm d left t = if (nodesD d t).all (okN nm) = true ∧ (t.size : Int) ≤ left then left - t.size else -1 := by
  refine ind (fun n s L ih d left => ?_)
  have hL : ∀ (L : List Tm) (d : Nat) (left : Int), (∀ x ∈ L, ∀ (d : Nat) (left : Int), small nm d left x = if (nodesD d x).all (okN nm) = true ∧ (x.size : Int) ≤ left then left - x.size else -1) → 0 ≤ left →
      smalls nm d left L = if (nodesDs d L).all (okN nm) = true ∧ (sizes L : Int) ≤ left then left - sizes L else -1 := by
    intro L
    induction L with
    | nil =>
      intro d left _ h0
      unfold smalls nodesDs sizes
      rw [if_pos ⟨rfl, by omega⟩]
      simp
    | cons a L ihL =>
      intro d left h h0
      unfold smalls nodesDs sizes
      rw [h a (List.mem_cons_self ..)]
      have hp := size_pos a
      by_cases hc : (nodesD d a).all (okN nm) = true ∧ (a.size : Int) ≤ left
      · rw [if_pos hc, if_neg (by omega), ihL d (left - a.size) (fun x hx => h x (List.mem_cons_of_mem _ hx)) (by omega)]
        have e1 : (nodesD d a ++ nodesDs d L).all (okN nm) = (nodesDs d L).all (okN nm) := by rw [List.all_append, hc.1, Bool.true_and]
        rw [e1]
        by_cases h2 : (nodesDs d L).all (okN nm) = true ∧ (sizes L : Int) ≤ left - a.size
        · rw [if_pos h2, if_pos ⟨h2.1, by omega⟩]; omega
        · rw [if_neg h2, if_neg (fun h3 => h2 ⟨h3.1, by omega⟩)]
      · rw [if_neg hc, if_pos (by omega), if_neg]
        rintro ⟨h3, h4⟩
        rw [List.all_append, Bool.and_eq_true] at h3
        exact hc ⟨h3.1, by omega⟩
  rw [small_eq, nodesD_eq, List.all_cons, size_eq]
  simp only [kids]
  by_cases hc : left ≤ 0 ∨ okN nm (.mk n s L, d) = false
  · rw [if_pos hc]
    refine (if_neg ?_).symm
    rintro ⟨h3, h4⟩
    rw [Bool.and_eq_true] at h3
    rcases hc with h | h
    · omega
    · rw [h3.1] at h; cases h
  · rw [if_neg hc, hL L (d + 1) (left - 1) ih (by omega)]
    have h5 : okN nm (.mk n s L, d) = true := by
      cases h : okN nm (.mk n s L, d)
      · exact absurd (.inr h) hc
      · rfl
    simp only [h5, Bool.true_and]
    by_cases h2 : (nodesDs (d + 1) L).all (okN nm) = true ∧ (sizes L : Int) ≤ left - 1
    · rw [if_pos h2]
      refine Eq.trans ?_ (if_pos ⟨h2.1, by omega⟩).symm
      omega
    · rw [if_neg h2]
      exact (if_neg (fun h3 => h2 ⟨h3.1, by have := h3.2; omega⟩)).symm
theorem small_formed (t : Tm) : formed nm t = decide (0 ≤ small nm 1 1000 t) := by
  rw [small_spec, Bool.eq_iff_iff, formed_iff, decide_eq_true_eq, ← List.all_eq_true]
  by_cases h : (nodesD 1 t).all (okN nm) = true ∧ (t.size : Int) ≤ 1000
  · rw [if_pos h]
    exact ⟨fun _ => by omega, fun _ => ⟨by omega, h.1⟩⟩
  · rw [if_neg h]
    exact ⟨fun h2 => absurd ⟨h2.2, by omega⟩ h, fun h2 => by omega⟩
end
end Go.Hw
