/- The texts I17 I70 I90 I30 I31 I32 I33 I34 I35 I36 I37 I38 I91 I92, one behind the other. -/
import Derived.Test.YtlkcjmaiahnodaaGreatDoorYAI
import Derived.Test.YtlkcjmaiahnodaaGreatDoorYAC
import Derived.Deep.RegionHeld3
import Derived.Test.YtlkcjmaiahnodaaGreatDoorYAA
import Derived.Test.YtlkcjmaiahnodaaGreatDoorProg
import Derived.WalkKit
import Derived.Deep.SlicePairs
import Derived.Deep.DeepCutAuto
import Derived.Lib.AppendIntMem
/- add of the reference. -/
namespace Go.Proofs.YtlkcjmaiahnodaaGreatDoor
open Go.RowKit Go.Hw Go
set_option linter.unusedVariables false
set_option linter.unusedSimpArgs false

open Tm
/-- the rows while the parts of a term are gathered -/
structure AddJ (R B T : Nat → Prop) (base n0 : Nat) (w wr : World) (N : List Nt) (L : List Tm) (lk kk kidv : Value) (Nk : List Nt) (Bk : Nat → Prop) (ks : List Nat) (k c : Nat) : Prop where
  sub : SubR (fun j => R j ∨ (n0 ≤ j ∧ j < n0 + 3) ∨ kidv.ownBlock = some j) Bk T base wr lk kk Nk
  own : wr.ownsRow (n0 + 3) 3 1 kidv k (ks.map natV)
  len : ks.length = k
  map : ks.map (fun q => (ng Nk q).1) = L.take k
  lt : ∀ q ∈ ks, q < Nk.length
  blk : ∀ j, Bk j → B j ∨ n0 + 3 ≤ j
  upd : Upd B w wr
  size : n0 + 3 ≤ wr.heap.size
  pre : N <+: Nk
  cnt : Nk.length = c
  hn : n0 = w.heap.size
  bn : base ≤ n0
  rb : ∀ j, R j → base ≤ j ∧ j < n0
  bb : ∀ j, B j → base ≤ j ∧ j < n0
  al : ∀ i, N.length ≤ i → i < Nk.length → ∃ x ∈ L, (ng Nk i).1 ∈ sbts x
section
variable {R B T B' : Nat → Prop} {base n0 : Nat} {w wr wq w5 w6 w7 w8 : World} {N Nk N' : List Nt} {L : List Tm} {lk kk kidv lk' kk' : Value} {Bk : Nat → Prop} {ks : List Nat} {k c c' : Nat}
theorem AddJ.resB (h : AddJ R B T base n0 w wr N L lk kk kidv Nk Bk ks k c) : ∀ j, Bk j → ¬ (n0 ≤ j ∧ j < n0 + 3) ∧ kidv.ownBlock ≠ some j := fun j hj => by
  have := (h.sub.lt j hj).2.2
  exact ⟨fun x => this (.inr (.inl x)), fun x => this (.inr (.inr x))⟩
theorem AddJ.call (h : AddJ R B T base n0 w wr N L lk kk kidv Nk Bk ks k c) (hq : Ext wr wq) (hs : SubR (fun j => R j ∨ (n0 ≤ j ∧ j < n0 + 3) ∨ kidv.ownBlock = some j) B' T base w5 lk' kk' N') (hu : Upd Bk wq w5)
    (hb : ∀ j, B' j → Bk j ∨ wq.heap.size ≤ j) (hp : Nk <+: N') (hc : N'.length = c') (hst : Upd (fun j => j = n0) w5 w6) {x : Tm} (hxm : x ∈ L) (hal : ∀ i, Nk.length ≤ i → i < N'.length → (ng N' i).1 ∈ sbts x) : AddJ R B T base n0 w w6 N L lk' kk' kidv N' B' ks k c' := by
  have hkid : ∀ j, kidv.ownBlock = some j → n0 + 3 ≤ j := fun j hj => (h.own.lt j hj).1
  refine ⟨hs.upd hst (fun j hj => ⟨.inr (.inl (by omega)), by rw [hj]; exact h.bn⟩), own_kept (own_kept (own_kept h.own hq (fun _ _ x => x)) hu (fun j hj hx => (h.resB j hx).2 hj)) hst (fun j hj hx => by have := hkid j hj; omega),
    h.len, ?_, fun q hq' => Nat.lt_of_lt_of_le (h.lt q hq') hp.length_le, fun j hj => ?_, ((h.upd.ext hq).trans' hu (fun j hj hx => ?_)).trans' hst (fun j hj hx => ?_), ?_, h.pre.trans hp, hc, h.hn, h.bn, h.rb, h.bb, fun i h1 h2 => ?_⟩
  · rw [← h.map]
    exact List.map_congr_left fun q hq' => by rw [ng_pre hp (h.lt q hq')]
  · rcases hb j hj with hx | hx
    · exact h.blk j hx
    · exact .inr (Nat.le_trans (Nat.le_trans h.size hq.size) hx)
  · rcases h.blk j hx with h2 | h2
    · exact h2
    · have := h.hn; omega
  · have := h.hn; omega
  · exact Nat.le_trans (Nat.le_trans (Nat.le_trans h.size hq.size) hu.size) hst.size
  · by_cases h3 : i < Nk.length
    · rw [ng_pre hp h3]; exact h.al i h1 h3
    · exact ⟨x, hxm, hal i (by omega) h2⟩
theorem AddJ.grow {kidv' : Value} {q : Nat} (h : AddJ R B T base n0 w wr N L lk kk kidv Nk Bk ks k c) (hA : Ext wr w7) (hG : Grew (n0 + 3) 3 1 kidv (k + 1) (ks.map natV ++ [natV q]) w7 w8 kidv') (hq : q < Nk.length) (hk : k < L.length) (hx : (ng Nk q).1 = tg L k) :
    AddJ R B T base n0 w w8 N L lk kk kidv' Nk Bk (ks ++ [q]) (k + 1) c := by
  have hkid : ∀ j, kidv.ownBlock = some j → n0 + 3 ≤ j := fun j hj => (h.own.lt j hj).1
  have hsz : n0 + 3 ≤ w7.heap.size := Nat.le_trans h.size hA.size
  refine ⟨?_, ?_, by simp [h.len], ?_, fun p hp => ?_, h.blk, (h.upd.ext hA).trans' hG.upd (fun j hj hx => ?_), Nat.le_trans hsz hG.upd.size, h.pre, h.cnt, h.hn, h.bn, h.rb, h.bb, h.al⟩
  · refine (((h.sub.ext hA).reserve).upd hG.upd (fun j hj => ⟨.inl (.inr (.inr hj)), ?_⟩)).weaken (fun j hj => ?_)
    · have := hkid j hj; have := h.bn; omega
    · rcases hj with hj | hj | hj
      · exact .inl (.inl hj)
      · exact .inl (.inr (.inl hj))
      · rcases hG.where_ with e | e
        · rw [e] at hj; exact .inl (.inr (.inr hj))
        · rw [e] at hj
          injection hj with hj
          exact .inr (by omega)
  · have := hG.own
    rw [List.map_append]
    exact this
  · rw [List.map_append, h.map, List.map_singleton, hx, List.take_add_one]
    have : L[k]?.toList = [tg L k] := by unfold tg; rw [List.getD_eq_getElem?_getD, List.getElem?_eq_getElem hk]; rfl
    rw [this]
  · rw [List.mem_append, List.mem_singleton] at hp
    rcases hp with hp | hp
    · exact h.lt p hp
    · rw [hp]; exact hq
  · have := hkid j hx; have := h.hn; omega
end
/-- two rows of one's own of different kinds lie apart -/
theorem rows_ne {e e' sz sz' n n' b b' : Nat} {W : World} {u v : Value} {xs ys : List Value} (h : W.ownsRow b e sz u n xs) (h' : W.ownsRow b' e' sz' v n' ys) (hne : e ≠ e') : ∀ k, u.ownBlock = some k → v.ownBlock ≠ some k := by
  intro k hk hk'
  rcases h.2 with ⟨e1, _⟩ | ⟨g, cap, cur, rfl, hb, hg, _⟩
  · rw [e1] at hk; simp [Value.ownBlock] at hk
  · rcases h'.2 with ⟨e2, _⟩ | ⟨g', cap', cur', rfl, hb', hg', _⟩
    · rw [e2] at hk'; simp [Value.ownBlock] at hk'
    · simp only [Value.ownBlock, Option.some.injEq] at hk hk'
      subst hk
      subst hk'
      rw [hg] at hg'
      injection hg' with hg'
      injection hg' with _ h3
      exact hne h3
theorem own_lt {b e sz n : Nat} {W : World} {v : Value} {xs : List Value} (h : W.ownsRow b e sz v n xs) : ∀ k, v.ownBlock = some k → k < W.heap.size := by
  intro k hk
  rcases h.2 with ⟨e1, _⟩ | ⟨g, cap, cur, rfl, hb, hg, _⟩
  · rw [e1] at hk; simp [Value.ownBlock] at hk
  · simp only [Value.ownBlock, Option.some.injEq] at hk
    subst hk
    exact (Array.getElem?_eq_some_iff.1 hg).1
/-- the whole behind both appends -/
theorem AddJ.fin {R B T : Nat → Prop} {base n0 : Nat} {w wr wa wc wd wb we wf : World} {N : List Nt} {nm so : By} {L : List Tm} {lk kk kidv v7 v9 u : Value} {Nk : List Nt} {Bk : Nat → Prop} {ks : List Nat} {c : Nat} {us kz : List Value} {G : Nat → Prop}
    (h : AddJ R B T base n0 w wr N L lk kk kidv Nk Bk ks L.length c)
    (h1 : us.length = Nk.length) (h2 : kz.length = Nk.length) (h5 : ∀ i, i < Nk.length → TlR T wr (ng Nk i).1.kids (ug us i)) (h6 : ∀ i, i < Nk.length → SlR G wr 1 (ug kz i) (ng Nk i).2.length ((ng Nk i).2.map natV))
    (h7 : ∀ k, G k → base ≤ k ∧ k < wr.heap.size ∧ ¬ Bk k ∧ ¬ (R k ∨ (n0 ≤ k ∧ k < n0 + 3) ∨ kidv.ownBlock = some k))
    (hA1 : Ext wr wa) (hG1 : Grew base 24 3 lk (Nk.length + 1) (tCells (Nk.map (·.1)) us ++ [.string nm, .string so, u]) wa wc v7) (hs1 : Upd (fun j => j = n0) wc wd)
    (hA2 : Ext wd wb) (hG2 : Grew base 63 1 kk (Nk.length + 1) (kz ++ [kidv]) wb we v9) (hs2 : Upd (fun j => j = n0 ∨ j = n0 + 2) we wf) (hu : TlR T wr L u) :
    ∃ N' B', SubR R B' T base wf v7 v9 N' ∧ Upd B w wf ∧ (∀ j, B' j → B j ∨ w.heap.size ≤ j) ∧ N <+: N' ∧ N'.length = c + 1 ∧ (ng N' (N'.length - 1)).1 = .mk nm so L ∧ ∀ i, N.length ≤ i → i < N'.length → (ng N' i).1 ∈ sbts (.mk nm so L) := by
  have hV : ∀ k, kidv.ownBlock = some k → n0 + 3 ≤ k ∧ k < wr.heap.size := fun k hk => ⟨(h.own.lt k hk).1, own_lt h.own k hk⟩
  have hBn : ∀ k, Bk k → ¬ (n0 ≤ k ∧ k < n0 + 3) ∧ kidv.ownBlock ≠ some k := h.resB
  have hBs : ∀ k, Bk k → k < wr.heap.size := fun k hk => (h.sub.lt k hk).2.1
  have hn0 : n0 + 3 ≤ wr.heap.size := h.size
  have hU : Upd (fun k => Bk k ∨ k = n0 ∨ k = n0 + 2) wr wf := by
    have u1 : Upd (fun k => Bk k ∨ k = n0 ∨ k = n0 + 2) wr wc := ((Upd.refl _ wr).ext hA1).trans' hG1.upd (fun i hi hx => .inl (h.sub.blkL i hx))
    have u2 := (u1.trans' hs1 (fun i hi hx => .inr (.inl hx))).ext hA2
    have u3 := u2.trans' hG2.upd (fun i hi hx => .inl (h.sub.blkK i hx))
    exact u3.trans' hs2 (fun i hi hx => .inr hx)
  have hsz1 := hA1.size
  have hsz2 := hG1.upd.size
  have hsz3 := hs1.size
  have hsz4 := hA2.size
  have hsz5 := hG2.upd.size
  have hsz6 := hs2.size
  have hb7 : ∀ k, v7.ownBlock = some k → Bk k ∨ wr.heap.size ≤ k := fun k hk => by
    rcases hG1.where_ with e | e
    · rw [e] at hk; exact .inl (h.sub.blkL k hk)
    · rw [e] at hk; injection hk with hk; exact .inr (by omega)
  have hb9 : ∀ k, v9.ownBlock = some k → Bk k ∨ wr.heap.size ≤ k := fun k hk => by
    rcases hG2.where_ with e | e
    · rw [e] at hk; exact .inl (h.sub.blkK k hk)
    · rw [e] at hk; injection hk with hk; exact .inr (by omega)
  have hnb : ∀ k, Bk k ∨ wr.heap.size ≤ k → k ≠ n0 ∧ k ≠ n0 + 2 := fun k hk => by
    rcases hk with hk | hk
    · have := (hBn k hk).1; omega
    · omega
  obtain ⟨_, _, _, _, _, h4, _⟩ := h.sub.rows
  have hKb : wb.ownsRow base 24 3 v7 (Nk.length + 1) (tCells (Nk.map (·.1)) us ++ [.string nm, .string so, u]) := own_kept (own_kept hG1.own hs1 (fun k hk e => (hnb k (hb7 k hk)).1 e)) hA2 (fun _ _ x => x)
  have hne : ∀ k, v7.ownBlock = some k → kk.ownBlock ≠ some k := fun k hk hk' => by
    obtain ⟨us', kz', G', r1, r2, r3, r4, _⟩ := h.sub.rows
    have r4b : wb.ownsRow base 63 1 kk Nk.length kz' := by
      have hx : ∀ k, kk.ownBlock = some k → lk.ownBlock ≠ some k := fun k h1 h2 => rows_ne r3 r4 (by decide) k h2 h1
      exact own_kept (own_kept (own_kept (own_kept r4 hA1 (fun _ _ x => x)) hG1.upd (fun k h1 h2 => hx k h1 h2)) hs1 (fun k h1 e => (hnb k (.inl (h.sub.blkK k h1))).1 e)) hA2 (fun _ _ x => x)
    exact rows_ne hKb r4b (by decide) k hk hk'
  have hL : wf.ownsRow base 24 3 v7 (Nk.length + 1) (tCells (Nk.map (·.1)) us ++ [.string nm, .string so, u]) := own_kept (own_kept hKb hG2.upd (fun k hk e => hne k hk e)) hs2 (fun k hk e => by have := hnb k (hb7 k hk); rcases e with e | e <;> omega)
  have hK : wf.ownsRow base 63 1 v9 (Nk.length + 1) (kz ++ [kidv]) := own_kept hG2.own hs2 (fun k hk e => by have := hnb k (hb9 k hk); rcases e with e | e <;> omega)
  have hown : SlR (fun k => kidv.ownBlock = some k) wr 1 kidv ks.length (ks.map natV) := by have := SlR.of_own h.own; rw [← h.len] at this; exact this
  have hP := h.sub.push (t := .mk nm so L) (u := u) (v := kidv) (lv' := v7) (kv' := v9) (us := us) (ks := kz) (G := G) (V := fun k => kidv.ownBlock = some k) (R0 := R) (kn := ks) (w' := wf) h1 h2 h5 h6 h7
    (hU.mono (fun k hk hx => by
      rcases hx with hx | hx
      · exact .inl hx
      · refine .inr ⟨.inr (.inl (by omega)), by have := h.bn; omega, fun e => by have := hV k e; omega⟩)) hL hK
    (fun k hk => (hb7 k hk).imp id (fun e => ⟨e, own_lt hL k hk⟩)) (fun k hk => (hb9 k hk).imp id (fun e => ⟨e, own_lt hK k hk⟩)) (by have := h.bn; omega) hu hown
    (fun k hk => ⟨.inr (.inr hk), by have := (hV k hk).1; have := h.bn; omega, (hV k hk).2⟩) (fun k hk => ⟨.inl hk, by have := h.rb k hk; omega, fun e => by have := h.rb k hk; have := hV k e; omega⟩) h.lt (by rw [h.map, List.take_length]; rfl)
  refine ⟨_, _, hP, h.upd.trans' hU (fun i hi hx => ?_), fun j hj => ?_, h.pre.trans (List.prefix_append _ _), by rw [List.length_append, h.cnt]; rfl, ?_, fun i hi1 hi2 => ?_⟩
  · have := h.hn
    rcases hx with hx | hx
    · rcases h.blk i hx with h8 | h8
      · exact h8
      · omega
    · omega
  · have := h.hn
    rcases hj with hj | hj
    · rcases h.blk j hj with h8 | h8
      · exact .inl h8
      · exact .inr (by omega)
    · exact .inr (by omega)
  · rw [List.length_append, List.length_singleton, Nat.add_sub_cancel, ng_last]
  · rw [List.length_append, List.length_singleton] at hi2
    rw [sbts_eq]
    by_cases h3 : i < Nk.length
    · rw [ng_left _ h3]
      obtain ⟨x, hx, hx2⟩ := h.al i hi1 h3
      exact List.mem_cons_of_mem _ (List.mem_flatMap.2 ⟨x, hx, hx2⟩)
    · obtain rfl : i = Nk.length := by omega
      rw [ng_last]
      exact List.mem_cons_self ..
theorem infoI : (Tryz.prog.info? 3).map (fun i => (i.zero, i.size, i.bytes)) = some (some (.int .i64 0), 1, 8) := by kernel_rfl
theorem infoT : (Tryz.prog.info? 24).map (fun i => (i.zero, i.size, i.bytes)) = some (some (.agg #[.string ⟨#[]⟩, .string ⟨#[]⟩, .slice none 0 0]), 3, 56) := by kernel_rfl
theorem infoK : (Tryz.prog.info? 63).map (fun i => (i.zero, i.size, i.bytes)) = some (some (.slice none 0 0), 1, 24) := by kernel_rfl
theorem sizes_take (L : List Tm) (k : Nat) (h : k < L.length) : sizes (L.take (k + 1)) = sizes (L.take k) + (tg L k).size := by
  rw [tk_snoc L k h, sizes_append]
  simp [sizes]
theorem sizes_take_le (L : List Tm) (k : Nat) : sizes (L.take k) ≤ sizes L := by
  have : sizes L = sizes (L.take k) + sizes (L.drop k) := by rw [← sizes_append, List.take_append_drop]
  omega
end Go.Proofs.YtlkcjmaiahnodaaGreatDoor

/- copied. -/
namespace Go.Proofs.YtlkcjmaiahnodaaGreatDoor
open Go.RowKit Go.Hw Go
set_option linter.unusedVariables false
set_option linter.unusedSimpArgs false

open Tm
theorem TlO.shape {te : TypeId} {w : World} {B : Nat → Prop} {L : List Tm} {v : Value} (h : TlO te w B L v) : ∃ a cap, v = .slice a L.length cap := h.read.shape
theorem new3 (w : World) (u0 u1 u2 : Value) (t : TypeId) : ∀ (j : Nat) (u : Value), [u0, u1, u2][j]? = some u → (w.alloc (.cells #[u0, u1, u2] t)).cell? ((⟨w.heap.size, 0, none⟩ : Addr).add j) = some u := fun j u hj => by
  match j, hj with
  | 0, hj => simp only [List.getElem?_cons_zero, Option.some.injEq] at hj; subst hj; simp only [Addr.add]; exact cellRow (alloc0 _ _) 0 _ rfl
  | 1, hj => simp at hj; subst hj; simp only [Addr.add]; exact cellRow (alloc0 _ _) 1 _ rfl
  | 2, hj => simp at hj; subst hj; simp only [Addr.add]; exact cellRow (alloc0 _ _) 2 _ rfl
/-- what stands copied -/
structure CpJ (te : TypeId) (n0 : Nat) (wr : World) (L : List Tm) (lv : Value) (us : List Value) (Bk : Nat → Nat → Prop) (k : Nat) : Prop where
  len : us.length = k
  own : wr.ownsRow n0 te 3 lv k (tCells (L.take k) us)
  kid : ∀ i, i < k → TlO te wr (Bk i) (tg L i).kids (ug us i)
  blk : ∀ i j, i < k → Bk i j → n0 ≤ j ∧ j < wr.heap.size ∧ lv.ownBlock ≠ some j
  dis : ∀ i i' j, i < k → i' < k → i ≠ i' → Bk i j → ¬ Bk i' j
theorem CpJ.grow {te : TypeId} {n0 n3 k : Nat} {wr wq w5 wA w7 w8 : World} {L : List Tm} {lv lv' u : Value} {us : List Value} {Bk : Nat → Nat → Prop} {Bx : Nat → Prop} {x : Tm} (h : CpJ te n0 wr L lv us Bk k) (hk : k < L.length) (hx : tg L k = x) (hn : n3 < n0) (h0 : n0 ≤ wr.heap.size) (hq : Ext wr wq) (h5 : Ext wq w5)
    (hT : TlO te w5 Bx x.kids u) (hB : ∀ j, Bx j → wq.heap.size ≤ j ∧ j < w5.heap.size) (hA : Ext w5 wA) (hG : Grew n0 te 3 lv (k + 1) (tCells (L.take k) us ++ [.string x.name, .string x.sort, u]) wA w7 lv') (h8 : Upd (fun j => j = n3) w7 w8) :
    CpJ te n0 w8 L lv' (us ++ [u]) (fun i => if i = k then Bx else Bk i) (k + 1) := by
  have hU1 : Upd (fun j => lv.ownBlock = some j) wr w7 := (((hq.trans h5).trans hA).mono (fun _ _ x => x.elim)).trans hG.upd
  have hlt := fun j hj => h.own.lt j hj
  have hF : ∀ (P : Nat → Prop) (Lx : List Tm) (vx : Value), TlO te w7 P Lx vx → (∀ j, P j → n0 ≤ j) → TlO te w8 P Lx vx := fun P Lx vx ht hp => ht.kept h8 (fun j hj e => by have := hp j hj; omega)
  refine ⟨by rw [List.length_append, h.len]; rfl, ?_, fun i hi => ?_, fun i j hi hj => ?_, fun i i' j hi hi' hne hj => ?_⟩
  · rw [tk_snoc L k hk, tCells_snoc _ _ _ _ (by rw [h.len, List.length_take]; omega), hx]
    exact own_kept hG.own h8 (fun j hj e => by have := (hG.own.lt j hj).1; omega)
  · by_cases e : i = k
    · subst e
      rw [if_pos rfl, hx]
      have e2 : ug (us ++ [u]) i = u := by unfold ug; rw [List.getD_eq_getElem?_getD, List.getElem?_append_right (by rw [h.len]; exact Nat.le_refl _), h.len, Nat.sub_self]; rfl
      rw [e2]
      refine hF _ _ _ ((hT.kept hA (fun _ _ x => x)).kept hG.upd (fun j hj e => ?_)) (fun j hj => by have h1 := hB j hj; have := hq.size; omega)
      have h1 := (hB j hj).1
      have h2 := (hlt j e).2
      have := hq.size
      omega
    · rw [if_neg e]
      have e2 : ug (us ++ [u]) i = ug us i := by unfold ug; rw [List.getD_eq_getElem?_getD, List.getD_eq_getElem?_getD, List.getElem?_append_left (by rw [h.len]; omega)]
      rw [e2]
      exact hF _ _ _ ((h.kid i (by omega)).kept hU1 (fun j hj e => (h.blk i j (by omega) hj).2.2 e)) (fun j hj => (h.blk i j (by omega) hj).1)
  · have hs8 := h8.size
    have hs7 := hG.upd.size
    have hsA := hA.size
    have hs5 := h5.size
    have hsq := hq.size
    have hbn : ∀ j, lv'.ownBlock = some j → lv.ownBlock = some j ∨ w5.heap.size ≤ j := fun j e => by
      rcases hG.where_ with h | h
      · rw [h] at e; exact .inl e
      · rw [h] at e; injection e with e; exact .inr (by omega)
    by_cases e : i = k
    · subst e
      rw [if_pos rfl] at hj
      have h1 := hB j hj
      refine ⟨by omega, by omega, fun e => ?_⟩
      rcases hbn j e with h2 | h2
      · have := (hlt j h2).2; omega
      · omega
    · rw [if_neg e] at hj
      obtain ⟨h1, h2, h3⟩ := h.blk i j (by omega) hj
      refine ⟨h1, by omega, fun e => ?_⟩
      rcases hbn j e with h4 | h4
      · exact h3 h4
      · omega
  · have hsq := hq.size
    by_cases e : i = k
    · subst e
      rw [if_pos rfl] at hj
      have h1 := hB j hj
      rw [if_neg (fun e => hne e.symm)]
      intro h2
      have := (h.blk i' j (by omega) h2).2.1
      omega
    · rw [if_neg e] at hj
      by_cases e' : i' = k
      · subst e'
        rw [if_pos rfl]
        intro h2
        have h3 := hB j h2
        have := (h.blk i j (by omega) hj).2.1
        omega
      · rw [if_neg e']
        exact h.dis i i' j (by omega) (by omega) hne hj
theorem CpJ.fin {te : TypeId} {n0 : Nat} {wr : World} {L : List Tm} {lv : Value} {us : List Value} {Bk : Nat → Nat → Prop} (h : CpJ te n0 wr L lv us Bk L.length) : TlO te wr (fun j => n0 ≤ j ∧ j < wr.heap.size) L lv := by
  have ho := h.own
  rw [List.take_length] at ho
  exact ⟨_, L, us, lv, Bk, h.len, ⟨ho.1, ho.2.imp id (fun ⟨g, c, cur, e, _, h2⟩ => ⟨g, c, cur, e, Nat.zero_le _, h2⟩)⟩, fun k hk => ⟨(ho.lt k hk).1, (ho.lt k hk).2⟩, fun i k hi hk => ⟨(h.blk i k hi hk).1, (h.blk i k hi hk).2.1⟩, fun i k hi hk => (h.blk i k hi hk).2.2, fun i j k hi hj => h.dis i j k hi hj, h.kid⟩
theorem st3_heap {W : World} {z : Nat} {t : TypeId} {v0 v1 v2 : Value} (h : W.heap[z]? = some (.cells #[v0, v1, v2] t (0, 0))) (u0 u1 u2 : Value) : (((W.setCell ⟨z, 0, none⟩ u0).setCell ⟨z, 1, none⟩ u1).setCell ⟨z, 2, none⟩ u2).heap[z]? = some (.cells #[u0, u1, u2] t (0, 0)) := by
  have := setBlock (setBlock (setBlock h 0 u0) 1 u1) 2 u2
  simpa using this
theorem st3_upd' (W : World) (z : Nat) (u0 u1 u2 : Value) : Upd (fun k => k = z) W (((W.setCell ⟨z, 0, none⟩ u0).setCell ⟨z, 1, none⟩ u1).setCell ⟨z, 2, none⟩ u2) :=
  (((Upd.refl (fun k => k = z) W).setCell (p := ⟨z, 0, none⟩) (.inl rfl) u0).setCell (p := ⟨z, 1, none⟩) (.inl rfl) u1).setCell (p := ⟨z, 2, none⟩) (.inl rfl) u2
set_option maxRecDepth 100000 in
set_option maxHeartbeats 2000000 in
theorem copied_x : ∀ (t : Tm) (v : Value) (S : Nat → Prop) (w : World), TmR S w t v → (∀ k, S k → k < w.heap.size) → t.size ≤ 100000 →
    Calls Tryz.prog 172 #[v] w fun e w' => ∃ r B, e = .returned (tV t r) ∧ TlO 24 w' B t.kids r ∧ (∀ j, B j → w.heap.size ≤ j ∧ j < w'.heap.size) ∧ Ext w w' := by
  refine Tm.ind (fun nm so L ih => ?_)
  intro v S w hT hS hsz
  obtain ⟨a, cap, rfl, hT⟩ := hT
  dsimp only [tV, Tm.name, Tm.sort, Tm.kids] at hT ⊢
  have HTL := Lib.hid hT
  have HIH := Lib.hid ih
  have HSS := Lib.hid hS
  have hszL : sizes L + 1 ≤ 100000 := by rw [size_eq] at hsz; simp only [Tm.kids] at hsz; omega
  have HSL := Lib.hid hszL
  have hlL : L.length ≤ 100000 := by have h1 := length_le_sizes L; omega
  have hx3 := (((Upd.refl (fun _ => False) w).alloc (.cells #[.string nm, .string so, .slice a L.length cap] 24)).alloc (.cells #[.string ⟨#[]⟩, .string ⟨#[]⟩, .slice none 0 0] 24)).alloc (.cells #[.string nm, .string so, .slice none 0 0] 24)
  have hb2 := allocOld (alloc_at (w.alloc (.cells #[.string nm, .string so, .slice a L.length cap] 24)) (.cells #[.string ⟨#[]⟩, .string ⟨#[]⟩, .slice none 0 0] 24) (n := w.heap.size + 1) (by simp)) (.cells #[.string nm, .string so, .slice none 0 0] 24)
  have hb3 := alloc_at ((w.alloc (.cells #[.string nm, .string so, .slice a L.length cap] 24)).alloc (.cells #[.string ⟨#[]⟩, .string ⟨#[]⟩, .slice none 0 0] 24)) (.cells #[.string nm, .string so, .slice none 0 0] 24) (n := w.heap.size + 1 + 1) (by simp)
  have hz0 : (((w.alloc (.cells #[.string nm, .string so, .slice a L.length cap] 24)).alloc (.cells #[.string ⟨#[]⟩, .string ⟨#[]⟩, .slice none 0 0] 24)).alloc (.cells #[.string nm, .string so, .slice none 0 0] 24)).heap.size = w.heap.size + 3 := by simp
  have HB2 := Lib.hid hb2
  have HB3 := Lib.hid hb3
  have HE0 := Lib.hid hx3
  have HZ0 := Lib.hid hz0
  clear ih hT hS hsz hszL
  clear hb2 hb3 hx3 hz0
  go_enter Tryz.func172, Tryz.ntmps172
  go_wp2_with fail
  generalize (((w.alloc (.cells #[.string nm, .string so, .slice a L.length cap] 24)).alloc (.cells #[.string ⟨#[]⟩, .string ⟨#[]⟩, .slice none 0 0] 24)).alloc (.cells #[.string nm, .string so, .slice none 0 0] 24)) = W0 at *
  obtain ⟨n3, hn3⟩ : ∃ n3, w.heap.size + 1 + 1 = n3 := ⟨_, rfl⟩
  rw [hn3] at HB3 ⊢
  have HN3 := Lib.hid hn3
  clear hn3
  have HJ0 : Hid (CpJ 24 (w.heap.size + 3) W0 L (.slice none 0 0) [] (fun _ _ => False) 0) := Lib.hid ⟨rfl, ⟨rfl, .inl ⟨rfl, rfl⟩⟩, fun i hi => absurd hi (Nat.not_lt_zero _), fun i j hi => absurd hi (Nat.not_lt_zero _), fun i i' j hi => absurd hi (Nat.not_lt_zero _)⟩
  have HSW0 : Hid (w.heap.size + 3 ≤ W0.heap.size) := Lib.hid (by rw [HZ0.out]; exact Nat.le_refl _)
  clear HZ0
  go_loopg [11] L.length (fun gk iv wr => ∃ (k : Nat) (lv : Value) (us : List Value) (Bk : Nat → Nat → Prop), iv = .int .i64 (k : Int) ∧ gk = L.length - k ∧ k ≤ L.length ∧ Hid (CpJ 24 (w.heap.size + 3) wr L lv us Bk k) ∧ Hid (wr.heap[w.heap.size + 1]? = some (.cells #[.string ⟨#[]⟩, .string ⟨#[]⟩, .slice none 0 0] 24 (0, 0))) ∧ Hid (wr.heap[n3]? = some (.cells #[.string nm, .string so, lv] 24 (0, 0))) ∧ Hid (Ext w wr) ∧ Hid (w.heap.size + 3 ≤ wr.heap.size))
  case atStart => exact ⟨0, _, _, _, rfl, rfl, Nat.zero_le _, HJ0, HB2, HB3, HE0, HSW0⟩
  case round =>
    clear HJ0 HB2 HB3 HE0 HSW0
    obtain ⟨k, lv, us, Bk, rfl, rfl, hk, HJ, HB2, HB3, HE, HSZ⟩ := hrel
    obtain ⟨la, lc, hlv⟩ := own_shape HJ.out.own
    subst hlv
    by_cases hlt : k < L.length
    · obtain ⟨g, off, hga, _, hat⟩ := (HTL.out.ext HE.out).at_ (by omega)
      subst hga
      obtain ⟨xa, xc, q0, q1, q2, hkid⟩ := hat k hlt
      rw [← Nat.add_assoc] at q1 q2
      have z0 : (0 : Int) ≤ (k : Int) := by omega
      have z1 : (k : Int) < (L.length : Int) := by omega
      have z2 : decide ((k : Int) < (L.length : Int)) = true := decide_eq_true z1
      have z2' : decide (k < L.length) = true := decide_eq_true hlt
      have HIX := Lib.hid (fun W (hW : Ext (wr.alloc (.cells #[.string (tg L k).name, .string (tg L k).sort, .slice xa (tg L k).kids.length xc] 24)) W) => HIH.out (tg L k) (tg_mem L k hlt) _ S W ⟨xa, xc, rfl, (hkid.ext ((Upd.refl (fun _ => False) wr).alloc _)).ext hW⟩ (fun j hj => Nat.lt_of_lt_of_le (HSS.out j hj) (Nat.le_trans HE.out.size (Nat.le_trans ((Upd.refl (fun _ => False) wr).alloc (.cells #[.string (tg L k).name, .string (tg L k).sort, .slice xa (tg L k).kids.length xc] 24)).size hW.size))) (by have h1 := HSL.out; have h2 := sizes_take L k hlt; have h3 := sizes_take_le L (k + 1); omega))
      dsimp only [tV] at HIX
      obtain ⟨x, hx⟩ : ∃ x, tg L k = x := ⟨_, rfl⟩
      have HX := Lib.hid hx
      rw [hx] at q0 q1 q2 HIX
      have hQ := (Upd.refl (fun _ => False) wr).alloc (.cells #[.string x.name, .string x.sort, .slice xa x.kids.length xc] 24)
      have hB5 := alloc0 wr (.cells #[.string x.name, .string x.sort, .slice xa x.kids.length xc] 24)
      have b0 := cellRow hB5 0 (.string x.name) rfl
      have b1 := cellRow hB5 1 (.string x.sort) rfl
      have b2 := cellRow hB5 2 (.slice xa x.kids.length xc) rfl
      have hB3q := allocOld HB3.out (.cells #[.string x.name, .string x.sort, .slice xa x.kids.length xc] 24)
      have c2 := cellRow hB3q 2 (.slice la k lc) rfl
      have HBQ := Lib.hid hB3q
      have HQ := Lib.hid hQ
      have HB2Q := Lib.hid (allocOld HB2.out (.cells #[.string x.name, .string x.sort, .slice xa x.kids.length xc] 24))
      have HOQ := Lib.hid (HJ.out.own.alloc (.cells #[.string x.name, .string x.sort, .slice xa x.kids.length xc] 24))
      have HRN : Hid (¬ (Value.slice la k lc).ownBlock = some n3) := Lib.hid (fun e => by have h1 := (HJ.out.own.lt n3 e).1; have := HN3.out; omega)
      have HK : Hid (k ≤ 100000) := Lib.hid (by omega)
      obtain ⟨iT, hi, hz0, hz1, hz2⟩ := info_parts infoT
      clear hat hkid hx hQ hB5 hB3q
      go_wp2_with fail
      generalize wr.alloc (.cells #[.string x.name, .string x.sort, .slice xa x.kids.length xc] 24) = wq at *
      have HWQ : Hid (Ext wq wq) := Lib.hid (Upd.refl _ _)
      have HSQ : Hid (w.heap.size + 3 ≤ wq.heap.size) := Lib.hid (Nat.le_trans HSZ.out HQ.out.size)
      clear q0 q1 q2
      go_region_law (first
  | (refine step_append_at _ (.tmp 16) (.tmp 19) 22 rfl (w.heap.size + 3) 24 iT (.agg #[.string ⟨#[]⟩, .string ⟨#[]⟩, .slice none 0 0]) 3 56 Tryz.underlying22 hi hz0 hz1 hz2 rfl (by decide) _ _ _ rfl HOW5.out _ 1 1 [.string x.name, .string x.sort, .slice ya x.kids.length yc] rfl rfl HNEW.out HONE.out HLM.out.1 HLM.out.2.1 HLM.out.2.2 ?_; intro v7 w7 hG7; obtain ⟨a7, c7, hv7⟩ := own_shape hG7.own; subst hv7; have hB7 := hG7.upd.heap (allocOld HB5.out (.cells #[.string x.name, .string x.sort, .slice ya x.kids.length yc] 24)) HRN.out; have f7 := fun i => frozenRow hB7 i; have c2 := cellRow hB7 2 (.slice la k lc) rfl; have HB7 := Lib.hid hB7; have HG7 := Lib.hid hG7; clear hG7 hB7)
  | (go_simp; refine (HIX.out wq.drew HWQ.out.drew).mono ?_; rintro e w5 ⟨r, Bx, rfl, hT5, hb5, hw5⟩; obtain ⟨ya, yc, hry⟩ := TlO.shape hT5; subst hry; have HW5 : Hid (Ext wq w5) := Lib.hid (((Upd.refl (fun _ => False) wq).drewN' 1).trans hw5); have HT5 := Lib.hid hT5; have HBX5 : Hid (∀ j, Bx j → wq.heap.size ≤ j ∧ j < w5.heap.size) := Lib.hid hb5; have HB5 := Lib.hid (HW5.out.heap HBQ.out (fun h => h)); have HOW5 : Hid ((w5.alloc (.cells #[.string x.name, .string x.sort, .slice ya x.kids.length yc] 24)).ownsRow (w.heap.size + 3) 24 3 (.slice la k lc) k (tCells (L.take k) us)) := Lib.hid ((own_kept HOQ.out HW5.out (fun _ _ h => h)).alloc _); have HNEW : Hid (∀ (j : Nat) (u : Value), [Value.string x.name, .string x.sort, .slice ya x.kids.length yc][j]? = some u → (w5.alloc (.cells #[.string x.name, .string x.sort, .slice ya x.kids.length yc] 24)).cell? ((⟨w5.heap.size, 0, none⟩ : Addr).add j) = some u) := Lib.hid (new3 w5 _ _ _ 24); have HONE : Hid (∀ u ∈ [Value.string x.name, .string x.sort, .slice ya x.kids.length yc], u.oneCell' = true) := Lib.hid (fun u hu => by simp at hu; rcases hu with h | h | h <;> (subst h; rfl)); have HLM : Hid (k + 1 ≤ maxLen ∧ (k + 1) * 56 ≤ 140737488355328 ∧ w.heap.size + 3 ≤ (w5.alloc (.cells #[.string x.name, .string x.sort, .slice ya x.kids.length yc] 24)).heap.size) := Lib.hid ⟨by unfold maxLen; have := HK.out; omega, by have := HK.out; omega, by have h1 := HW5.out.size; have h2 := HSQ.out; simp; omega⟩; have c5 := HW5.out.cell c2 (fun h => h); have c6 := ((Upd.refl (fun _ => False) w5).alloc (.cells #[.string x.name, .string x.sort, .slice ya x.kids.length yc] 24)).cell c5 (fun h => h); clear hT5 hb5 hw5))
      all_goals
        go_wp2_with fail
        have HS8 := Lib.hid ((Upd.refl (fun j => j = n3) w7).setCell (p := ⟨n3, 2, none⟩) (.inl rfl) (.slice a7 (k + 1) c7))
        have HU8 : Hid (Upd (fun j => (Value.slice la k lc).ownBlock = some j ∨ j = n3) wq (w7.setCell ⟨n3, 2, none⟩ (.slice a7 (k + 1) c7))) := Lib.hid (((((HW5.out.alloc (.cells #[.string x.name, .string x.sort, .slice ya x.kids.length yc] 24)).mono (fun _ _ x => x.elim)).trans (HG7.out.upd.mono (fun _ _ e => .inl e)))).trans (HS8.out.mono (fun _ _ e => .inr e)))
        have HJ8 := Lib.hid (HJ.out.grow hlt HX.out (by have := HN3.out; omega) HSZ.out HQ.out HW5.out HT5.out HBX5.out ((Upd.refl (fun _ => False) w5).alloc (.cells #[.string x.name, .string x.sort, .slice ya x.kids.length yc] 24)) HG7.out HS8.out)
        have HE8 : Hid (Ext w (w7.setCell ⟨n3, 2, none⟩ (.slice a7 (k + 1) c7))) := Lib.hid ((HE.out.trans HQ.out).trans' HU8.out (fun j hj e => by
          rcases e with e | e
          · have h1 := (HJ.out.own.lt j e).1; omega
          · have := HN3.out; omega))
        have HB28 := Lib.hid (HU8.out.heap HB2Q.out (fun e => by
          rcases e with e | e
          · have h1 := (HJ.out.own.lt _ e).1; omega
          · have := HN3.out; omega))
        have hb38 := setBlock HB7.out 2 (.slice a7 (k + 1) c7)
        have HB38 : Hid ((w7.setCell ⟨n3, 2, none⟩ (.slice a7 (k + 1) c7)).heap[n3]? = some (.cells #[.string nm, .string so, .slice a7 (k + 1) c7] 24 (0, 0))) := Lib.hid (by simpa using hb38)
        have HS9 : Hid (w.heap.size + 3 ≤ (w7.setCell ⟨n3, 2, none⟩ (.slice a7 (k + 1) c7)).heap.size) := Lib.hid (Nat.le_trans HSQ.out HU8.out.size)
        clear hb38 c2 f7
        go_roundg (L.length - (k + 1))
        case measure => omega
        case rel => exact ⟨k + 1, _, _, _, by go_num, rfl, by omega, HJ8, HB28, HB38, HE8, HS9⟩
    · obtain rfl : k = L.length := by omega
      have z2 : decide ((L.length : Int) < (L.length : Int)) = false := decide_eq_false (by omega)
      have c0 := cellRow HB3.out 0 (.string nm) rfl
      have c1 := cellRow HB3.out 1 (.string so) rfl
      have c2 := cellRow HB3.out 2 (.slice la L.length lc) rfl
      have f2 := fun i => frozenRow HB2.out i
      have d0 := cellRow HB2.out 0 (.string ⟨#[]⟩) rfl
      have d1 := cellRow HB2.out 1 (.string ⟨#[]⟩) rfl
      have d2 := cellRow HB2.out 2 (.slice none 0 0) rfl
      go_wp2_with fail
      have hr := st3_heap HB2.out (.string nm) (.string so) (.slice la L.length lc)
      have hu := st3_upd' wr (w.heap.size + 1) (.string nm) (.string so) (.slice la L.length lc)
      have e0 := cellRow hr 0 _ rfl
      have e1 := cellRow hr 1 _ rfl
      have e2 := cellRow hr 2 _ rfl
      refine bodyPost_ret (v := .agg #[.string nm, .string so, .slice la L.length lc]) (by simp [results, Tryz.results172, go_sem, e0, e1, e2]) rfl ⟨.slice la L.length lc, _, rfl, HJ.out.fin.kept hu (fun j hj e => by have h1 := hj.1; omega), fun j hj => ⟨by have h1 := hj.1; omega, Nat.lt_of_lt_of_le hj.2 hu.size⟩, HE.out.trans' hu (fun j hj e => by omega)⟩

end Go.Proofs.YtlkcjmaiahnodaaGreatDoor

/- copied of the rewrite package. -/
namespace Go.Proofs.YtlkcjmaiahnodaaGreatDoor
open Go.RowKit Go.Hw Go
set_option linter.unusedVariables false
set_option linter.unusedSimpArgs false

open Tm
set_option maxRecDepth 100000 in
set_option maxHeartbeats 2000000 in
theorem rcopied_x : ∀ (t : Tm) (v : Value) (S : Nat → Prop) (w : World), TmR S w t v → (∀ k, S k → k < w.heap.size) → t.size ≤ 100000 →
    Calls Tryz.prog 117 #[v] w fun e w' => ∃ r B, e = .returned (tV t r) ∧ TlO 24 w' B t.kids r ∧ (∀ j, B j → w.heap.size ≤ j ∧ j < w'.heap.size) ∧ Ext w w' := by
  refine Tm.ind (fun nm so L ih => ?_)
  intro v S w hT hS hsz
  obtain ⟨a, cap, rfl, hT⟩ := hT
  dsimp only [tV, Tm.name, Tm.sort, Tm.kids] at hT ⊢
  have HTL := Lib.hid hT
  have HIH := Lib.hid ih
  have HSS := Lib.hid hS
  have hszL : sizes L + 1 ≤ 100000 := by rw [size_eq] at hsz; simp only [Tm.kids] at hsz; omega
  have HSL := Lib.hid hszL
  have hlL : L.length ≤ 100000 := by have h1 := length_le_sizes L; omega
  have hx3 := (((Upd.refl (fun _ => False) w).alloc (.cells #[.string nm, .string so, .slice a L.length cap] 24)).alloc (.cells #[.string ⟨#[]⟩, .string ⟨#[]⟩, .slice none 0 0] 24)).alloc (.cells #[.string nm, .string so, .slice none 0 0] 24)
  have hb2 := allocOld (alloc_at (w.alloc (.cells #[.string nm, .string so, .slice a L.length cap] 24)) (.cells #[.string ⟨#[]⟩, .string ⟨#[]⟩, .slice none 0 0] 24) (n := w.heap.size + 1) (by simp)) (.cells #[.string nm, .string so, .slice none 0 0] 24)
  have hb3 := alloc_at ((w.alloc (.cells #[.string nm, .string so, .slice a L.length cap] 24)).alloc (.cells #[.string ⟨#[]⟩, .string ⟨#[]⟩, .slice none 0 0] 24)) (.cells #[.string nm, .string so, .slice none 0 0] 24) (n := w.heap.size + 1 + 1) (by simp)
  have hz0 : (((w.alloc (.cells #[.string nm, .string so, .slice a L.length cap] 24)).alloc (.cells #[.string ⟨#[]⟩, .string ⟨#[]⟩, .slice none 0 0] 24)).alloc (.cells #[.string nm, .string so, .slice none 0 0] 24)).heap.size = w.heap.size + 3 := by simp
  have HB2 := Lib.hid hb2
  have HB3 := Lib.hid hb3
  have HE0 := Lib.hid hx3
  have HZ0 := Lib.hid hz0
  clear ih hT hS hsz hszL
  clear hb2 hb3 hx3 hz0
  go_enter Tryz.func117, Tryz.ntmps117
  go_wp2_with fail
  generalize (((w.alloc (.cells #[.string nm, .string so, .slice a L.length cap] 24)).alloc (.cells #[.string ⟨#[]⟩, .string ⟨#[]⟩, .slice none 0 0] 24)).alloc (.cells #[.string nm, .string so, .slice none 0 0] 24)) = W0 at *
  obtain ⟨n3, hn3⟩ : ∃ n3, w.heap.size + 1 + 1 = n3 := ⟨_, rfl⟩
  rw [hn3] at HB3 ⊢
  have HN3 := Lib.hid hn3
  clear hn3
  have HJ0 : Hid (CpJ 24 (w.heap.size + 3) W0 L (.slice none 0 0) [] (fun _ _ => False) 0) := Lib.hid ⟨rfl, ⟨rfl, .inl ⟨rfl, rfl⟩⟩, fun i hi => absurd hi (Nat.not_lt_zero _), fun i j hi => absurd hi (Nat.not_lt_zero _), fun i i' j hi => absurd hi (Nat.not_lt_zero _)⟩
  have HSW0 : Hid (w.heap.size + 3 ≤ W0.heap.size) := Lib.hid (by rw [HZ0.out]; exact Nat.le_refl _)
  clear HZ0
  go_loopg [14] L.length (fun gk iv wr => ∃ (k : Nat) (lv : Value) (us : List Value) (Bk : Nat → Nat → Prop), iv = .int .i64 (k : Int) ∧ gk = L.length - k ∧ k ≤ L.length ∧ Hid (CpJ 24 (w.heap.size + 3) wr L lv us Bk k) ∧ Hid (wr.heap[w.heap.size + 1]? = some (.cells #[.string ⟨#[]⟩, .string ⟨#[]⟩, .slice none 0 0] 24 (0, 0))) ∧ Hid (wr.heap[n3]? = some (.cells #[.string nm, .string so, lv] 24 (0, 0))) ∧ Hid (Ext w wr) ∧ Hid (w.heap.size + 3 ≤ wr.heap.size))
  case atStart => exact ⟨0, _, _, _, rfl, rfl, Nat.zero_le _, HJ0, HB2, HB3, HE0, HSW0⟩
  case round =>
    clear HJ0 HB2 HB3 HE0 HSW0
    obtain ⟨k, lv, us, Bk, rfl, rfl, hk, HJ, HB2, HB3, HE, HSZ⟩ := hrel
    obtain ⟨la, lc, hlv⟩ := own_shape HJ.out.own
    subst hlv
    by_cases hlt : k < L.length
    · obtain ⟨g, off, hga, _, hat⟩ := (HTL.out.ext HE.out).at_ (by omega)
      subst hga
      obtain ⟨xa, xc, q0, q1, q2, hkid⟩ := hat k hlt
      rw [← Nat.add_assoc] at q1 q2
      have z0 : (0 : Int) ≤ (k : Int) := by omega
      have z1 : (k : Int) < (L.length : Int) := by omega
      have z2 : decide ((k : Int) < (L.length : Int)) = true := decide_eq_true z1
      have z2' : decide (k < L.length) = true := decide_eq_true hlt
      have HIX := Lib.hid (fun W (hW : Ext (wr.alloc (.cells #[.string (tg L k).name, .string (tg L k).sort, .slice xa (tg L k).kids.length xc] 24)) W) => HIH.out (tg L k) (tg_mem L k hlt) _ S W ⟨xa, xc, rfl, (hkid.ext ((Upd.refl (fun _ => False) wr).alloc _)).ext hW⟩ (fun j hj => Nat.lt_of_lt_of_le (HSS.out j hj) (Nat.le_trans HE.out.size (Nat.le_trans ((Upd.refl (fun _ => False) wr).alloc (.cells #[.string (tg L k).name, .string (tg L k).sort, .slice xa (tg L k).kids.length xc] 24)).size hW.size))) (by have h1 := HSL.out; have h2 := sizes_take L k hlt; have h3 := sizes_take_le L (k + 1); omega))
      dsimp only [tV] at HIX
      obtain ⟨x, hx⟩ : ∃ x, tg L k = x := ⟨_, rfl⟩
      have HX := Lib.hid hx
      rw [hx] at q0 q1 q2 HIX
      have hQ := (Upd.refl (fun _ => False) wr).alloc (.cells #[.string x.name, .string x.sort, .slice xa x.kids.length xc] 24)
      have hB5 := alloc0 wr (.cells #[.string x.name, .string x.sort, .slice xa x.kids.length xc] 24)
      have b0 := cellRow hB5 0 (.string x.name) rfl
      have b1 := cellRow hB5 1 (.string x.sort) rfl
      have b2 := cellRow hB5 2 (.slice xa x.kids.length xc) rfl
      have hB3q := allocOld HB3.out (.cells #[.string x.name, .string x.sort, .slice xa x.kids.length xc] 24)
      have c2 := cellRow hB3q 2 (.slice la k lc) rfl
      have HBQ := Lib.hid hB3q
      have HQ := Lib.hid hQ
      have HB2Q := Lib.hid (allocOld HB2.out (.cells #[.string x.name, .string x.sort, .slice xa x.kids.length xc] 24))
      have HOQ := Lib.hid (HJ.out.own.alloc (.cells #[.string x.name, .string x.sort, .slice xa x.kids.length xc] 24))
      have HRN : Hid (¬ (Value.slice la k lc).ownBlock = some n3) := Lib.hid (fun e => by have h1 := (HJ.out.own.lt n3 e).1; have := HN3.out; omega)
      have HK : Hid (k ≤ 100000) := Lib.hid (by omega)
      obtain ⟨iT, hi, hz0, hz1, hz2⟩ := info_parts infoT
      clear hat hkid hx hQ hB5 hB3q
      go_wp2_with fail
      generalize wr.alloc (.cells #[.string x.name, .string x.sort, .slice xa x.kids.length xc] 24) = wq at *
      have HWQ : Hid (Ext wq wq) := Lib.hid (Upd.refl _ _)
      have HSQ : Hid (w.heap.size + 3 ≤ wq.heap.size) := Lib.hid (Nat.le_trans HSZ.out HQ.out.size)
      clear q0 q1 q2
      go_region_law (first
  | (refine step_append_at _ (.tmp 19) (.tmp 22) 22 rfl (w.heap.size + 3) 24 iT (.agg #[.string ⟨#[]⟩, .string ⟨#[]⟩, .slice none 0 0]) 3 56 Tryz.underlying22 hi hz0 hz1 hz2 rfl (by decide) _ _ _ rfl HOW5.out _ 1 1 [.string x.name, .string x.sort, .slice ya x.kids.length yc] rfl rfl HNEW.out HONE.out HLM.out.1 HLM.out.2.1 HLM.out.2.2 ?_; intro v7 w7 hG7; obtain ⟨a7, c7, hv7⟩ := own_shape hG7.own; subst hv7; have hB7 := hG7.upd.heap (allocOld HB5.out (.cells #[.string x.name, .string x.sort, .slice ya x.kids.length yc] 24)) HRN.out; have f7 := fun i => frozenRow hB7 i; have c2 := cellRow hB7 2 (.slice la k lc) rfl; have HB7 := Lib.hid hB7; have HG7 := Lib.hid hG7; clear hG7 hB7)
  | (go_simp; refine (HIX.out wq.drew HWQ.out.drew).mono ?_; rintro e w5 ⟨r, Bx, rfl, hT5, hb5, hw5⟩; obtain ⟨ya, yc, hry⟩ := TlO.shape hT5; subst hry; have HW5 : Hid (Ext wq w5) := Lib.hid (((Upd.refl (fun _ => False) wq).drewN' 1).trans hw5); have HT5 := Lib.hid hT5; have HBX5 : Hid (∀ j, Bx j → wq.heap.size ≤ j ∧ j < w5.heap.size) := Lib.hid hb5; have HB5 := Lib.hid (HW5.out.heap HBQ.out (fun h => h)); have HOW5 : Hid ((w5.alloc (.cells #[.string x.name, .string x.sort, .slice ya x.kids.length yc] 24)).ownsRow (w.heap.size + 3) 24 3 (.slice la k lc) k (tCells (L.take k) us)) := Lib.hid ((own_kept HOQ.out HW5.out (fun _ _ h => h)).alloc _); have HNEW : Hid (∀ (j : Nat) (u : Value), [Value.string x.name, .string x.sort, .slice ya x.kids.length yc][j]? = some u → (w5.alloc (.cells #[.string x.name, .string x.sort, .slice ya x.kids.length yc] 24)).cell? ((⟨w5.heap.size, 0, none⟩ : Addr).add j) = some u) := Lib.hid (new3 w5 _ _ _ 24); have HONE : Hid (∀ u ∈ [Value.string x.name, .string x.sort, .slice ya x.kids.length yc], u.oneCell' = true) := Lib.hid (fun u hu => by simp at hu; rcases hu with h | h | h <;> (subst h; rfl)); have HLM : Hid (k + 1 ≤ maxLen ∧ (k + 1) * 56 ≤ 140737488355328 ∧ w.heap.size + 3 ≤ (w5.alloc (.cells #[.string x.name, .string x.sort, .slice ya x.kids.length yc] 24)).heap.size) := Lib.hid ⟨by unfold maxLen; have := HK.out; omega, by have := HK.out; omega, by have h1 := HW5.out.size; have h2 := HSQ.out; simp; omega⟩; have c5 := HW5.out.cell c2 (fun h => h); have c6 := ((Upd.refl (fun _ => False) w5).alloc (.cells #[.string x.name, .string x.sort, .slice ya x.kids.length yc] 24)).cell c5 (fun h => h); clear hT5 hb5 hw5))
      all_goals
        go_wp2_with fail
        have HS8 := Lib.hid ((Upd.refl (fun j => j = n3) w7).setCell (p := ⟨n3, 2, none⟩) (.inl rfl) (.slice a7 (k + 1) c7))
        have HU8 : Hid (Upd (fun j => (Value.slice la k lc).ownBlock = some j ∨ j = n3) wq (w7.setCell ⟨n3, 2, none⟩ (.slice a7 (k + 1) c7))) := Lib.hid (((((HW5.out.alloc (.cells #[.string x.name, .string x.sort, .slice ya x.kids.length yc] 24)).mono (fun _ _ x => x.elim)).trans (HG7.out.upd.mono (fun _ _ e => .inl e)))).trans (HS8.out.mono (fun _ _ e => .inr e)))
        have HJ8 := Lib.hid (HJ.out.grow hlt HX.out (by have := HN3.out; omega) HSZ.out HQ.out HW5.out HT5.out HBX5.out ((Upd.refl (fun _ => False) w5).alloc (.cells #[.string x.name, .string x.sort, .slice ya x.kids.length yc] 24)) HG7.out HS8.out)
        have HE8 : Hid (Ext w (w7.setCell ⟨n3, 2, none⟩ (.slice a7 (k + 1) c7))) := Lib.hid ((HE.out.trans HQ.out).trans' HU8.out (fun j hj e => by
          rcases e with e | e
          · have h1 := (HJ.out.own.lt j e).1; omega
          · have := HN3.out; omega))
        have HB28 := Lib.hid (HU8.out.heap HB2Q.out (fun e => by
          rcases e with e | e
          · have h1 := (HJ.out.own.lt _ e).1; omega
          · have := HN3.out; omega))
        have hb38 := setBlock HB7.out 2 (.slice a7 (k + 1) c7)
        have HB38 : Hid ((w7.setCell ⟨n3, 2, none⟩ (.slice a7 (k + 1) c7)).heap[n3]? = some (.cells #[.string nm, .string so, .slice a7 (k + 1) c7] 24 (0, 0))) := Lib.hid (by simpa using hb38)
        have HS9 : Hid (w.heap.size + 3 ≤ (w7.setCell ⟨n3, 2, none⟩ (.slice a7 (k + 1) c7)).heap.size) := Lib.hid (Nat.le_trans HSQ.out HU8.out.size)
        clear hb38 c2 f7
        go_roundg (L.length - (k + 1))
        case measure => omega
        case rel => exact ⟨k + 1, _, _, _, by go_num, rfl, by omega, HJ8, HB28, HB38, HE8, HS9⟩
    · obtain rfl : k = L.length := by omega
      have z2 : decide ((L.length : Int) < (L.length : Int)) = false := decide_eq_false (by omega)
      have c0 := cellRow HB3.out 0 (.string nm) rfl
      have c1 := cellRow HB3.out 1 (.string so) rfl
      have c2 := cellRow HB3.out 2 (.slice la L.length lc) rfl
      have f2 := fun i => frozenRow HB2.out i
      have d0 := cellRow HB2.out 0 (.string ⟨#[]⟩) rfl
      have d1 := cellRow HB2.out 1 (.string ⟨#[]⟩) rfl
      have d2 := cellRow HB2.out 2 (.slice none 0 0) rfl
      go_wp2_with fail
      have hr := st3_heap HB2.out (.string nm) (.string so) (.slice la L.length lc)
      have hu := st3_upd' wr (w.heap.size + 1) (.string nm) (.string so) (.slice la L.length lc)
      have e0 := cellRow hr 0 _ rfl
      have e1 := cellRow hr 1 _ rfl
      have e2 := cellRow hr 2 _ rfl
      refine bodyPost_ret (v := .agg #[.string nm, .string so, .slice la L.length lc]) (by simp [results, Tryz.results172, go_sem, e0, e1, e2]) rfl ⟨.slice la L.length lc, _, rfl, HJ.out.fin.kept hu (fun j hj e => by have h1 := hj.1; omega), fun j hj => ⟨by have h1 := hj.1; omega, Nat.lt_of_lt_of_le hj.2 hu.size⟩, HE.out.trans' hu (fun j hj e => by omega)⟩

end Go.Proofs.YtlkcjmaiahnodaaGreatDoor

/- Functions asked of a list of numbers. -/
namespace Go.Proofs.YtlkcjmaiahnodaaGreatDoor
open Go.RowKit Go.Hw Go
set_option linter.unusedVariables false
set_option linter.unusedSimpArgs false

open Tm
end Go.Proofs.YtlkcjmaiahnodaaGreatDoor

/- The order: covers. -/
namespace Go.Proofs.YtlkcjmaiahnodaaGreatDoor
open Go.RowKit Go.Hw Go
set_option linter.unusedVariables false
set_option linter.unusedSimpArgs false

open Tm
end Go.Proofs.YtlkcjmaiahnodaaGreatDoor

/- The order: above. -/
namespace Go.Proofs.YtlkcjmaiahnodaaGreatDoor
open Go.RowKit Go.Hw Go
set_option linter.unusedVariables false
set_option linter.unusedSimpArgs false

open Tm
end Go.Proofs.YtlkcjmaiahnodaaGreatDoor

/- The order: greater. -/
namespace Go.Proofs.YtlkcjmaiahnodaaGreatDoor
open Go.RowKit Go.Hw Go
set_option linter.unusedVariables false
set_option linter.unusedSimpArgs false

open Tm
theorem gt_cov' {r : By → Nat} {s t : Tm} (hs : s.sort = nul) (h : Cov r s t) : gt r s t = true := (gt_iff r s t).2 ⟨hs, .inl h⟩
end Go.Proofs.YtlkcjmaiahnodaaGreatDoor

/- The order: number. -/
namespace Go.Proofs.YtlkcjmaiahnodaaGreatDoor
open Go.RowKit Go.Hw Go
set_option linter.unusedVariables false
set_option linter.unusedSimpArgs false

open Tm
theorem pow_upd {F : Nat → Prop} {w w' : World} (h : Lib.TabIs Tryz.prog w "internal/strconv.uint64pow10" .u64 Lib.pow10Tab) (hb : Upd F w w') (hF : ∀ k, k < w.heap.size → ¬ F k) : Lib.TabIs Tryz.prog w' "internal/strconv.uint64pow10" .u64 Lib.pow10Tab := by
  unfold Lib.TabIs World.var? at *
  cases hg : Tryz.prog.globalNamed "internal/strconv.uint64pow10" with
  | none => simp [hg] at h
  | some g =>
    simp only [hg, Option.bind_some] at h ⊢
    have hlt : g < w.heap.size := by
      rcases Nat.lt_or_ge g w.heap.size with h' | h'
      · exact h'
      · rw [Array.getElem?_eq_none h'] at h; simp at h
    rw [hb.block g hlt (hF g hlt)]
    exact h
/-- what is asked of the nodes that are numbered -/
def OkN (ops : List By) (x : Tm) : Prop := NoCS x.name ∧ NoCS x.sort ∧ (x.sort = nul → x.name ∈ ops) ∧ x.name.size ≤ 1000 ∧ x.sort.size ≤ 1000
theorem dec_len (m : Nat) : (Lib.decDigits m).length ≤ m + 1 := by
  induction m using Nat.strongRecOn with
  | _ m ih =>
    rw [Lib.decDigits]
    split
    · simp
    · have := ih (m / 10) (by omega)
      rw [List.length_append, List.length_singleton]
      omega
theorem nstr_size (m : Nat) : (nstr m).size ≤ m + 1 := by
  have h := nstr_list m
  have h2 : (nstr m).size = (nstr m).data.toList.length := by rw [ByteArray.size, Array.length_toList]
  rw [h2, h]
  exact dec_len m
theorem key_size (n s : By) : ∀ ks : List Nat, (∀ k ∈ ks, k ≤ 100000) → (keyK n s ks).size ≤ n.size + s.size + 1 + ks.length * 100002 := by
  have h : ∀ (ks : List Nat) (b : By), (∀ k ∈ ks, k ≤ 100000) → (ks.foldl (fun b k => b ++ (spB ++ nstr k)) b).size ≤ b.size + ks.length * 100002 := by
    intro ks
    induction ks with
    | nil => intro b _; simp
    | cons k ks ih =>
      intro b hk
      rw [List.foldl_cons]
      have h1 := ih (b ++ (spB ++ nstr k)) (fun x hx => hk x (List.mem_cons_of_mem _ hx))
      have h2 := nstr_size k
      have h3 := hk k (List.mem_cons_self ..)
      have h4 : spB.size = 1 := rfl
      rw [ByteArray.size_append, ByteArray.size_append, h4] at h1
      rw [List.length_cons]
      omega
  intro ks hk
  have := h ks ((n ++ colonB) ++ s) hk
  have h4 : colonB.size = 1 := rfl
  rw [ByteArray.size_append, ByteArray.size_append, h4] at this
  unfold keyK
  omega
theorem empty_dec (s : By) : (ByteArray.toList s).isEmpty = decide (s = nul) := by
  rw [Bool.eq_iff_iff, decide_eq_true_eq, List.isEmpty_iff, Lib.toList_data]
  constructor
  · intro h
    exact ba_list (by rw [h]; rfl)
  · intro h; rw [h]; rfl
section
variable {ops : List By} {R B B' : Nat → Prop} {base n0 b : Nat} {w wr wq w5 w6 w7 w8 w9 : World} {N Nk N' : List Nt} {L : List Tm} {kidv kidv' : Value} {Bk : Nat → Prop} {ks : List Nat} {k c c' q : Nat}
end
end Go.Proofs.YtlkcjmaiahnodaaGreatDoor

/- The order: compare and a new order. -/
namespace Go.Proofs.YtlkcjmaiahnodaaGreatDoor
open Go.RowKit Go.Hw Go
set_option linter.unusedVariables false
set_option linter.unusedSimpArgs false

open Tm
end Go.Proofs.YtlkcjmaiahnodaaGreatDoor

/- Insertion of a name. -/
namespace Go.Proofs.YtlkcjmaiahnodaaGreatDoor
open Go.RowKit Go.Hw Go
set_option linter.unusedVariables false
set_option linter.unusedSimpArgs false

open Tm
end Go.Proofs.YtlkcjmaiahnodaaGreatDoor

/- operations. -/
namespace Go.Proofs.YtlkcjmaiahnodaaGreatDoor
open Go.RowKit Go.Hw Go
set_option linter.unusedVariables false
set_option linter.unusedSimpArgs false

open Tm
theorem ris_low {l : List By} {s : By} (h : Ris l) : (∀ t, t < lowF l s → blt (l.getD t nul) s = true) ∧ (∀ t, lowF l s ≤ t → t < l.length → blt (l.getD t nul) s = false) := by
  have hg : ∀ t, (h : t < l.length) → l.getD t nul = l[t] := fun t h => by rw [List.getD_eq_getElem?_getD, List.getElem?_eq_getElem h]; rfl
  have hle : lowF l s ≤ l.length := List.findIdx_le_length
  refine ⟨fun t ht => ?_, fun t ht htl => ?_⟩
  · rw [hg t (by omega)]
    have := List.not_of_lt_findIdx (show t < lowF l s from ht)
    simpa using this
  · rw [hg t htl]
    have h0 : lowF l s < l.length := by omega
    have h1 : (!blt l[lowF l s] s) = true := List.findIdx_getElem (p := fun x => !blt x s) (w := h0)
    have h2 : blt l[lowF l s] s = false := by simpa using h1
    rcases Nat.eq_or_lt_of_le ht with e | e
    · have : l[t] = l[lowF l s] := by congr 1; omega
      rw [this]; exact h2
    · rw [Bool.eq_false_iff]
      intro h3
      have := blt_trans (List.pairwise_iff_getElem.1 h (lowF l s) t h0 htl e) h3
      rw [h2] at this; cases this
theorem ris_mem {l : List By} {s : By} (h : Ris l) : (lowF l s < l.length ∧ l.getD (lowF l s) nul = s) ↔ s ∈ l := by
  have hg : ∀ t, (h : t < l.length) → l.getD t nul = l[t] := fun t h => by rw [List.getD_eq_getElem?_getD, List.getElem?_eq_getElem h]; rfl
  constructor
  · rintro ⟨h1, h2⟩
    rw [← h2, hg _ h1]
    exact List.getElem_mem h1
  · intro hm
    obtain ⟨p, hp, rfl⟩ := List.mem_iff_getElem.1 hm
    have h1 := ris_low (s := l[p]) h
    have h3 : lowF l l[p] = p := by
      rcases Nat.lt_trichotomy (lowF l l[p]) p with e | e | e
      · have h4 := h1.2 _ (Nat.le_refl _) (by omega)
        rw [hg _ (by omega), List.pairwise_iff_getElem.1 h _ p (by omega) hp e] at h4
        cases h4
      · exact e
      · have h4 := h1.1 p e
        rw [hg p hp, blt_irrefl] at h4
        cases h4
    rw [h3]
    exact ⟨hp, hg p hp⟩
theorem bsearch_x (l : List By) (x : By) (v : Value) (S : Nat → Prop) (w : World) (hR : StR S w v l) (hr : Ris l) (hl : l.length ≤ 1000000) :
    Calls Tryz.prog 195 #[v, .string x] w fun e w' => e = .returned (.tuple #[natV (lowF l x), .bool (decide (x ∈ l))]) ∧ Ext w w' := by
  obtain ⟨a, cap, rfl⟩ := SlR.shape hR
  by_cases h0 : 0 < l.length
  · obtain ⟨g, off, hga, _, hat⟩ := SlR.one_at (d := nul) hR h0
    subst hga
    obtain ⟨h1, h2⟩ := ris_low (s := x) hr
    have hm := ris_mem (s := x) hr
    have hle : lowF l x ≤ l.length := List.findIdx_le_length
    have hbs : Lib.bsGo (fun t => Op.bytesLess (ByteArray.toList (if t < l.length then l.getD t nul else x)) x.toList) l.length 0 l.length = lowF l x := by
      refine Lib.bsGo_spec _ (lowF l x) (fun t ht => ?_) (fun t ht => ?_) l.length 0 l.length (by omega) (Nat.zero_le _) hle
      · rw [if_pos (by omega), bless]; exact h1 t ht
      · by_cases htl : t < l.length
        · rw [if_pos htl, bless]; exact h2 t ht htl
        · rw [if_neg htl, bless]; exact blt_irrefl _
    refine (Tryz.slices_BinarySearch_string g off l.length cap (fun t => if t < l.length then l.getD t nul else x) x w (by omega) (fun j hj => by rw [if_pos hj]; exact hat j hj)).mono ?_
    rintro e w' ⟨rfl, q, rfl⟩
    refine ⟨?_, (Upd.refl _ w).drewN' q⟩
    rw [hbs]
    suffices hd : decide (lowF l x < l.length ∧ (if lowF l x < l.length then l.getD (lowF l x) nul else x) = x) = decide (x ∈ l) by rw [hd]
    rw [Bool.eq_iff_iff, decide_eq_true_eq, decide_eq_true_eq, ← hm]
    constructor
    · rintro ⟨k1, k2⟩; rw [if_pos k1] at k2; exact ⟨k1, k2⟩
    · rintro ⟨k1, k2⟩; rw [if_pos k1]; exact ⟨k1, k2⟩
  · have hl0 : l = [] := List.eq_nil_of_length_eq_zero (by omega)
    subst hl0
    refine (Tryz.slices_BinarySearch_string_empty a cap x w).mono ?_
    rintro e w' ⟨rfl, rfl⟩
    exact ⟨rfl, Upd.refl _ _⟩
theorem own_str {S : Nat → Prop} {base e : Nat} {W : World} {v : Value} {l : List By} (h : W.ownsRow base e 1 v l.length (l.map Value.string)) : StR (fun _ => True) W v l := (SlR.of_own h).weaken (fun _ _ => trivial)
end Go.Proofs.YtlkcjmaiahnodaaGreatDoor

/- precedence and formed. -/
namespace Go.Proofs.YtlkcjmaiahnodaaGreatDoor
open Go.RowKit Go.Hw Go
set_option linter.unusedVariables false
set_option linter.unusedSimpArgs false

open Tm
theorem con_x (l : List By) (x : By) (v : Value) (S : Nat → Prop) (w : World) (hR : StR S w v l) (hl : l.length ≤ 1000000) :
    Calls Tryz.prog 179 #[v, .string x] w fun e w' => e = .returned (.bool (decide (x ∈ l))) ∧ Ext w w' := by
  obtain ⟨a, cap, rfl⟩ := SlR.shape hR
  by_cases h0 : 0 < l.length
  · obtain ⟨g, off, hga, _, hat⟩ := SlR.one_at (d := nul) hR h0
    subst hga
    refine (Tryz.slices_Contains_string g off l.length cap l x w (Nat.le_refl _) (by omega) (fun j hj => hat j hj)).mono ?_
    rintro e w' ⟨rfl, rfl⟩
    refine ⟨?_, Upd.refl _ _⟩
    rw [List.take_length]
    suffices h : Lib.containsS l x = decide (x ∈ l) by rw [h]
    rw [Bool.eq_iff_iff, decide_eq_true_eq, Lib.containsS_iff]
  · have hl0 : l = [] := List.eq_nil_of_length_eq_zero (by omega)
    subst hl0
    refine (Tryz.slices_Contains_string_empty a cap x w).mono ?_
    rintro e w' ⟨rfl, rfl⟩
    exact ⟨rfl, Upd.refl _ _⟩
end Go.Proofs.YtlkcjmaiahnodaaGreatDoor

/- same of the rewrite package. -/
namespace Go.Proofs.YtlkcjmaiahnodaaGreatDoor
open Go.RowKit Go.Hw Go
set_option linter.unusedVariables false
set_option linter.unusedSimpArgs false

open Tm
theorem tg_ext {L M : List Tm} (hl : L.length = M.length) (h : ∀ j, j < L.length → tg L j = tg M j) : L = M := by
  refine List.ext_getElem hl (fun i h1 h2 => ?_)
  have := h i h1
  unfold tg at this
  rw [List.getD_eq_getElem?_getD, List.getD_eq_getElem?_getD, List.getElem?_eq_getElem h1, List.getElem?_eq_getElem h2] at this
  exact this
set_option maxRecDepth 100000 in
set_option maxHeartbeats 2000000 in
theorem eqf_x (L M : List Tm) (v v' : Value) (S T : Nat → Prop) (w : World) (hR : TlR S w L v) (hR' : TlR T w M v') (hl : L.length ≤ 1000000)
    (hf : ∀ t ∈ L, ∀ u v1 v2 W, Ext w W → TmR S W t v1 → TmR T W u v2 → Calls Tryz.prog 216 #[v1, v2] W fun e W' => e = .returned (.bool (decide (t = u))) ∧ Ext W W') :
    Calls Tryz.prog 190 #[v, v', .func (.func 216) #[] #[]] w fun e w' => e = .returned (.bool (decide (L = M))) ∧ Ext w w' := by
  obtain ⟨aa, ca, rfl⟩ := hR.shape
  obtain ⟨ab, cb, rfl⟩ := hR'.shape
  have HTL := Lib.hid (And.intro hR hR')
  have HF := Lib.hid hf
  have HL := Lib.hid hl
  clear hR hR' hf hl
  by_cases hlen : L.length = M.length
  · have hz1 : ((L.length : Int) != (M.length : Int)) = false := by simp [hlen]
    have H3 := Lib.hid hlen
    clear hlen
    go_enter Tryz.func190, Tryz.ntmps190
    go_wp2_with fail
    clear hz1
    go_loopg [17] L.length (fun gk iv wr => ∃ k : Nat, iv = .int .i64 (k : Int) ∧ gk = L.length - k ∧ k ≤ L.length ∧ Hid (∀ j, j < k → tg L j = tg M j) ∧ Hid (Ext w wr))
    case atStart => exact ⟨0, rfl, rfl, Nat.zero_le _, Lib.hid (fun j h => absurd h (Nat.not_lt_zero _)), Lib.hid (Upd.refl _ _)⟩
    case round =>
      obtain ⟨k, rfl, rfl, hk, HC, HE⟩ := hrel
      by_cases hlt : k < L.length
      · have hltM : k < M.length := by have := H3.out; omega
        obtain ⟨g, off, hga, _, hat⟩ := (HTL.out.1.ext HE.out).at_ (by omega)
        obtain ⟨g', off', hga', _, hat'⟩ := (HTL.out.2.ext HE.out).at_ (by omega)
        subst hga
        subst hga'
        obtain ⟨xa, xc, q0, q1, q2, hkid⟩ := hat k hlt
        obtain ⟨ya, yc, p0, p1, p2, hkid'⟩ := hat' k hltM
        have z0 : (0 : Int) ≤ (k : Int) := by omega
        have z1 : (k : Int) < (L.length : Int) := by omega
        have z2 : decide ((k : Int) < (L.length : Int)) = true := decide_eq_true z1
        have z2' : decide (k < L.length) = true := decide_eq_true hlt
        have z3 : (k : Int) < (M.length : Int) := by omega
        have HIX := Lib.hid (fun W (hW : Ext wr W) => HF.out (tg L k) (tg_mem L k hlt) (tg M k) _ _ W (HE.out.trans hW) ⟨xa, xc, rfl, hkid.ext hW⟩ ⟨ya, yc, rfl, hkid'.ext hW⟩)
        have HNX : Hid (tg L k = tg M k → ∀ j, j < k + 1 → tg L j = tg M j) := Lib.hid (fun h j hj => by
          rcases Nat.lt_succ_iff_lt_or_eq.1 hj with h5 | h5
          · exact HC.out j h5
          · rw [h5]; exact h)
        have HNE : Hid (tg L k ≠ tg M k → decide (L = M) = false) := Lib.hid (fun h => decide_eq_false (fun e => h (by rw [e])))
        dsimp only [tV] at HIX
        clear hat hat' hkid hkid'
        obtain ⟨x, hx⟩ : ∃ x, tg L k = x := ⟨_, rfl⟩
        obtain ⟨y, hy⟩ : ∃ y, tg M k = y := ⟨_, rfl⟩
        rw [hx] at q0 q1 q2 HIX HNX HNE
        rw [hy] at p0 p1 p2 HIX HNX HNE
        clear hx hy HC
        rw [← Nat.add_assoc] at q1 q2 p1 p2
        have hA := (Upd.refl (fun _ => False) wr).alloc (.cells #[.string x.name, .string x.sort, .slice xa x.kids.length xc] 24)
        have p0 := hA.cell p0 (fun h => h)
        have p1 := hA.cell p1 (fun h => h)
        have p2 := hA.cell p2 (fun h => h)
        have HZ := Lib.hid (hA.alloc (.cells #[.string y.name, .string y.sort, .slice ya y.kids.length yc] 24))
        have HA := Lib.hid (allocOld (alloc0 wr (.cells #[.string x.name, .string x.sort, .slice xa x.kids.length xc] 24)) (.cells #[.string y.name, .string y.sort, .slice ya y.kids.length yc] 24))
        have HB := Lib.hid (alloc_at (wr.alloc (.cells #[.string x.name, .string x.sort, .slice xa x.kids.length xc] 24)) (.cells #[.string y.name, .string y.sort, .slice ya y.kids.length yc] 24) (n := wr.heap.size + 1) (by simp))
        have a0 := cellRow HA.out 0 (.string x.name) rfl
        have a1 := cellRow HA.out 1 (.string x.sort) rfl
        have a2 := cellRow HA.out 2 (.slice xa x.kids.length xc) rfl
        have b0 := cellRow HB.out 0 (.string y.name) rfl
        have b1 := cellRow HB.out 1 (.string y.sort) rfl
        have b2 := cellRow HB.out 2 (.slice ya y.kids.length yc) rfl
        clear hA HA HB
        go_wp2_with fail
        refine (HIX.out _ HZ.out).mono ?_
        rintro e w8 ⟨rfl, hw8⟩
        have HE8 := Lib.hid (HE.out.trans (HZ.out.trans hw8))
        obtain ⟨b, hb⟩ : ∃ b, decide (x = y) = b := ⟨_, rfl⟩
        rw [hb]
        have HBB := Lib.hid hb
        clear hw8 hb HIX HZ q0 q1 q2 p0 p1 p2 a0 a1 a2 b0 b1 b2
        cases b
        · have HV := Lib.hid (HNE.out (of_decide_eq_false HBB.out))
          go_wp2_with fail
          go_ret
          rw [HV.out]
          exact ⟨rfl, HE8.out⟩
        · have HN := Lib.hid (HNX.out (of_decide_eq_true HBB.out))
          have hlL := HL.out
          go_wp2_with fail
          go_roundg (L.length - (k + 1))
          case measure => omega
          case rel => exact ⟨k + 1, by go_num, rfl, by omega, HN, HE8⟩
      · obtain rfl : k = L.length := by omega
        have z2 : decide ((L.length : Int) < (L.length : Int)) = false := decide_eq_false (by omega)
        have HV : Hid (decide (L = M) = true) := Lib.hid (decide_eq_true (tg_ext H3.out HC.out))
        clear HC
        go_wp2_with fail
        go_ret
        rw [HV.out]
        exact ⟨rfl, HE.out⟩
  · have hz1 : ((L.length : Int) != (M.length : Int)) = true := by simp; exact fun e => hlen (Int.ofNat.inj e)
    have HV : Hid (decide (L = M) = false) := Lib.hid (decide_eq_false (fun e => hlen (by rw [e])))
    clear hlen
    go_enter Tryz.func190, Tryz.ntmps190
    go_wp2_with fail
    go_ret
    rw [HV.out]
    exact ⟨rfl, Upd.refl _ _⟩
set_option maxRecDepth 100000 in
set_option maxHeartbeats 2000000 in
theorem rsame_x : ∀ (t u : Tm) (v v' : Value) (S T : Nat → Prop) (w : World), TmR S w t v → TmR T w u v' → t.size ≤ 1000000 →
    Calls Tryz.prog 216 #[v, v'] w fun e w' => e = .returned (.bool (decide (t = u))) ∧ Ext w w' := by
  refine Tm.ind (fun n s L ih => ?_)
  intro u v v' S T w hR hR' hsz
  obtain ⟨m, r, M⟩ := u
  obtain ⟨aa, ca, rfl, hT⟩ := hR
  obtain ⟨ab, cb, rfl, hT'⟩ := hR'
  dsimp only [tV, Tm.name, Tm.sort, Tm.kids] at hT hT' ⊢
  have hlL : L.length ≤ 1000000 := by have h1 := length_le_sizes L; have h2 := hsz; rw [size_eq] at h2; exact Nat.le_trans h1 (Nat.le_of_succ_le h2)
  have HC := Lib.hid (fun W (hW : Ext w W) => eqf_x L M _ _ S T W (hT.ext hW) (hT'.ext hW) hlL (fun t ht u v1 v2 W' hW' h1 h2 => ih t ht u v1 v2 S T W' h1 h2 (by have h1 := size_mem ht; have h2 := hsz; rw [size_eq] at h2; exact Nat.le_trans h1 (Nat.le_of_succ_le h2))))
  have HZ := Lib.hid (((Upd.refl (fun _ => False) w).alloc (.cells #[.string n, .string s, .slice aa L.length ca] 24)).alloc (.cells #[.string m, .string r, .slice ab M.length cb] 24))
  have HA := Lib.hid (allocOld (alloc0 w (.cells #[.string n, .string s, .slice aa L.length ca] 24)) (.cells #[.string m, .string r, .slice ab M.length cb] 24))
  have HB := Lib.hid (alloc_at (w.alloc (.cells #[.string n, .string s, .slice aa L.length ca] 24)) (.cells #[.string m, .string r, .slice ab M.length cb] 24) (n := w.heap.size + 1) (by simp))
  have a0 := cellRow HA.out 0 (.string n) rfl
  have a1 := cellRow HA.out 1 (.string s) rfl
  have a2 := cellRow HA.out 2 (.slice aa L.length ca) rfl
  have b0 := cellRow HB.out 0 (.string m) rfl
  have b1 := cellRow HB.out 1 (.string r) rfl
  have b2 := cellRow HB.out 2 (.slice ab M.length cb) rfl
  have hz : decide (Tm.mk n s L = .mk m r M) = (decide (n = m) && (decide (s = r) && decide (L = M))) := by
    rw [Bool.eq_iff_iff]; simp
  rw [hz]
  clear hz hT hT' ih hsz
  by_cases h1 : n = m
  · have t1 : (n.toList == m.toList) = true := by rw [h1]; simp
    have d1 : decide (n = m) = true := decide_eq_true h1
    rw [d1]
    clear h1 d1
    by_cases h2 : s = r
    · have t2 : (s.toList == r.toList) = true := by rw [h2]; simp
      have d2 : decide (s = r) = true := decide_eq_true h2
      rw [d2]
      clear h2 d2
      generalize decide (L = M) = Z at *
      go_enter Tryz.func216, Tryz.ntmps216
      go_wp2_with fail
      refine (HC.out _ HZ.out).mono ?_
      rintro e w4 ⟨rfl, hw4⟩
      have H4 := Lib.hid (HZ.out.trans hw4)
      clear hw4 a0 a1 a2 b0 b1 b2
      go_wp2_with fail
      go_ret
      exact ⟨rfl, H4.out⟩
    · have t2 : (s.toList == r.toList) = false := by rw [beq_eq_false_iff_ne]; exact fun e => h2 (ba_list (by rw [Lib.toList_data, Lib.toList_data] at e; exact e))
      have d2 : decide (s = r) = false := decide_eq_false h2
      rw [d2]
      clear h2 d2
      go_enter Tryz.func216, Tryz.ntmps216
      go_wp2_with fail
      go_ret
      exact ⟨rfl, HZ.out⟩
  · have t1 : (n.toList == m.toList) = false := by rw [beq_eq_false_iff_ne]; exact fun e => h1 (ba_list (by rw [Lib.toList_data, Lib.toList_data] at e; exact e))
    have d1 : decide (n = m) = false := decide_eq_false h1
    rw [d1]
    clear h1 d1
    go_enter Tryz.func216, Tryz.ntmps216
    go_wp2_with fail
    go_ret
    exact ⟨rfl, HZ.out⟩

end Go.Proofs.YtlkcjmaiahnodaaGreatDoor

/- match of the rewrite package. -/
namespace Go.Proofs.YtlkcjmaiahnodaaGreatDoor
open Go.RowKit Go.Hw Go
set_option linter.unusedVariables false
set_option linter.unusedSimpArgs false

open Tm
/-- what stands for the variables, in memory -/
def BdR (S : Nat → Prop) (w : World) (b : Nat) (σ : Sb) : Prop := ∃ l : List (By × Value), MpR (fun s : By => Value.string s) w b l ∧ (∀ n, σ n = none → afind l n = none) ∧ ∀ n t, σ n = some t → ∃ v, afind l n = some v ∧ TmR S w t v ∧ t.size ≤ 100000
section
variable {S F : Nat → Prop} {w w' w1 w2 : World} {b : Nat} {σ : Sb}
theorem BdR.kept (h : BdR S w b σ) (hu : Upd F w w') (hb : ¬ F b) (hF : ∀ k, S k → ¬ F k) : BdR S w' b σ := by
  obtain ⟨l, h1, h2, h3⟩ := h
  exact ⟨l, h1.kept hu hb, h2, fun n t e => by
    obtain ⟨v, g1, g2, g3⟩ := h3 n t e
    exact ⟨v, g1, g2.kept hu hF, g3⟩⟩
theorem BdR.ext (h : BdR S w b σ) (hu : Ext w w') : BdR S w' b σ := h.kept hu (fun h => h) (fun _ _ h => h)
theorem BdR.made (S : Nat → Prop) (w : World) : BdR S (w.alloc (.map #[] 0)) w.heap.size sb0 := ⟨[], MpR.made _ w, fun _ _ => rfl, fun n t h => by cases h⟩
theorem BdR.put {l : List (By × Value)} {n : By} {t : Tm} {v : Value} (h : (∀ n, σ n = none → afind l n = none) ∧ ∀ n t, σ n = some t → ∃ v, afind l n = some v ∧ TmR S w t v ∧ t.size ≤ 100000)
    (h1 : Upd (fun k => k = b) w w1) (h2 : Upd (fun k => k = b) w1 w2) (hm : MpR (fun s : By => Value.string s) w2 b (aput l n v)) (hS : ¬ S b) (ht : TmR S w t v) (hs : t.size ≤ 100000) : BdR S w2 b (σ.put n t) := by
  have hu := h1.trans h2
  have hF : ∀ k, S k → ¬ k = b := fun k hk e => hS (e ▸ hk)
  refine ⟨_, hm, fun m hm => ?_, fun m x hx => ?_⟩
  · rw [afind_put]
    unfold Sb.put at hm
    by_cases e : m = n
    · rw [if_pos e] at hm; cases hm
    · rw [if_neg e] at hm ⊢; exact h.1 m hm
  · rw [afind_put]
    unfold Sb.put at hx
    by_cases e : m = n
    · rw [if_pos e] at hx ⊢
      injection hx with hx
      subst hx
      exact ⟨v, rfl, ht.kept hu hF, hs⟩
    · rw [if_neg e] at hx ⊢
      obtain ⟨v', g1, g2, g3⟩ := h.2 m x hx
      exact ⟨v', g1, g2.kept hu hF, g3⟩
end
theorem ln_ne {a b : Nat} (h : ¬ a = b) : ((a : Int) != (b : Int)) = true := by simp; exact fun e => h (Int.ofNat.inj e)
set_option maxRecDepth 100000 in
set_option maxHeartbeats 2000000 in
theorem match_x : ∀ (p t : Tm) (v v' : Value) (S T : Nat → Prop) (σ : Sb) (b : Nat) (w : World), TmR S w p v → TmR T w t v' → BdR T w b σ → ¬ S b → ¬ T b → p.size ≤ 1000000 → t.size ≤ 100000 →
    Calls Tryz.prog 173 #[v, v', .map (some b)] w fun e w' => e = .returned (.bool (mtch p t σ).isSome) ∧ Upd (fun k => k = b) w w' ∧ ∀ τ, mtch p t σ = some τ → BdR T w' b τ := by
  refine Tm.ind (fun n s L ih => ?_)
  intro t v v' S T σ b w hP hT hB hS hTb hsz hszt
  obtain ⟨m, r, M⟩ := t
  obtain ⟨pa, pc, rfl, hP⟩ := hP
  obtain ⟨ta, tc, rfl, hT⟩ := hT
  dsimp only [tV, Tm.name, Tm.sort, Tm.kids] at hP hT ⊢
  have HPL := Lib.hid hP
  have HTM := Lib.hid hT
  have HBD := Lib.hid hB
  have HNS := Lib.hid hS
  have HNT := Lib.hid hTb
  have HSZT := Lib.hid hszt
  have HIH := Lib.hid ih
  have HNB : Hid (¬ w.heap.size + 1 = b) := Lib.hid (by obtain ⟨l, h1, _⟩ := hB; have := h1.lt; omega)
  have hlL : L.length ≤ 1000000 := by have h1 := length_le_sizes L; have h2 := hsz; rw [size_eq] at h2; exact Nat.le_trans h1 (Nat.le_of_succ_le h2)
  have HLL := Lib.hid hlL
  have hszl : sizes L + 1 ≤ 1000000 := by rw [size_eq] at hsz; exact hsz
  have hszm : sizes M + 1 ≤ 100000 := by rw [size_eq] at hszt; exact hszt
  have HSZ := Lib.hid (And.intro hszl hszm)
  have HSM := Lib.hid (fun (x : Tm) (vx : Value) (hx : TmR T w x vx) (hsx : x.size ≤ 100000) W (hW : Ext w W) => rsame_x x (.mk m r M) vx (.agg #[.string m, .string r, .slice ta M.length tc]) T T W (hx.ext hW) ⟨ta, tc, rfl, hT.ext hW⟩ (by omega))
  obtain ⟨V, hV⟩ : ∃ V, mtch (.mk n s L) (.mk m r M) σ = V := ⟨_, rfl⟩
  rw [hV]
  have HVV := Lib.hid hV
  clear ih hP hT hB hS hTb hsz hszt hlL hszl hszm hV
  have HZ := Lib.hid (((Upd.refl (fun _ => False) w).alloc (.cells #[.string n, .string s, .slice pa L.length pc] 24)).alloc (.cells #[.string m, .string r, .slice ta M.length tc] 24))
  have HA := Lib.hid (allocOld (alloc0 w (.cells #[.string n, .string s, .slice pa L.length pc] 24)) (.cells #[.string m, .string r, .slice ta M.length tc] 24))
  have HB := Lib.hid (alloc_at (w.alloc (.cells #[.string n, .string s, .slice pa L.length pc] 24)) (.cells #[.string m, .string r, .slice ta M.length tc] 24) (n := w.heap.size + 1) (by simp))
  have a0 := cellRow HA.out 0 (.string n) rfl
  have a1 := cellRow HA.out 1 (.string s) rfl
  have a2 := cellRow HA.out 2 (.slice pa L.length pc) rfl
  have b0 := cellRow HB.out 0 (.string m) rfl
  have b1 := cellRow HB.out 1 (.string r) rfl
  have b2 := cellRow HB.out 2 (.slice ta M.length tc) rfl
  by_cases hs0 : s.size = 0
  · have hse := empty_is _ hs0
    subst hse
    clear hs0 HSM
    by_cases hr0 : r.size = 0
    · have hre := empty_is _ hr0
      subst hre
      clear hr0
      by_cases hnm : m = n
      · have t1 : (m.toList == n.toList) = true := by rw [hnm]; simp
        by_cases hlen : M.length = L.length
        · have t2 : ((M.length : Int) != (L.length : Int)) = false := by simp [hlen]
          have HV0 : Hid (mtchL L M σ = V) := Lib.hid (by rw [← HVV.out]; exact (mtch_op (t := .mk m nul M) ⟨rfl, hnm, hlen⟩).symm)
          have HLN := Lib.hid hlen
          have HE0 : Hid (Upd (fun k => k = b) w ((w.alloc (.cells #[.string n, .string ⟨#[]⟩, .slice pa L.length pc] 24)).alloc (.cells #[.string m, .string ⟨#[]⟩, .slice ta M.length tc] 24))) := Lib.hid (HZ.out.mono (fun _ _ h => h.elim))
          have HB0 := Lib.hid (HBD.out.ext HZ.out)
          clear hnm hlen HVV HBD
          go_enter Tryz.func173, Tryz.ntmps173
          go_wp2_with fail
          clear t1 t2 a0 a1 a2 b0 b1 b2 HA HZ
          go_loopg [61] L.length (fun gk iv wr => ∃ (k : Nat) (τ : Sb), iv = .int .i64 (k : Int) ∧ gk = L.length - k ∧ k ≤ L.length ∧ Hid (BdR T wr b τ) ∧ Hid (mtchL (L.drop k) (M.drop k) τ = V) ∧ Hid (Upd (fun k => k = b) w wr) ∧ Hid (wr.heap[w.heap.size + 1]? = some (.cells #[.string m, .string ⟨#[]⟩, .slice ta M.length tc] 24 (0, 0))))
          case atStart => exact ⟨0, σ, rfl, rfl, Nat.zero_le _, HB0, HV0, HE0, HB⟩
          case round =>
            clear HB0 HV0 HE0 HB
            obtain ⟨k, τ, rfl, rfl, hk, HBD, HVK, HE, HBX⟩ := hrel
            by_cases hlt : k < L.length
            · have hltM : k < M.length := by have := HLN.out; omega
              obtain ⟨g, off, hga, _, hat⟩ := (HPL.out.kept HE.out (fun k hk e => HNS.out (e ▸ hk))).at_ (by omega)
              obtain ⟨g', off', hga', _, hat'⟩ := (HTM.out.kept HE.out (fun k hk e => HNT.out (e ▸ hk))).at_ (by omega)
              subst hga
              subst hga'
              obtain ⟨xa, xc, q0, q1, q2, hkid⟩ := hat k hlt
              obtain ⟨ya, yc, p0, p1, p2, hkid'⟩ := hat' k hltM
              have z0 : (0 : Int) ≤ (k : Int) := by omega
              have z1 : (k : Int) < (L.length : Int) := by omega
              have z2 : decide ((k : Int) < (L.length : Int)) = true := decide_eq_true z1
              have z2' : decide (k < L.length) = true := decide_eq_true hlt
              have z3 : (k : Int) < (M.length : Int) := by omega
              have HIX := Lib.hid (fun W (hW : Ext wr W) => HIH.out (tg L k) (tg_mem L k hlt) (tg M k) _ _ S T τ b W ⟨xa, xc, rfl, hkid.ext hW⟩ ⟨ya, yc, rfl, hkid'.ext hW⟩ (HBD.out.ext hW) HNS.out HNT.out (by have h1 := HSZ.out.1; have h2 := size_mem (tg_mem L k hlt); omega) (by have h1 := HSZ.out.2; have h2 := size_mem (tg_mem M k hltM); omega))
              have HVN := Lib.hid (HVK.out.symm.trans (mtchL_at (σ := τ) hlt hltM))
              dsimp only [tV] at HIX
              obtain ⟨x, hx⟩ : ∃ x, tg L k = x := ⟨_, rfl⟩
              obtain ⟨y, hy⟩ : ∃ y, tg M k = y := ⟨_, rfl⟩
              rw [hx] at q0 q1 q2 HIX HVN
              rw [hy] at p0 p1 p2 HIX HVN
              obtain ⟨U, hU⟩ : ∃ U, mtch x y τ = U := ⟨_, rfl⟩
              rw [hU] at HIX HVN
              clear hx hy hU HVK HBD hat hat' hkid hkid'
              rw [← Nat.add_assoc] at q1 q2 p1 p2
              have hQ := (Upd.refl (fun _ => False) wr).alloc (.cells #[.string x.name, .string x.sort, .slice xa x.kids.length xc] 24)
              have p0 := hQ.cell p0 (fun h => h)
              have p1 := hQ.cell p1 (fun h => h)
              have p2 := hQ.cell p2 (fun h => h)
              have HQ := Lib.hid hQ
              have hXB := alloc0 wr (.cells #[.string x.name, .string x.sort, .slice xa x.kids.length xc] 24)
              have e0 := cellRow hXB 0 (.string x.name) rfl
              have e1 := cellRow hXB 1 (.string x.sort) rfl
              have e2 := cellRow hXB 2 (.slice xa x.kids.length xc) rfl
              have hBQ := hQ.heap HBX.out (fun h => h)
              have b2 := cellRow hBQ 2 (.slice (some ⟨g', off', none⟩) M.length tc) rfl
              have HBQ := Lib.hid hBQ
              clear hQ hXB hBQ
              go_wp2_with fail
              generalize wr.alloc (.cells #[.string x.name, .string x.sort, .slice xa x.kids.length xc] 24) = wq at *
              go_still_tail 7, (by kernel_rfl)
              change wpList _ _ _ _ _ wq.drew
              go_wp2_with fail
              refine (HIX.out _ (HQ.out.drewN' 1)).mono ?_
              rintro e w8 ⟨rfl, hw8, hb8⟩
              have HE8 : Hid (Upd (fun k => k = b) w w8) := Lib.hid ((HE.out.ext (HQ.out.drewN' 1)).trans' hw8 (fun _ _ e => e))
              have HBX8 := Lib.hid (hw8.heap HBQ.out (fun e => HNB.out e))
              have HB8 := Lib.hid hb8
              clear hw8 hb8 HIX HQ HBQ p0 p1 p2 q0 q1 q2 e0 e1 e2 b2
              cases U with
              | none =>
                have HVX : Hid (V = none) := Lib.hid HVN.out
                simp only [Option.isSome_none]
                clear HVN
                go_wp2_with fail
                go_ret
                rw [HVX.out]
                exact ⟨rfl, HE8.out, fun _ h => by cases h⟩
              | some υ =>
                have HVX : Hid (mtchL (L.drop (k + 1)) (M.drop (k + 1)) υ = V) := Lib.hid HVN.out.symm
                have HBU := Lib.hid (HB8.out υ rfl)
                have hlL := HLL.out
                simp only [Option.isSome_some]
                clear HVN HB8
                go_wp2_with fail
                go_roundg (L.length - (k + 1))
                case measure => omega
                case rel => exact ⟨k + 1, υ, by go_num, rfl, by omega, HBU, HVX, HE8, HBX8⟩
            · obtain rfl : k = L.length := by omega
              have z2 : decide ((L.length : Int) < (L.length : Int)) = false := decide_eq_false (by omega)
              have HVX : Hid (V = some τ) := Lib.hid (by rw [← HVK.out, List.drop_length]; rfl)
              clear HVK
              go_wp2_with fail
              go_ret
              rw [HVX.out]
              exact ⟨rfl, HE.out, fun υ h => by injection h with h; rw [← h]; exact HBD.out⟩
        · have t2 := ln_ne hlen
          have HV : Hid (V = none) := Lib.hid (by rw [← HVV.out]; exact mtch_no (fun h => hlen h.2.2))
          clear hlen hnm
          go_enter Tryz.func173, Tryz.ntmps173
          go_wp2_with fail
          go_ret
          rw [HV.out]
          exact ⟨rfl, HZ.out.mono (fun _ _ h => h.elim), fun _ h => by cases h⟩
      · have t1 : (m.toList == n.toList) = false := str_ne hnm
        have HV : Hid (V = none) := Lib.hid (by rw [← HVV.out]; exact mtch_no (fun h => hnm h.2.1))
        clear hnm
        go_enter Tryz.func173, Tryz.ntmps173
        go_wp2_with fail
        go_ret
        rw [HV.out]
        exact ⟨rfl, HZ.out.mono (fun _ _ h => h.elim), fun _ h => by cases h⟩
    · have HV : Hid (V = none) := Lib.hid (by rw [← HVV.out]; exact mtch_no (fun h => hr0 (by rw [show r = nul from h.1]; rfl)))
      obtain ⟨r1, r2, r3, r4⟩ := nonempty_t r (by omega)
      go_enter Tryz.func173, Tryz.ntmps173
      go_wp2_with fail
      go_ret
      rw [HV.out]
      exact ⟨rfl, HZ.out.mono (fun _ _ h => h.elim), fun _ h => by cases h⟩
  · have HSN : Hid (s ≠ nul) := Lib.hid (fun e => hs0 (by rw [e]; rfl))
    obtain ⟨s1, s2, s3, s4⟩ := nonempty_t s (by omega)
    obtain ⟨l, hm, hn, hsm⟩ := HBD.out
    cases hx : σ n with
    | some x =>
      obtain ⟨vx, hf, hxT, hxs⟩ := hsm n x hx
      have HV : Hid (V = if x = .mk m r M then some σ else none) := Lib.hid (by rw [← HVV.out]; exact mtch_some HSN.out hx)
      have hl := MpR.get (P := Tryz.prog) (t := 208) (strKey Tryz.underlying9) Tryz.underlying208 (z := .agg #[.string ⟨#[]⟩, .string ⟨#[]⟩, .slice none 0 0]) (Tryz.zeroValue24 ((w.alloc (.cells #[.string n, .string s, .slice pa L.length pc] 24)).alloc (.cells #[.string m, .string r, .slice ta M.length tc] 24))) (hm.ext HZ.out) n true
      simp only [if_true] at hl
      rw [hf] at hl
      have HSX := Lib.hid (HSM.out x vx hxT hxs)
      obtain ⟨xa, xc, rfl, _⟩ := hxT
      dsimp only [tV] at HSX hl
      simp only [Option.getD_some, Option.isSome_some] at hl
      have HZ3 := Lib.hid (HZ.out.alloc (.cells #[.string x.name, .string x.sort, .slice xa x.kids.length xc] 24))
      have hb3 := allocOld HB.out (.cells #[.string x.name, .string x.sort, .slice xa x.kids.length xc] 24)
      have hx3 := alloc_at ((w.alloc (.cells #[.string n, .string s, .slice pa L.length pc] 24)).alloc (.cells #[.string m, .string r, .slice ta M.length tc] 24)) (.cells #[.string x.name, .string x.sort, .slice xa x.kids.length xc] 24) (n := w.heap.size + 2) (by simp)
      have x0 := cellRow hx3 0 (.string x.name) rfl
      have x1 := cellRow hx3 1 (.string x.sort) rfl
      have x2 := cellRow hx3 2 (.slice xa x.kids.length xc) rfl
      have c0 := cellRow hb3 0 (.string m) rfl
      have c1 := cellRow hb3 1 (.string r) rfl
      have c2 := cellRow hb3 2 (.slice ta M.length tc) rfl
      clear hm hn hsm hf hx hb3 hx3 HSM HIH HVV hxs
      go_enter Tryz.func173, Tryz.ntmps173
      go_wp2_with fail
      refine (HSX.out _ HZ3.out).mono ?_
      rintro e w8 ⟨rfl, hw8⟩
      have HE8 := Lib.hid (HZ3.out.trans hw8)
      clear hw8 hl x0 x1 x2 c0 c1 c2 a0 a1 a2 b0 b1 b2 HSX
      go_wp2_with fail
      go_ret
      rw [HV.out]
      by_cases e : x = .mk m r M
      · rw [if_pos e, decide_eq_true e]
        exact ⟨rfl, HE8.out.mono (fun _ _ h => h.elim), fun τ h => by injection h with h; rw [← h]; exact HBD.out.ext HE8.out⟩
      · rw [if_neg e, decide_eq_false e]
        exact ⟨rfl, HE8.out.mono (fun _ _ h => h.elim), fun _ h => by cases h⟩
    | none =>
      have hf := hn n hx
      have hl := MpR.get (P := Tryz.prog) (t := 208) (strKey Tryz.underlying9) Tryz.underlying208 (z := .agg #[.string ⟨#[]⟩, .string ⟨#[]⟩, .slice none 0 0]) (Tryz.zeroValue24 ((w.alloc (.cells #[.string n, .string s, .slice pa L.length pc] 24)).alloc (.cells #[.string m, .string r, .slice ta M.length tc] 24))) (hm.ext HZ.out) n true
      simp only [if_true] at hl
      rw [hf] at hl
      simp only [Option.getD_none, Option.isSome_none] at hl
      have HN := Lib.hid hx
      have HBDS := Lib.hid (And.intro hn hsm)
      have HZ3 := Lib.hid (HZ.out.alloc (.cells #[.string ⟨#[]⟩, .string ⟨#[]⟩, .slice none 0 0] 24))
      have HM3 := Lib.hid ((hm.ext HZ.out).ext ((Upd.refl (fun _ => False) ((w.alloc (.cells #[.string n, .string s, .slice pa L.length pc] 24)).alloc (.cells #[.string m, .string r, .slice ta M.length tc] 24))).alloc (.cells #[.string ⟨#[]⟩, .string ⟨#[]⟩, .slice none 0 0] 24)))
      have ha3 := allocOld HA.out (.cells #[.string ⟨#[]⟩, .string ⟨#[]⟩, .slice none 0 0] 24)
      have hb3 := allocOld HB.out (.cells #[.string ⟨#[]⟩, .string ⟨#[]⟩, .slice none 0 0] 24)
      have d0 := cellRow ha3 0 (.string n) rfl
      have d1 := cellRow ha3 1 (.string s) rfl
      have c0 := cellRow hb3 0 (.string m) rfl
      have c1 := cellRow hb3 1 (.string r) rfl
      have c2 := cellRow hb3 2 (.slice ta M.length tc) rfl
      clear hm hn hsm hf hx ha3 hb3 HSM HIH HBD
      by_cases hr0 : r.size = 0
      · have hre := empty_is _ hr0
        subst hre
        clear hr0
        have HRR : Hid ((⟨#[]⟩ : By) = nul) := Lib.hid rfl
        have HV : Hid (V = some (σ.put n (.mk m ⟨#[]⟩ M))) := Lib.hid (by rw [← HVV.out, mtch_new HSN.out HN.out]; exact if_neg (by rintro ⟨h1, h2⟩; first | exact h1 HRR.out | exact h2 HRR.out))
        obtain ⟨W4, hput, hmp, hu⟩ := MpR.put (P := Tryz.prog) (t := 208) (strKey Tryz.underlying9) Tryz.underlying208 HM3.out n (.agg #[.string m, .string ⟨#[]⟩, .slice ta M.length tc])
        try dsimp only at hput
        have HU4 : Hid (Upd (fun k => k = b) w W4) := Lib.hid ((HZ3.out.mono (fun _ _ h => h.elim)).trans hu)
        have HBD : Hid (BdR T W4 b (σ.put n (.mk m ⟨#[]⟩ M))) := Lib.hid (BdR.put HBDS.out (HZ3.out.mono (fun _ _ h => h.elim)) hu hmp HNT.out ⟨ta, tc, rfl, HTM.out⟩ HSZT.out)
        clear hmp hu
        go_enter Tryz.func173, Tryz.ntmps173
        go_wp2_with fail
        go_ret
        rw [HV.out]
        exact ⟨rfl, HU4.out, fun τ h => by injection h with h; rw [← h]; exact HBD.out⟩
      · obtain ⟨r1, r2, r3, r4⟩ := nonempty_t r (by omega)
        by_cases hrs : r = s
        · have t1 : (r.toList == s.toList) = true := by rw [hrs]; simp
          have HRR := Lib.hid hrs
          clear hrs
          have HV : Hid (V = some (σ.put n (.mk m r M))) := Lib.hid (by rw [← HVV.out, mtch_new HSN.out HN.out]; exact if_neg (by rintro ⟨h1, h2⟩; first | exact h1 HRR.out | exact h2 HRR.out))
          obtain ⟨W4, hput, hmp, hu⟩ := MpR.put (P := Tryz.prog) (t := 208) (strKey Tryz.underlying9) Tryz.underlying208 HM3.out n (.agg #[.string m, .string r, .slice ta M.length tc])
          try dsimp only at hput
          have HU4 : Hid (Upd (fun k => k = b) w W4) := Lib.hid ((HZ3.out.mono (fun _ _ h => h.elim)).trans hu)
          have HBD : Hid (BdR T W4 b (σ.put n (.mk m r M))) := Lib.hid (BdR.put HBDS.out (HZ3.out.mono (fun _ _ h => h.elim)) hu hmp HNT.out ⟨ta, tc, rfl, HTM.out⟩ HSZT.out)
          clear hmp hu
          go_enter Tryz.func173, Tryz.ntmps173
          go_wp2_with fail
          go_ret
          rw [HV.out]
          exact ⟨rfl, HU4.out, fun τ h => by injection h with h; rw [← h]; exact HBD.out⟩
        · have t1 : (r.toList == s.toList) = false := str_ne hrs
          have HV : Hid (V = none) := Lib.hid (by rw [← HVV.out, mtch_new HSN.out HN.out]; exact if_pos ⟨fun e => hr0 (by rw [show r = nul from e]; rfl), hrs⟩)
          clear hrs
          go_enter Tryz.func173, Tryz.ntmps173
          go_wp2_with fail
          go_ret
          rw [HV.out]
          exact ⟨rfl, HZ3.out.mono (fun _ _ h => h.elim), fun _ h => by cases h⟩

end Go.Proofs.YtlkcjmaiahnodaaGreatDoor
