/- The texts I17 I70 I71 I72, one behind the other. -/
import Derived.Test.YtjjaknmnhhfjeaaGreatDoorKAK
import Derived.Test.YtjjaknmnhhfjeaaGreatDoorKAF
import Derived.Deep.RegionHeld3
import Derived.Test.YtjjaknmnhhfjeaaGreatDoorKAI
/- add of the reference. -/
namespace Go.Proofs.YtjjaknmnhhfjeaaGreatDoor
open Go.RowKit Go.Hw Go
set_option linter.unusedVariables false
set_option linter.unusedSimpArgs false

open Tm
structure AddJ (R B T : Nat → Prop) (base n0 : Nat) (w wr : World) (N : List Nt) (L : List Tm) (lk kk kidv : Value) (Nk : List Nt) (Bk : Nat → Prop) (ks : List Nat) (k c : Nat) : Prop where
  sub : SubR (fun j => R j ∨ (n0 ≤ j ∧ j < n0 + 3) ∨ kidv.ownBlock = some j) Bk T base wr lk kk Nk
  own : wr.ownsRow (n0 + 3) 3 1 kidv k (ks.map natV)
  len : ks.length = k
  map : ks.map (fun q => (ng Nk q).1) = L.take k
  lt : ∀ q ∈ ks, q < Nk.length
  blk : ∀ j, Bk j → B j ∨ n0 + 3 ≤ j
  upd : Upd B w wr
  size : n0 + 3 ≤ wr.heap.size
  pre : N <+: Nk
  cnt : Nk.length = c
  hn : n0 = w.heap.size
  bn : base ≤ n0
  rb : ∀ j, R j → base ≤ j ∧ j < n0
  bb : ∀ j, B j → base ≤ j ∧ j < n0
  al : ∀ i, N.length ≤ i → i < Nk.length → ∃ x ∈ L, (ng Nk i).1 ∈ sbts x
section
variable {R B T B' : Nat → Prop} {base n0 : Nat} {w wr wq w5 w6 w7 w8 : World} {N Nk N' : List Nt} {L : List Tm} {lk kk kidv lk' kk' : Value} {Bk : Nat → Prop} {ks : List Nat} {k c c' : Nat}
theorem AddJ.resB (h : AddJ R B T base n0 w wr N L lk kk kidv Nk Bk ks k c) : ∀ j, Bk j → ¬ (n0 ≤ j ∧ j < n0 + 3) ∧ kidv.ownBlock ≠ some j := fun j hj => by
  have := (h.sub.lt j hj).2.2
  exact ⟨fun x => this (.inr (.inl x)), fun x => this (.inr (.inr x))⟩
theorem AddJ.call (h : AddJ R B T base n0 w wr N L lk kk kidv Nk Bk ks k c) (hq : Ext wr wq) (hs : SubR (fun j => R j ∨ (n0 ≤ j ∧ j < n0 + 3) ∨ kidv.ownBlock = some j) B' T base w5 lk' kk' N') (hu : Upd Bk wq w5)
    (hb : ∀ j, B' j → Bk j ∨ wq.heap.size ≤ j) (hp : Nk <+: N') (hc : N'.length = c') (hst : Upd (fun j => j = n0) w5 w6) {x : Tm} (hxm : x ∈ L) (hal : ∀ i, Nk.length ≤ i → i < N'.length → (ng N' i).1 ∈ sbts x) : AddJ R B T base n0 w w6 N L lk' kk' kidv N' B' ks k c' := by
  have hkid : ∀ j, kidv.ownBlock = some j → n0 + 3 ≤ j := fun j hj => (h.own.lt j hj).1
  refine ⟨hs.upd hst (fun j hj => ⟨.inr (.inl (by omega)), by rw [hj]; exact h.bn⟩), own_kept (own_kept (own_kept h.own hq (fun _ _ x => x)) hu (fun j hj hx => (h.resB j hx).2 hj)) hst (fun j hj hx => by have := hkid j hj; omega),
    h.len, ?_, fun q hq' => Nat.lt_of_lt_of_le (h.lt q hq') hp.length_le, fun j hj => ?_, ((h.upd.ext hq).trans' hu (fun j hj hx => ?_)).trans' hst (fun j hj hx => ?_), ?_, h.pre.trans hp, hc, h.hn, h.bn, h.rb, h.bb, fun i h1 h2 => ?_⟩
  · rw [← h.map]
    exact List.map_congr_left fun q hq' => by rw [ng_pre hp (h.lt q hq')]
  · rcases hb j hj with hx | hx
    · exact h.blk j hx
    · exact .inr (Nat.le_trans (Nat.le_trans h.size hq.size) hx)
  · rcases h.blk j hx with h2 | h2
    · exact h2
    · have := h.hn; omega
  · have := h.hn; omega
  · exact Nat.le_trans (Nat.le_trans (Nat.le_trans h.size hq.size) hu.size) hst.size
  · by_cases h3 : i < Nk.length
    · rw [ng_pre hp h3]; exact h.al i h1 h3
    · exact ⟨x, hxm, hal i (by omega) h2⟩
theorem AddJ.grow {kidv' : Value} {q : Nat} (h : AddJ R B T base n0 w wr N L lk kk kidv Nk Bk ks k c) (hA : Ext wr w7) (hG : Grew (n0 + 3) 3 1 kidv (k + 1) (ks.map natV ++ [natV q]) w7 w8 kidv') (hq : q < Nk.length) (hk : k < L.length) (hx : (ng Nk q).1 = tg L k) :
    AddJ R B T base n0 w w8 N L lk kk kidv' Nk Bk (ks ++ [q]) (k + 1) c := by
  have hkid : ∀ j, kidv.ownBlock = some j → n0 + 3 ≤ j := fun j hj => (h.own.lt j hj).1
  have hsz : n0 + 3 ≤ w7.heap.size := Nat.le_trans h.size hA.size
  refine ⟨?_, ?_, by simp [h.len], ?_, fun p hp => ?_, h.blk, (h.upd.ext hA).trans' hG.upd (fun j hj hx => ?_), Nat.le_trans hsz hG.upd.size, h.pre, h.cnt, h.hn, h.bn, h.rb, h.bb, h.al⟩
  · refine (((h.sub.ext hA).reserve).upd hG.upd (fun j hj => ⟨.inl (.inr (.inr hj)), ?_⟩)).weaken (fun j hj => ?_)
    · have := hkid j hj; have := h.bn; omega
    · rcases hj with hj | hj | hj
      · exact .inl (.inl hj)
      · exact .inl (.inr (.inl hj))
      · rcases hG.where_ with e | e
        · rw [e] at hj; exact .inl (.inr (.inr hj))
        · rw [e] at hj
          injection hj with hj
          exact .inr (by omega)
  · have := hG.own
    rw [List.map_append]
    exact this
  · rw [List.map_append, h.map, List.map_singleton, hx, List.take_add_one]
    have : L[k]?.toList = [tg L k] := by unfold tg; rw [List.getD_eq_getElem?_getD, List.getElem?_eq_getElem hk]; rfl
    rw [this]
  · rw [List.mem_append, List.mem_singleton] at hp
    rcases hp with hp | hp
    · exact h.lt p hp
    · rw [hp]; exact hq
  · have := hkid j hx; have := h.hn; omega
end
theorem rows_ne {e e' sz sz' n n' b b' : Nat} {W : World} {u v : Value} {xs ys : List Value} (h : W.ownsRow b e sz u n xs) (h' : W.ownsRow b' e' sz' v n' ys) (hne : e ≠ e') : ∀ k, u.ownBlock = some k → v.ownBlock ≠ some k := by
  intro k hk hk'
  rcases h.2 with ⟨e1, _⟩ | ⟨g, cap, cur, rfl, hb, hg, _⟩
  · rw [e1] at hk; simp [Value.ownBlock] at hk
  · rcases h'.2 with ⟨e2, _⟩ | ⟨g', cap', cur', rfl, hb', hg', _⟩
    · rw [e2] at hk'; simp [Value.ownBlock] at hk'
    · simp only [Value.ownBlock, Option.some.injEq] at hk hk'
      subst hk
      subst hk'
      rw [hg] at hg'
      injection hg' with hg'
      injection hg' with _ h3
      exact hne h3
theorem own_lt {b e sz n : Nat} {W : World} {v : Value} {xs : List Value} (h : W.ownsRow b e sz v n xs) : ∀ k, v.ownBlock = some k → k < W.heap.size := by
  intro k hk
  rcases h.2 with ⟨e1, _⟩ | ⟨g, cap, cur, rfl, hb, hg, _⟩
  · rw [e1] at hk; simp [Value.ownBlock] at hk
  · simp only [Value.ownBlock, Option.some.injEq] at hk
    subst hk
    exact (Array.getElem?_eq_some_iff.1 hg).1
theorem AddJ.fin {R B T : Nat → Prop} {base n0 : Nat} {w wr wa wc wd wb we wf : World} {N : List Nt} {nm so : By} {L : List Tm} {lk kk kidv v7 v9 u : Value} {Nk : List Nt} {Bk : Nat → Prop} {ks : List Nat} {c : Nat} {us kz : List Value} {G : Nat → Prop}
    (h : AddJ R B T base n0 w wr N L lk kk kidv Nk Bk ks L.length c)
    (h1 : us.length = Nk.length) (h2 : kz.length = Nk.length) (h5 : ∀ i, i < Nk.length → TlR T wr (ng Nk i).1.kids (ug us i)) (h6 : ∀ i, i < Nk.length → SlR G wr 1 (ug kz i) (ng Nk i).2.length ((ng Nk i).2.map natV))
    (h7 : ∀ k, G k → base ≤ k ∧ k < wr.heap.size ∧ ¬ Bk k ∧ ¬ (R k ∨ (n0 ≤ k ∧ k < n0 + 3) ∨ kidv.ownBlock = some k))
    (hA1 : Ext wr wa) (hG1 : Grew base 24 3 lk (Nk.length + 1) (tCells (Nk.map (·.1)) us ++ [.string nm, .string so, u]) wa wc v7) (hs1 : Upd (fun j => j = n0) wc wd)
    (hA2 : Ext wd wb) (hG2 : Grew base 25 1 kk (Nk.length + 1) (kz ++ [kidv]) wb we v9) (hs2 : Upd (fun j => j = n0 ∨ j = n0 + 2) we wf) (hu : TlR T wr L u) :
    ∃ N' B', SubR R B' T base wf v7 v9 N' ∧ Upd B w wf ∧ (∀ j, B' j → B j ∨ w.heap.size ≤ j) ∧ N <+: N' ∧ N'.length = c + 1 ∧ (ng N' (N'.length - 1)).1 = .mk nm so L ∧ ∀ i, N.length ≤ i → i < N'.length → (ng N' i).1 ∈ sbts (.mk nm so L) := by
  have hV : ∀ k, kidv.ownBlock = some k → n0 + 3 ≤ k ∧ k < wr.heap.size := fun k hk => ⟨(h.own.lt k hk).1, own_lt h.own k hk⟩
  have hBn : ∀ k, Bk k → ¬ (n0 ≤ k ∧ k < n0 + 3) ∧ kidv.ownBlock ≠ some k := h.resB
  have hBs : ∀ k, Bk k → k < wr.heap.size := fun k hk => (h.sub.lt k hk).2.1
  have hn0 : n0 + 3 ≤ wr.heap.size := h.size
  have hU : Upd (fun k => Bk k ∨ k = n0 ∨ k = n0 + 2) wr wf := by
    have u1 : Upd (fun k => Bk k ∨ k = n0 ∨ k = n0 + 2) wr wc := ((Upd.refl _ wr).ext hA1).trans' hG1.upd (fun i hi hx => .inl (h.sub.blkL i hx))
    have u2 := (u1.trans' hs1 (fun i hi hx => .inr (.inl hx))).ext hA2
    have u3 := u2.trans' hG2.upd (fun i hi hx => .inl (h.sub.blkK i hx))
    exact u3.trans' hs2 (fun i hi hx => .inr hx)
  have hsz1 := hA1.size
  have hsz2 := hG1.upd.size
  have hsz3 := hs1.size
  have hsz4 := hA2.size
  have hsz5 := hG2.upd.size
  have hsz6 := hs2.size
  have hb7 : ∀ k, v7.ownBlock = some k → Bk k ∨ wr.heap.size ≤ k := fun k hk => by
    rcases hG1.where_ with e | e
    · rw [e] at hk; exact .inl (h.sub.blkL k hk)
    · rw [e] at hk; injection hk with hk; exact .inr (by omega)
  have hb9 : ∀ k, v9.ownBlock = some k → Bk k ∨ wr.heap.size ≤ k := fun k hk => by
    rcases hG2.where_ with e | e
    · rw [e] at hk; exact .inl (h.sub.blkK k hk)
    · rw [e] at hk; injection hk with hk; exact .inr (by omega)
  have hnb : ∀ k, Bk k ∨ wr.heap.size ≤ k → k ≠ n0 ∧ k ≠ n0 + 2 := fun k hk => by
    rcases hk with hk | hk
    · have := (hBn k hk).1; omega
    · omega
  obtain ⟨_, _, _, _, _, h4, _⟩ := h.sub.rows
  have hKb : wb.ownsRow base 24 3 v7 (Nk.length + 1) (tCells (Nk.map (·.1)) us ++ [.string nm, .string so, u]) := own_kept (own_kept hG1.own hs1 (fun k hk e => (hnb k (hb7 k hk)).1 e)) hA2 (fun _ _ x => x)
  have hne : ∀ k, v7.ownBlock = some k → kk.ownBlock ≠ some k := fun k hk hk' => by
    obtain ⟨us', kz', G', r1, r2, r3, r4, _⟩ := h.sub.rows
    have r4b : wb.ownsRow base 25 1 kk Nk.length kz' := by
      have hx : ∀ k, kk.ownBlock = some k → lk.ownBlock ≠ some k := fun k h1 h2 => rows_ne r3 r4 (by decide) k h2 h1
      exact own_kept (own_kept (own_kept (own_kept r4 hA1 (fun _ _ x => x)) hG1.upd (fun k h1 h2 => hx k h1 h2)) hs1 (fun k h1 e => (hnb k (.inl (h.sub.blkK k h1))).1 e)) hA2 (fun _ _ x => x)
    exact rows_ne hKb r4b (by decide) k hk hk'
  have hL : wf.ownsRow base 24 3 v7 (Nk.length + 1) (tCells (Nk.map (·.1)) us ++ [.string nm, .string so, u]) := own_kept (own_kept hKb hG2.upd (fun k hk e => hne k hk e)) hs2 (fun k hk e => by have := hnb k (hb7 k hk); rcases e with e | e <;> omega)
  have hK : wf.ownsRow base 25 1 v9 (Nk.length + 1) (kz ++ [kidv]) := own_kept hG2.own hs2 (fun k hk e => by have := hnb k (hb9 k hk); rcases e with e | e <;> omega)
  have hown : SlR (fun k => kidv.ownBlock = some k) wr 1 kidv ks.length (ks.map natV) := by have := SlR.of_own h.own; rw [← h.len] at this; exact this
  have hP := h.sub.push (t := .mk nm so L) (u := u) (v := kidv) (lv' := v7) (kv' := v9) (us := us) (ks := kz) (G := G) (V := fun k => kidv.ownBlock = some k) (R0 := R) (kn := ks) (w' := wf) h1 h2 h5 h6 h7
    (hU.mono (fun k hk hx => by
      rcases hx with hx | hx
      · exact .inl hx
      · refine .inr ⟨.inr (.inl (by omega)), by have := h.bn; omega, fun e => by have := hV k e; omega⟩)) hL hK
    (fun k hk => (hb7 k hk).imp id (fun e => ⟨e, own_lt hL k hk⟩)) (fun k hk => (hb9 k hk).imp id (fun e => ⟨e, own_lt hK k hk⟩)) (by have := h.bn; omega) hu hown
    (fun k hk => ⟨.inr (.inr hk), by have := (hV k hk).1; have := h.bn; omega, (hV k hk).2⟩) (fun k hk => ⟨.inl hk, by have := h.rb k hk; omega, fun e => by have := h.rb k hk; have := hV k e; omega⟩) h.lt (by rw [h.map, List.take_length]; rfl)
  refine ⟨_, _, hP, h.upd.trans' hU (fun i hi hx => ?_), fun j hj => ?_, h.pre.trans (List.prefix_append _ _), by rw [List.length_append, h.cnt]; rfl, ?_, fun i hi1 hi2 => ?_⟩
  · have := h.hn
    rcases hx with hx | hx
    · rcases h.blk i hx with h8 | h8
      · exact h8
      · omega
    · omega
  · have := h.hn
    rcases hj with hj | hj
    · rcases h.blk j hj with h8 | h8
      · exact .inl h8
      · exact .inr (by omega)
    · exact .inr (by omega)
  · rw [List.length_append, List.length_singleton, Nat.add_sub_cancel, ng_last]
  · rw [List.length_append, List.length_singleton] at hi2
    rw [sbts_eq]
    by_cases h3 : i < Nk.length
    · rw [ng_left _ h3]
      obtain ⟨x, hx, hx2⟩ := h.al i hi1 h3
      exact List.mem_cons_of_mem _ (List.mem_flatMap.2 ⟨x, hx, hx2⟩)
    · obtain rfl : i = Nk.length := by omega
      rw [ng_last]
      exact List.mem_cons_self ..
theorem infoT : (Tryz.prog.info? 24).map (fun i => (i.zero, i.size, i.bytes)) = some (some (.agg #[.string ⟨#[]⟩, .string ⟨#[]⟩, .slice none 0 0]), 3, 56) := by kernel_rfl
theorem sizes_take (L : List Tm) (k : Nat) (h : k < L.length) : sizes (L.take (k + 1)) = sizes (L.take k) + (tg L k).size := by
  rw [tk_snoc L k h, sizes_append]
  simp [sizes]
theorem sizes_take_le (L : List Tm) (k : Nat) : sizes (L.take k) ≤ sizes L := by
  have : sizes L = sizes (L.take k) + sizes (L.drop k) := by rw [← sizes_append, List.take_append_drop]
  omega
end Go.Proofs.YtjjaknmnhhfjeaaGreatDoor

/- copied. -/
namespace Go.Proofs.YtjjaknmnhhfjeaaGreatDoor
open Go.RowKit Go.Hw Go
set_option linter.unusedVariables false
set_option linter.unusedSimpArgs false

open Tm
theorem TlO.shape {te : TypeId} {w : World} {B : Nat → Prop} {L : List Tm} {v : Value} (h : TlO te w B L v) : ∃ a cap, v = .slice a L.length cap := h.read.shape
theorem new3 (w : World) (u0 u1 u2 : Value) (t : TypeId) : ∀ (j : Nat) (u : Value), [u0, u1, u2][j]? = some u → (w.alloc (.cells #[u0, u1, u2] t)).cell? ((⟨w.heap.size, 0, none⟩ : Addr).add j) = some u := fun j u hj => by
  match j, hj with
  | 0, hj => simp only [List.getElem?_cons_zero, Option.some.injEq] at hj; subst hj; simp only [Addr.add]; exact cellRow (alloc0 _ _) 0 _ rfl
  | 1, hj => simp at hj; subst hj; simp only [Addr.add]; exact cellRow (alloc0 _ _) 1 _ rfl
  | 2, hj => simp at hj; subst hj; simp only [Addr.add]; exact cellRow (alloc0 _ _) 2 _ rfl
structure CpJ (te : TypeId) (n0 : Nat) (wr : World) (L : List Tm) (lv : Value) (us : List Value) (Bk : Nat → Nat → Prop) (k : Nat) : Prop where
  len : us.length = k
  own : wr.ownsRow n0 te 3 lv k (tCells (L.take k) us)
  kid : ∀ i, i < k → TlO te wr (Bk i) (tg L i).kids (ug us i)
  blk : ∀ i j, i < k → Bk i j → n0 ≤ j ∧ j < wr.heap.size ∧ lv.ownBlock ≠ some j
  dis : ∀ i i' j, i < k → i' < k → i ≠ i' → Bk i j → ¬ Bk i' j
theorem CpJ.grow {te : TypeId} {n0 n3 k : Nat} {wr wq w5 wA w7 w8 : World} {L : List Tm} {lv lv' u : Value} {us : List Value} {Bk : Nat → Nat → Prop} {Bx : Nat → Prop} {x : Tm} (h : CpJ te n0 wr L lv us Bk k) (hk : k < L.length) (hx : tg L k = x) (hn : n3 < n0) (h0 : n0 ≤ wr.heap.size) (hq : Ext wr wq) (h5 : Ext wq w5)
    (hT : TlO te w5 Bx x.kids u) (hB : ∀ j, Bx j → wq.heap.size ≤ j ∧ j < w5.heap.size) (hA : Ext w5 wA) (hG : Grew n0 te 3 lv (k + 1) (tCells (L.take k) us ++ [.string x.name, .string x.sort, u]) wA w7 lv') (h8 : Upd (fun j => j = n3) w7 w8) :
    CpJ te n0 w8 L lv' (us ++ [u]) (fun i => if i = k then Bx else Bk i) (k + 1) := by
  have hU1 : Upd (fun j => lv.ownBlock = some j) wr w7 := (((hq.trans h5).trans hA).mono (fun _ _ x => x.elim)).trans hG.upd
  have hlt := fun j hj => h.own.lt j hj
  have hF : ∀ (P : Nat → Prop) (Lx : List Tm) (vx : Value), TlO te w7 P Lx vx → (∀ j, P j → n0 ≤ j) → TlO te w8 P Lx vx := fun P Lx vx ht hp => ht.kept h8 (fun j hj e => by have := hp j hj; omega)
  refine ⟨by rw [List.length_append, h.len]; rfl, ?_, fun i hi => ?_, fun i j hi hj => ?_, fun i i' j hi hi' hne hj => ?_⟩
  · rw [tk_snoc L k hk, tCells_snoc _ _ _ _ (by rw [h.len, List.length_take]; omega), hx]
    exact own_kept hG.own h8 (fun j hj e => by have := (hG.own.lt j hj).1; omega)
  · by_cases e : i = k
    · subst e
      rw [if_pos rfl, hx]
      have e2 : ug (us ++ [u]) i = u := by unfold ug; rw [List.getD_eq_getElem?_getD, List.getElem?_append_right (by rw [h.len]; exact Nat.le_refl _), h.len, Nat.sub_self]; rfl
      rw [e2]
      refine hF _ _ _ ((hT.kept hA (fun _ _ x => x)).kept hG.upd (fun j hj e => ?_)) (fun j hj => by have h1 := hB j hj; have := hq.size; omega)
      have h1 := (hB j hj).1
      have h2 := (hlt j e).2
      have := hq.size
      omega
    · rw [if_neg e]
      have e2 : ug (us ++ [u]) i = ug us i := by unfold ug; rw [List.getD_eq_getElem?_getD, List.getD_eq_getElem?_getD, List.getElem?_append_left (by rw [h.len]; omega)]
      rw [e2]
      exact hF _ _ _ ((h.kid i (by omega)).kept hU1 (fun j hj e => (h.blk i j (by omega) hj).2.2 e)) (fun j hj => (h.blk i j (by omega) hj).1)
  · have hs8 := h8.size
    have hs7 := hG.upd.size
    have hsA := hA.size
    have hs5 := h5.size
    have hsq := hq.size
    have hbn : ∀ j, lv'.ownBlock = some j → lv.ownBlock = some j ∨ w5.heap.size ≤ j := fun j e => by
      rcases hG.where_ with h | h
      · rw [h] at e; exact .inl e
      · rw [h] at e; injection e with e; exact .inr (by omega)
    by_cases e : i = k
    · subst e
      rw [if_pos rfl] at hj
      have h1 := hB j hj
      refine ⟨by omega, by omega, fun e => ?_⟩
      rcases hbn j e with h2 | h2
      · have := (hlt j h2).2; omega
      · omega
    · rw [if_neg e] at hj
      obtain ⟨h1, h2, h3⟩ := h.blk i j (by omega) hj
      refine ⟨h1, by omega, fun e => ?_⟩
      rcases hbn j e with h4 | h4
      · exact h3 h4
      · omega
  · have hsq := hq.size
    by_cases e : i = k
    · subst e
      rw [if_pos rfl] at hj
      have h1 := hB j hj
      rw [if_neg (fun e => hne e.symm)]
      intro h2
      have := (h.blk i' j (by omega) h2).2.1
      omega
    · rw [if_neg e] at hj
      by_cases e' : i' = k
      · subst e'
        rw [if_pos rfl]
        intro h2
        have h3 := hB j h2
        have := (h.blk i j (by omega) hj).2.1
        omega
      · rw [if_neg e']
        exact h.dis i i' j (by omega) (by omega) hne hj
theorem CpJ.fin {te : TypeId} {n0 : Nat} {wr : World} {L : List Tm} {lv : Value} {us : List Value} {Bk : Nat → Nat → Prop} (h : CpJ te n0 wr L lv us Bk L.length) : TlO te wr (fun j => n0 ≤ j ∧ j < wr.heap.size) L lv := by
  have ho := h.own
  rw [List.take_length] at ho
  exact ⟨_, L, us, lv, Bk, h.len, ⟨ho.1, ho.2.imp id (fun ⟨g, c, cur, e, _, h2⟩ => ⟨g, c, cur, e, Nat.zero_le _, h2⟩)⟩, fun k hk => ⟨(ho.lt k hk).1, (ho.lt k hk).2⟩, fun i k hi hk => ⟨(h.blk i k hi hk).1, (h.blk i k hi hk).2.1⟩, fun i k hi hk => (h.blk i k hi hk).2.2, fun i j k hi hj => h.dis i j k hi hj, h.kid⟩
theorem st3_heap {W : World} {z : Nat} {t : TypeId} {v0 v1 v2 : Value} (h : W.heap[z]? = some (.cells #[v0, v1, v2] t (0, 0))) (u0 u1 u2 : Value) : (((W.setCell ⟨z, 0, none⟩ u0).setCell ⟨z, 1, none⟩ u1).setCell ⟨z, 2, none⟩ u2).heap[z]? = some (.cells #[u0, u1, u2] t (0, 0)) := by
  have := setBlock (setBlock (setBlock h 0 u0) 1 u1) 2 u2
  simpa using this
theorem st3_upd' (W : World) (z : Nat) (u0 u1 u2 : Value) : Upd (fun k => k = z) W (((W.setCell ⟨z, 0, none⟩ u0).setCell ⟨z, 1, none⟩ u1).setCell ⟨z, 2, none⟩ u2) :=
  (((Upd.refl (fun k => k = z) W).setCell (p := ⟨z, 0, none⟩) (.inl rfl) u0).setCell (p := ⟨z, 1, none⟩) (.inl rfl) u1).setCell (p := ⟨z, 2, none⟩) (.inl rfl) u2
set_option maxRecDepth 100000 in
set_option maxHeartbeats 2000000 in
theorem copied_x : ∀ (t : Tm) (v : Value) (S : Nat → Prop) (w : World), TmR S w t v → (∀ k, S k → k < w.heap.size) → t.size ≤ 100000 →
    Calls Tryz.prog 48 #[v] w fun e w' => ∃ r B, e = .returned (tV t r) ∧ TlO 24 w' B t.kids r ∧ (∀ j, B j → w.heap.size ≤ j ∧ j < w'.heap.size) ∧ Ext w w' := by
  refine Tm.ind (fun nm so L ih => ?_)
  intro v S w hT hS hsz
  obtain ⟨a, cap, rfl, hT⟩ := hT
  dsimp only [tV, Tm.name, Tm.sort, Tm.kids] at hT ⊢
  have HTL := Lib.hid hT
  have HIH := Lib.hid ih
  have HSS := Lib.hid hS
  have hszL : sizes L + 1 ≤ 100000 := by rw [size_eq] at hsz; simp only [Tm.kids] at hsz; omega
  have HSL := Lib.hid hszL
  have hlL : L.length ≤ 100000 := by have h1 := length_le_sizes L; omega
  have hx3 := (((Upd.refl (fun _ => False) w).alloc (.cells #[.string nm, .string so, .slice a L.length cap] 24)).alloc (.cells #[.string ⟨#[]⟩, .string ⟨#[]⟩, .slice none 0 0] 24)).alloc (.cells #[.string nm, .string so, .slice none 0 0] 24)
  have hb2 := allocOld (alloc_at (w.alloc (.cells #[.string nm, .string so, .slice a L.length cap] 24)) (.cells #[.string ⟨#[]⟩, .string ⟨#[]⟩, .slice none 0 0] 24) (n := w.heap.size + 1) (by simp)) (.cells #[.string nm, .string so, .slice none 0 0] 24)
  have hb3 := alloc_at ((w.alloc (.cells #[.string nm, .string so, .slice a L.length cap] 24)).alloc (.cells #[.string ⟨#[]⟩, .string ⟨#[]⟩, .slice none 0 0] 24)) (.cells #[.string nm, .string so, .slice none 0 0] 24) (n := w.heap.size + 1 + 1) (by simp)
  have hz0 : (((w.alloc (.cells #[.string nm, .string so, .slice a L.length cap] 24)).alloc (.cells #[.string ⟨#[]⟩, .string ⟨#[]⟩, .slice none 0 0] 24)).alloc (.cells #[.string nm, .string so, .slice none 0 0] 24)).heap.size = w.heap.size + 3 := by simp
  have HB2 := Lib.hid hb2
  have HB3 := Lib.hid hb3
  have HE0 := Lib.hid hx3
  have HZ0 := Lib.hid hz0
  clear ih hT hS hsz hszL
  clear hb2 hb3 hx3 hz0
  go_enter Tryz.func48, Tryz.ntmps48
  go_wp2_with fail
  generalize (((w.alloc (.cells #[.string nm, .string so, .slice a L.length cap] 24)).alloc (.cells #[.string ⟨#[]⟩, .string ⟨#[]⟩, .slice none 0 0] 24)).alloc (.cells #[.string nm, .string so, .slice none 0 0] 24)) = W0 at *
  obtain ⟨n3, hn3⟩ : ∃ n3, w.heap.size + 1 + 1 = n3 := ⟨_, rfl⟩
  rw [hn3] at HB3 ⊢
  have HN3 := Lib.hid hn3
  clear hn3
  have HJ0 : Hid (CpJ 24 (w.heap.size + 3) W0 L (.slice none 0 0) [] (fun _ _ => False) 0) := Lib.hid ⟨rfl, ⟨rfl, .inl ⟨rfl, rfl⟩⟩, fun i hi => absurd hi (Nat.not_lt_zero _), fun i j hi => absurd hi (Nat.not_lt_zero _), fun i i' j hi => absurd hi (Nat.not_lt_zero _)⟩
  have HSW0 : Hid (w.heap.size + 3 ≤ W0.heap.size) := Lib.hid (by rw [HZ0.out]; exact Nat.le_refl _)
  clear HZ0
  go_loopg [11] L.length (fun gk iv wr => ∃ (k : Nat) (lv : Value) (us : List Value) (Bk : Nat → Nat → Prop), iv = .int .i64 (k : Int) ∧ gk = L.length - k ∧ k ≤ L.length ∧ Hid (CpJ 24 (w.heap.size + 3) wr L lv us Bk k) ∧ Hid (wr.heap[w.heap.size + 1]? = some (.cells #[.string ⟨#[]⟩, .string ⟨#[]⟩, .slice none 0 0] 24 (0, 0))) ∧ Hid (wr.heap[n3]? = some (.cells #[.string nm, .string so, lv] 24 (0, 0))) ∧ Hid (Ext w wr) ∧ Hid (w.heap.size + 3 ≤ wr.heap.size))
  case atStart => exact ⟨0, _, _, _, rfl, rfl, Nat.zero_le _, HJ0, HB2, HB3, HE0, HSW0⟩
  case round =>
    clear HJ0 HB2 HB3 HE0 HSW0
    obtain ⟨k, lv, us, Bk, rfl, rfl, hk, HJ, HB2, HB3, HE, HSZ⟩ := hrel
    obtain ⟨la, lc, hlv⟩ := own_shape HJ.out.own
    subst hlv
    by_cases hlt : k < L.length
    · obtain ⟨g, off, hga, _, hat⟩ := (HTL.out.ext HE.out).at_ (by omega)
      subst hga
      obtain ⟨xa, xc, q0, q1, q2, hkid⟩ := hat k hlt
      rw [← Nat.add_assoc] at q1 q2
      have z0 : (0 : Int) ≤ (k : Int) := by omega
      have z1 : (k : Int) < (L.length : Int) := by omega
      have z2 : decide ((k : Int) < (L.length : Int)) = true := decide_eq_true z1
      have z2' : decide (k < L.length) = true := decide_eq_true hlt
      have HIX := Lib.hid (fun W (hW : Ext (wr.alloc (.cells #[.string (tg L k).name, .string (tg L k).sort, .slice xa (tg L k).kids.length xc] 24)) W) => HIH.out (tg L k) (tg_mem L k hlt) _ S W ⟨xa, xc, rfl, (hkid.ext ((Upd.refl (fun _ => False) wr).alloc _)).ext hW⟩ (fun j hj => Nat.lt_of_lt_of_le (HSS.out j hj) (Nat.le_trans HE.out.size (Nat.le_trans ((Upd.refl (fun _ => False) wr).alloc (.cells #[.string (tg L k).name, .string (tg L k).sort, .slice xa (tg L k).kids.length xc] 24)).size hW.size))) (by have h1 := HSL.out; have h2 := sizes_take L k hlt; have h3 := sizes_take_le L (k + 1); omega))
      dsimp only [tV] at HIX
      obtain ⟨x, hx⟩ : ∃ x, tg L k = x := ⟨_, rfl⟩
      have HX := Lib.hid hx
      rw [hx] at q0 q1 q2 HIX
      have hQ := (Upd.refl (fun _ => False) wr).alloc (.cells #[.string x.name, .string x.sort, .slice xa x.kids.length xc] 24)
      have hB5 := alloc0 wr (.cells #[.string x.name, .string x.sort, .slice xa x.kids.length xc] 24)
      have b0 := cellRow hB5 0 (.string x.name) rfl
      have b1 := cellRow hB5 1 (.string x.sort) rfl
      have b2 := cellRow hB5 2 (.slice xa x.kids.length xc) rfl
      have hB3q := allocOld HB3.out (.cells #[.string x.name, .string x.sort, .slice xa x.kids.length xc] 24)
      have c2 := cellRow hB3q 2 (.slice la k lc) rfl
      have HBQ := Lib.hid hB3q
      have HQ := Lib.hid hQ
      have HB2Q := Lib.hid (allocOld HB2.out (.cells #[.string x.name, .string x.sort, .slice xa x.kids.length xc] 24))
      have HOQ := Lib.hid (HJ.out.own.alloc (.cells #[.string x.name, .string x.sort, .slice xa x.kids.length xc] 24))
      have HRN : Hid (¬ (Value.slice la k lc).ownBlock = some n3) := Lib.hid (fun e => by have h1 := (HJ.out.own.lt n3 e).1; have := HN3.out; omega)
      have HK : Hid (k ≤ 100000) := Lib.hid (by omega)
      obtain ⟨iT, hi, hz0, hz1, hz2⟩ := info_parts infoT
      clear hat hkid hx hQ hB5 hB3q
      go_wp2_with fail
      generalize wr.alloc (.cells #[.string x.name, .string x.sort, .slice xa x.kids.length xc] 24) = wq at *
      have HWQ : Hid (Ext wq wq) := Lib.hid (Upd.refl _ _)
      have HSQ : Hid (w.heap.size + 3 ≤ wq.heap.size) := Lib.hid (Nat.le_trans HSZ.out HQ.out.size)
      clear q0 q1 q2
      go_region_law (first
  | (refine step_append_at _ (.tmp 16) (.tmp 19) 22 rfl (w.heap.size + 3) 24 iT (.agg #[.string ⟨#[]⟩, .string ⟨#[]⟩, .slice none 0 0]) 3 56 Tryz.underlying22 hi hz0 hz1 hz2 rfl (by decide) _ _ _ rfl HOW5.out _ 1 1 [.string x.name, .string x.sort, .slice ya x.kids.length yc] rfl rfl HNEW.out HONE.out HLM.out.1 HLM.out.2.1 HLM.out.2.2 ?_; intro v7 w7 hG7; obtain ⟨a7, c7, hv7⟩ := own_shape hG7.own; subst hv7; have hB7 := hG7.upd.heap (allocOld HB5.out (.cells #[.string x.name, .string x.sort, .slice ya x.kids.length yc] 24)) HRN.out; have f7 := fun i => frozenRow hB7 i; have c2 := cellRow hB7 2 (.slice la k lc) rfl; have HB7 := Lib.hid hB7; have HG7 := Lib.hid hG7; clear hG7 hB7)
  | (go_simp; refine (HIX.out wq.drew HWQ.out.drew).mono ?_; rintro e w5 ⟨r, Bx, rfl, hT5, hb5, hw5⟩; obtain ⟨ya, yc, hry⟩ := TlO.shape hT5; subst hry; have HW5 : Hid (Ext wq w5) := Lib.hid (((Upd.refl (fun _ => False) wq).drewN' 1).trans hw5); have HT5 := Lib.hid hT5; have HBX5 : Hid (∀ j, Bx j → wq.heap.size ≤ j ∧ j < w5.heap.size) := Lib.hid hb5; have HB5 := Lib.hid (HW5.out.heap HBQ.out (fun h => h)); have HOW5 : Hid ((w5.alloc (.cells #[.string x.name, .string x.sort, .slice ya x.kids.length yc] 24)).ownsRow (w.heap.size + 3) 24 3 (.slice la k lc) k (tCells (L.take k) us)) := Lib.hid ((own_kept HOQ.out HW5.out (fun _ _ h => h)).alloc _); have HNEW : Hid (∀ (j : Nat) (u : Value), [Value.string x.name, .string x.sort, .slice ya x.kids.length yc][j]? = some u → (w5.alloc (.cells #[.string x.name, .string x.sort, .slice ya x.kids.length yc] 24)).cell? ((⟨w5.heap.size, 0, none⟩ : Addr).add j) = some u) := Lib.hid (new3 w5 _ _ _ 24); have HONE : Hid (∀ u ∈ [Value.string x.name, .string x.sort, .slice ya x.kids.length yc], u.oneCell' = true) := Lib.hid (fun u hu => by simp at hu; rcases hu with h | h | h <;> (subst h; rfl)); have HLM : Hid (k + 1 ≤ maxLen ∧ (k + 1) * 56 ≤ 140737488355328 ∧ w.heap.size + 3 ≤ (w5.alloc (.cells #[.string x.name, .string x.sort, .slice ya x.kids.length yc] 24)).heap.size) := Lib.hid ⟨by unfold maxLen; have := HK.out; omega, by have := HK.out; omega, by have h1 := HW5.out.size; have h2 := HSQ.out; simp; omega⟩; have c5 := HW5.out.cell c2 (fun h => h); have c6 := ((Upd.refl (fun _ => False) w5).alloc (.cells #[.string x.name, .string x.sort, .slice ya x.kids.length yc] 24)).cell c5 (fun h => h); clear hT5 hb5 hw5))
      all_goals
        go_wp2_with fail
        have HS8 := Lib.hid ((Upd.refl (fun j => j = n3) w7).setCell (p := ⟨n3, 2, none⟩) (.inl rfl) (.slice a7 (k + 1) c7))
        have HU8 : Hid (Upd (fun j => (Value.slice la k lc).ownBlock = some j ∨ j = n3) wq (w7.setCell ⟨n3, 2, none⟩ (.slice a7 (k + 1) c7))) := Lib.hid (((((HW5.out.alloc (.cells #[.string x.name, .string x.sort, .slice ya x.kids.length yc] 24)).mono (fun _ _ x => x.elim)).trans (HG7.out.upd.mono (fun _ _ e => .inl e)))).trans (HS8.out.mono (fun _ _ e => .inr e)))
        have HJ8 := Lib.hid (HJ.out.grow hlt HX.out (by have := HN3.out; omega) HSZ.out HQ.out HW5.out HT5.out HBX5.out ((Upd.refl (fun _ => False) w5).alloc (.cells #[.string x.name, .string x.sort, .slice ya x.kids.length yc] 24)) HG7.out HS8.out)
        have HE8 : Hid (Ext w (w7.setCell ⟨n3, 2, none⟩ (.slice a7 (k + 1) c7))) := Lib.hid ((HE.out.trans HQ.out).trans' HU8.out (fun j hj e => by
          rcases e with e | e
          · have h1 := (HJ.out.own.lt j e).1; omega
          · have := HN3.out; omega))
        have HB28 := Lib.hid (HU8.out.heap HB2Q.out (fun e => by
          rcases e with e | e
          · have h1 := (HJ.out.own.lt _ e).1; omega
          · have := HN3.out; omega))
        have hb38 := setBlock HB7.out 2 (.slice a7 (k + 1) c7)
        have HB38 : Hid ((w7.setCell ⟨n3, 2, none⟩ (.slice a7 (k + 1) c7)).heap[n3]? = some (.cells #[.string nm, .string so, .slice a7 (k + 1) c7] 24 (0, 0))) := Lib.hid (by simpa using hb38)
        have HS9 : Hid (w.heap.size + 3 ≤ (w7.setCell ⟨n3, 2, none⟩ (.slice a7 (k + 1) c7)).heap.size) := Lib.hid (Nat.le_trans HSQ.out HU8.out.size)
        clear hb38 c2 f7
        go_roundg (L.length - (k + 1))
        case measure => omega
        case rel => exact ⟨k + 1, _, _, _, by go_num, rfl, by omega, HJ8, HB28, HB38, HE8, HS9⟩
    · obtain rfl : k = L.length := by omega
      have z2 : decide ((L.length : Int) < (L.length : Int)) = false := decide_eq_false (by omega)
      have c0 := cellRow HB3.out 0 (.string nm) rfl
      have c1 := cellRow HB3.out 1 (.string so) rfl
      have c2 := cellRow HB3.out 2 (.slice la L.length lc) rfl
      have f2 := fun i => frozenRow HB2.out i
      have d0 := cellRow HB2.out 0 (.string ⟨#[]⟩) rfl
      have d1 := cellRow HB2.out 1 (.string ⟨#[]⟩) rfl
      have d2 := cellRow HB2.out 2 (.slice none 0 0) rfl
      go_wp2_with fail
      have hr := st3_heap HB2.out (.string nm) (.string so) (.slice la L.length lc)
      have hu := st3_upd' wr (w.heap.size + 1) (.string nm) (.string so) (.slice la L.length lc)
      have e0 := cellRow hr 0 _ rfl
      have e1 := cellRow hr 1 _ rfl
      have e2 := cellRow hr 2 _ rfl
      refine bodyPost_ret (v := .agg #[.string nm, .string so, .slice la L.length lc]) (by simp [results, Tryz.results48, go_sem, e0, e1, e2]) rfl ⟨.slice la L.length lc, _, rfl, HJ.out.fin.kept hu (fun j hj e => by have h1 := hj.1; omega), fun j hj => ⟨by have h1 := hj.1; omega, Nat.lt_of_lt_of_le hj.2 hu.size⟩, HE.out.trans' hu (fun j hj e => by omega)⟩

end Go.Proofs.YtjjaknmnhhfjeaaGreatDoor

/- at. -/
namespace Go.Proofs.YtjjaknmnhhfjeaaGreatDoor
open Go.RowKit Go.Hw Go
set_option linter.unusedVariables false
set_option linter.unusedSimpArgs false

open Tm
def subI : Tm → List Int → Option Tm
  | t, [] => some t
  | t, i :: p => if i < 0 ∨ (t.kids.length : Int) ≤ i then none else subI (tg t.kids i.toNat) p
theorem subI_cons (t : Tm) (i : Int) (p : List Int) : subI t (i :: p) = if i < 0 ∨ (t.kids.length : Int) ≤ i then none else subI (tg t.kids i.toNat) p := by rw [subI]
theorem AdrP.snoc {w : World} {i : Nat} : ∀ {p : List Nat} {a a' a'' : Nat × Nat}, AdrP w p a a' → AdrP w [i] a' a'' → AdrP w (p ++ [i]) a a''
  | [], a, a', a'', h, h2 => by
    have h : a' = a := h
    rw [← h]; exact h2
  | j :: p, a, a', a'', h, h2 => by
    obtain ⟨g, off, n, c, h3, h4⟩ := h
    exact ⟨g, off, n, c, h3, AdrP.snoc h4 h2⟩
theorem subI_ok : ∀ {p : List Int} {t x : Tm}, subI t p = some x → okP t (p.map Int.toNat) ∧ tmAt t (p.map Int.toNat) = x
  | [], t, x, h => by
    injection h with h
    exact ⟨trivial, h⟩
  | i :: p, t, x, h => by
    rw [subI_cons] at h
    by_cases h1 : i < 0 ∨ (t.kids.length : Int) ≤ i
    · rw [if_pos h1] at h; cases h
    · rw [if_neg h1] at h
      obtain ⟨h2, h3⟩ := subI_ok h
      exact ⟨⟨by omega, h2⟩, h3⟩
def TmA (S : Nat → Prop) (w : World) (a : Nat × Nat) (t : Tm) : Prop := ∃ xa xc, w.cell? ⟨a.1, a.2, none⟩ = some (.string t.name) ∧ w.cell? ⟨a.1, a.2 + 1, none⟩ = some (.string t.sort) ∧ w.cell? ⟨a.1, a.2 + 2, none⟩ = some (.slice xa t.kids.length xc) ∧ TlR S w t.kids (.slice xa t.kids.length xc)
def AtP (S : Nat → Prop) (w : World) (t : Tm) (p : List Int) (a : Nat × Nat) (e : Ending) : Prop :=
  (subI t p = none ∧ e = .returned (.pointer none)) ∨ ∃ x a', subI t p = some x ∧ e = .returned (.pointer (some ⟨a'.1, a'.2, none⟩)) ∧ AdrP w (p.map Int.toNat) a a' ∧ TmA S w a' x
theorem AtP.no {S : Nat → Prop} {w : World} {t : Tm} {p : List Int} {a : Nat × Nat} (h : subI t p = none) : AtP S w t p a (.returned (.pointer none)) := .inl ⟨h, rfl⟩
theorem AtP.yes {S : Nat → Prop} {w : World} {t x : Tm} {p : List Int} {a a' : Nat × Nat} (h : subI t p = some x) (h2 : AdrP w (p.map Int.toNat) a a') (h3 : TmA S w a' x) : AtP S w t p a (.returned (.pointer (some ⟨a'.1, a'.2, none⟩))) := .inr ⟨x, a', h, rfl, h2, h3⟩
set_option maxRecDepth 100000 in
set_option maxHeartbeats 2000000 in
theorem at_x (t : Tm) (p : List Int) (pv : Value) (a : Nat × Nat) (S T : Nat → Prop) (w : World) (hA : TmA S w a t) (hP : SlR T w 1 pv p.length (p.map (Value.int .i64))) (hl : p.length ≤ 1000000) :
    Calls Tryz.prog 47 #[.pointer (some ⟨a.1, a.2, none⟩), pv] w fun e w' => AtP S w t p a e ∧ w = w' := by
  obtain ⟨pa, pc, rfl⟩ := SlR.shape hP
  have HP := Lib.hid hP
  have HA := Lib.hid hA
  obtain ⟨b, o⟩ := a
  clear hP hA
  go_enter Tryz.func47, Tryz.ntmps47
  go_wp2_with fail
  go_loopg [0, 9] p.length (fun gk qv iv wr => ∃ (k : Nat) (c : Nat × Nat) (x : Tm), qv = .pointer (some ⟨c.1, c.2, none⟩) ∧ iv = .int .i64 (k : Int) ∧ gk = p.length - k ∧ k ≤ p.length ∧ Hid (subI t p = subI x (p.drop k)) ∧ Hid (AdrP w ((p.take k).map Int.toNat) (b, o) c) ∧ Hid (TmA S w c x) ∧ w = wr)
  case atStart => exact ⟨0, (b, o), t, rfl, rfl, rfl, Nat.zero_le _, Lib.hid rfl, Lib.hid rfl, HA, rfl⟩
  case round =>
    clear HA
    obtain ⟨k, ⟨cb, co⟩, x, rfl, rfl, rfl, hk, HS, HD, HX, rfl⟩ := hrel
    by_cases hlt : k < p.length
    · obtain ⟨g, off, hga, _, hat⟩ := SlR.one_at (d := (0 : Int)) HP.out (by omega)
      subst hga
      have q0 := hat k hlt
      have z0 : (0 : Int) ≤ (k : Int) := by omega
      have z1 : (k : Int) < (p.length : Int) := by omega
      have z2 : decide ((k : Int) < (p.length : Int)) = true := decide_eq_true z1
      have z2' : decide (k < p.length) = true := decide_eq_true hlt
      have hd : p.drop k = p.getD k 0 :: p.drop (k + 1) := by
        rw [List.drop_eq_getElem_cons hlt, List.getD_eq_getElem?_getD, List.getElem?_eq_getElem hlt]; rfl
      have htk : p.take (k + 1) = p.take k ++ [p.getD k 0] := by
        rw [List.take_add_one, List.getD_eq_getElem?_getD, List.getElem?_eq_getElem hlt]; rfl
      have hs := HS.out
      rw [hd, subI_cons] at hs
      have HS2 := Lib.hid hs
      have HTK := Lib.hid htk
      obtain ⟨i, hi⟩ : ∃ i, p.getD k 0 = i := ⟨_, rfl⟩
      rw [hi] at q0 HS2 HTK
      clear hat hd htk hs hi HS
      obtain ⟨xa, xc, x0, x1, x2, hx⟩ := HX.out
      dsimp only at x0 x1 x2
      by_cases hi0 : i < 0
      · have HV : Hid (subI t p = none) := Lib.hid (by rw [HS2.out, if_pos (.inl hi0)])
        have y1 : decide (i < 0) = true := decide_eq_true hi0
        clear x0 x1 x2 hx
        go_wp2_with fail
        all_goals go_ret
        all_goals exact ⟨AtP.no HV.out, rfl⟩
      have y1 : decide (i < 0) = false := decide_eq_false hi0
      by_cases hi1 : (x.kids.length : Int) ≤ i
      · have HV : Hid (subI t p = none) := Lib.hid (by rw [HS2.out, if_pos (.inr hi1)])
        have y2 : decide ((x.kids.length : Int) ≤ i) = true := decide_eq_true hi1
        clear x0 x1 hx
        go_wp2_with fail
        all_goals go_ret
        all_goals exact ⟨AtP.no HV.out, rfl⟩
      have y2 : decide ((x.kids.length : Int) ≤ i) = false := decide_eq_false hi1
      have HV : Hid (subI t p = subI (tg x.kids i.toNat) (p.drop (k + 1))) := Lib.hid (by rw [HS2.out, if_neg (by omega)])
      obtain ⟨j, rfl⟩ : ∃ j : Nat, i = (j : Int) := ⟨i.toNat, by omega⟩
      have hjn : ((j : Int)).toNat = j := by omega
      rw [hjn] at HV
      have hj : j < x.kids.length := by omega
      obtain ⟨g2, off2, hga2, _, hat2⟩ := hx.at_ (by omega)
      subst hga2
      obtain ⟨ya, yc, r0, r1, r2, hy⟩ := hat2 j hj
      have HD2 : Hid (AdrP w ((p.take (k + 1)).map Int.toNat) (b, o) (g2, off2 + j * 3)) := Lib.hid (by
        rw [HTK.out, List.map_append]
        refine AdrP.snoc HD.out ⟨g2, off2, x.kids.length, xc, x2, ?_⟩
        rw [hjn]
        rfl)
      have HX2 : Hid (TmA S w (g2, off2 + j * 3) (tg x.kids j)) := Lib.hid ⟨ya, yc, r0, by rw [Nat.add_assoc]; exact r1, by rw [Nat.add_assoc]; exact r2, hy⟩
      have u0 : (0 : Int) ≤ (j : Int) := by omega
      have u1 : (j : Int) < (x.kids.length : Int) := by omega
      clear x0 x1 hx hat2 r0 r1 r2 hy HS2 HTK HD HX hi0 hi1 hjn
      go_wp2_with fail
      go_roundg (p.length - (k + 1))
      case measure => omega
      case rel => exact ⟨k + 1, (g2, off2 + j * 3), tg x.kids j, rfl, by go_num, rfl, by omega, HV, HD2, HX2, rfl⟩
    · obtain rfl : k = p.length := by omega
      have z2 : decide ((p.length : Int) < (p.length : Int)) = false := decide_eq_false (by omega)
      have HV : Hid (subI t p = some x) := Lib.hid (by rw [HS.out, List.drop_length]; rfl)
      have hdd := HD.out
      rw [List.take_length] at hdd
      have HDD := Lib.hid hdd
      clear hdd
      go_wp2_with fail
      go_ret
      exact ⟨AtP.yes (a' := (cb, co)) HV.out HDD.out HX.out, rfl⟩

end Go.Proofs.YtjjaknmnhhfjeaaGreatDoor

/- At. -/
namespace Go.Proofs.YtjjaknmnhhfjeaaGreatDoor
open Go.RowKit Go.Hw Go
set_option linter.unusedVariables false
set_option linter.unusedSimpArgs false

open Tm
abbrev nulT : Tm := .mk nul nul []
def atF (t : Tm) (p : List Int) : Tm × Int := if wf nmB t = false then (nulT, 1) else match subI t p with
  | none => (nulT, 2)
  | some x => (x, 0)
theorem tmAt_size : ∀ (p : List Nat) (t : Tm), okP t p → (tmAt t p).size ≤ t.size
  | [], t, _ => Nat.le_refl _
  | i :: p, t, h => by
    have h1 := tmAt_size p _ h.2
    have h2 := size_kid (tg_mem t.kids i h.1)
    show (tmAt (tg t.kids i) p).size ≤ _
    omega
set_option maxRecDepth 100000 in
set_option maxHeartbeats 2000000 in
theorem At_x (t : Tm) (p : List Int) (tv pv : Value) (S T : Nat → Prop) (w : World) (hT : TmR S w t tv) (hS : ∀ k, S k → k < w.heap.size) (hP : SlR T w 1 pv p.length (p.map (Value.int .i64))) (htab : AscT w) (hsz : t.size ≤ 100000) (hl : p.length ≤ 1000000) :
    Calls Tryz.prog 11 #[tv, pv] w fun e w' => ∃ r, e = .returned (.tuple #[tV (atF t p).1 r, .int .i64 (atF t p).2]) ∧ TlR (fun k => w.heap.size ≤ k ∧ k < w'.heap.size) w' (atF t p).1.kids r ∧ Ext w w' := by
  obtain ⟨pa, pc, rfl⟩ := SlR.shape hP
  have HP := Lib.hid hP
  obtain ⟨a, cap, rfl, hT⟩ := hT
  have HT := Lib.hid hT
  have HE2 := Lib.hid (((Upd.refl (fun _ => False) w).alloc (.cells #[.string t.name, .string t.sort, .slice a t.kids.length cap] 24)).alloc (.cells #[.string ⟨#[]⟩, .string ⟨#[]⟩, .slice none 0 0] 24))
  have HB1 := Lib.hid (allocOld (alloc0 w (.cells #[.string t.name, .string t.sort, .slice a t.kids.length cap] 24)) (.cells #[.string ⟨#[]⟩, .string ⟨#[]⟩, .slice none 0 0] 24))
  have HB2 := Lib.hid (alloc_at (w.alloc (.cells #[.string t.name, .string t.sort, .slice a t.kids.length cap] 24)) (.cells #[.string ⟨#[]⟩, .string ⟨#[]⟩, .slice none 0 0] 24) (n := w.heap.size + 1) (by simp))
  have hz2 : ((w.alloc (.cells #[.string t.name, .string t.sort, .slice a t.kids.length cap] 24)).alloc (.cells #[.string ⟨#[]⟩, .string ⟨#[]⟩, .slice none 0 0] 24)).heap.size = w.heap.size + 2 := by simp
  have HZ2 := Lib.hid hz2
  have HWF := Lib.hid (fun W (hW : Ext w W) => wellFormed_x t _ W (asc_ext htab hW) ⟨a, cap, rfl, (hT.ext hW).weaken (fun k hk => Nat.lt_of_lt_of_le (hS k hk) hW.size)⟩ (by omega))
  have HSS := Lib.hid hS
  have HF0 : Hid (wf nmB t = false → atF t p = (nulT, 1)) := Lib.hid (fun h => by unfold atF; rw [if_pos h])
  have HF1 : Hid (wf nmB t = true → subI t p = none → atF t p = (nulT, 2)) := Lib.hid (fun h h2 => by unfold atF; rw [if_neg (by rw [h]; simp), h2])
  have HF2 : Hid (wf nmB t = true → ∀ x, subI t p = some x → atF t p = (x, 0)) := Lib.hid (fun h x h2 => by unfold atF; rw [if_neg (by rw [h]; simp), h2])
  obtain ⟨F, hF⟩ : ∃ F, atF t p = F := ⟨_, rfl⟩
  rw [hF] at HF0 HF1 HF2 ⊢
  dsimp only [tV] at HWF ⊢
  obtain ⟨WB, hWB⟩ : ∃ b, wf nmB t = b := ⟨_, rfl⟩
  rw [hWB] at HWF HF0 HF1 HF2
  clear hP hT hS htab hF hWB hz2
  have k0 := cellRow HB1.out 0 (.string t.name) rfl
  have k1 := cellRow HB1.out 1 (.string t.sort) rfl
  have k2 := cellRow HB1.out 2 (.slice a t.kids.length cap) rfl
  go_enter Tryz.func11, Tryz.ntmps11
  go_wp2_with fail
  refine (HWF.out _ HE2.out).mono ?_
  rintro e w4 ⟨rfl, hw4⟩
  have H4 : Hid (Ext w w4) := Lib.hid (HE2.out.trans hw4)
  have HB14 := Lib.hid (hw4.heap HB1.out (fun h => h))
  have HB24 := Lib.hid (hw4.heap HB2.out (fun h => h))
  have HZ4 : Hid (w.heap.size + 2 ≤ w4.heap.size) := Lib.hid (by rw [← HZ2.out]; exact hw4.size)
  clear hw4 k0 k1 k2 HWF HB1 HB2 HE2
  cases WB
  · have HV := Lib.hid (HF0.out (by simp))
    have f2 := fun i => frozenRow HB24.out i
    have d0 := cellRow HB24.out 0 (.string ⟨#[]⟩) rfl
    have d1 := cellRow HB24.out 1 (.string ⟨#[]⟩) rfl
    have d2 := cellRow HB24.out 2 (.slice none 0 0) rfl
    go_wp2_with fail
    have hr := st3_heap HB24.out (.string ⟨#[]⟩) (.string ⟨#[]⟩) (.slice none 0 0)
    have hu := st3_upd' w4 (w.heap.size + 1) (.string ⟨#[]⟩) (.string ⟨#[]⟩) (.slice none 0 0)
    have e0 := cellRow hr 0 (.string ⟨#[]⟩) rfl
    have e1 := cellRow hr 1 (.string ⟨#[]⟩) rfl
    have e2 := cellRow hr 2 (.slice none 0 0) rfl
    refine bodyPost_ret (v := .tuple #[.agg #[.string ⟨#[]⟩, .string ⟨#[]⟩, .slice none 0 0], .int .i64 1]) (by simp [results, Tryz.results11, go_sem, e0, e1, e2]) rfl ⟨.slice none 0 0, by rw [HV.out]; rfl, by rw [HV.out]; exact TlR.nil _ _, H4.out.trans' hu (fun j hj e => by omega)⟩
  have HAT := Lib.hid (at_x t p (.slice pa p.length pc) (w.heap.size, 0) S T w4 ⟨a, cap, cellRow HB14.out 0 _ rfl, cellRow HB14.out 1 _ rfl, cellRow HB14.out 2 _ rfl, HT.out.ext H4.out⟩ (SlR.kept HP.out H4.out (fun _ _ h => h)) hl)
  go_wp2_with fail
  refine HAT.out.mono ?_
  rintro e w5 ⟨hat, rfl⟩
  rcases hat with ⟨hs, rfl⟩ | ⟨x, a', hs, rfl, _, xa, xc, x0, x1, x2, hx⟩
  · have HV := Lib.hid (HF1.out (by simp) hs)
    have f2 := fun i => frozenRow HB24.out i
    have d0 := cellRow HB24.out 0 (.string ⟨#[]⟩) rfl
    have d1 := cellRow HB24.out 1 (.string ⟨#[]⟩) rfl
    have d2 := cellRow HB24.out 2 (.slice none 0 0) rfl
    go_wp2_with fail
    have hr := st3_heap HB24.out (.string ⟨#[]⟩) (.string ⟨#[]⟩) (.slice none 0 0)
    have hu := st3_upd' w4 (w.heap.size + 1) (.string ⟨#[]⟩) (.string ⟨#[]⟩) (.slice none 0 0)
    have e0 := cellRow hr 0 (.string ⟨#[]⟩) rfl
    have e1 := cellRow hr 1 (.string ⟨#[]⟩) rfl
    have e2 := cellRow hr 2 (.slice none 0 0) rfl
    refine bodyPost_ret (v := .tuple #[.agg #[.string ⟨#[]⟩, .string ⟨#[]⟩, .slice none 0 0], .int .i64 2]) (by simp [results, Tryz.results11, go_sem, e0, e1, e2]) rfl ⟨.slice none 0 0, by rw [HV.out]; rfl, by rw [HV.out]; exact TlR.nil _ _, H4.out.trans' hu (fun j hj e => by omega)⟩
  · have HV := Lib.hid (HF2.out (by simp) x hs)
    have hso := subI_ok hs
    have hxs : x.size ≤ 100000 := by
      have h1 := tmAt_size _ t hso.1
      rw [hso.2] at h1
      omega
    have HC := Lib.hid (copied_x x _ S w4 ⟨xa, xc, rfl, hx⟩ (fun k hk => Nat.lt_of_lt_of_le (HSS.out k hk) H4.out.size) hxs)
    dsimp only [tV] at HC
    obtain ⟨ab, ao⟩ := a'
    dsimp only at x0 x1 x2
    clear hs hso hxs hx HF0 HF1 HF2 HAT
    go_wp2_with fail
    refine HC.out.mono ?_
    rintro e w6 ⟨r, B, rfl, hO6, hB6, hw6⟩
    have H6 := Lib.hid (H4.out.trans hw6)
    have HB26 := Lib.hid (hw6.heap HB24.out (fun h => h))
    have HO6 := Lib.hid hO6
    have HBB : Hid (∀ j, B j → w.heap.size + 2 ≤ j ∧ j < w6.heap.size) := Lib.hid (fun j hj => ⟨Nat.le_trans HZ4.out (hB6 j hj).1, (hB6 j hj).2⟩)
    obtain ⟨ra, rc, hrv⟩ := TlO.shape hO6
    subst hrv
    clear hO6 hB6 hw6 x0 x1 x2 HC
    have f2 := fun i => frozenRow HB26.out i
    have d0 := cellRow HB26.out 0 (.string ⟨#[]⟩) rfl
    have d1 := cellRow HB26.out 1 (.string ⟨#[]⟩) rfl
    have d2 := cellRow HB26.out 2 (.slice none 0 0) rfl
    go_wp2_with fail
    have hr := st3_heap HB26.out (.string x.name) (.string x.sort) (.slice ra x.kids.length rc)
    have hu := st3_upd' w6 (w.heap.size + 1) (.string x.name) (.string x.sort) (.slice ra x.kids.length rc)
    have e0 := cellRow hr 0 (.string x.name) rfl
    have e1 := cellRow hr 1 (.string x.sort) rfl
    have e2 := cellRow hr 2 (.slice ra x.kids.length rc) rfl
    refine bodyPost_ret (v := .tuple #[.agg #[.string x.name, .string x.sort, .slice ra x.kids.length rc], .int .i64 0]) (by simp [results, Tryz.results11, go_sem, e0, e1, e2]) rfl ⟨.slice ra x.kids.length rc, by rw [HV.out], ?_, H6.out.trans' hu (fun j hj e => by omega)⟩
    rw [HV.out]
    exact ((HO6.out.kept hu (fun j hj e => by have := (HBB.out j hj).1; omega)).read).weaken (fun j hj => ⟨by have := (HBB.out j hj).1; omega, Nat.lt_of_lt_of_le (HBB.out j hj).2 hu.size⟩)

end Go.Proofs.YtjjaknmnhhfjeaaGreatDoor
