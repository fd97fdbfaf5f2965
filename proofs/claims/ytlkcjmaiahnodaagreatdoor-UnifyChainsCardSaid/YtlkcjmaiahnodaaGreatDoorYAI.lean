/- The texts I16 I17 I70 I90 I30 I31 I32 I33 I34 I35 I36 I37 I38 I91 I92 I93 I39 I18 I19 I40 I41 I42 I94, one behind the other. -/
import Derived.Test.YtlkcjmaiahnodaaGreatDoorYAH
import Derived.Test.YtlkcjmaiahnodaaGreatDoorYAD
import Derived.Deep.RegionHeld3
import Derived.Test.YtlkcjmaiahnodaaGreatDoorYAB
import Derived.Test.YtlkcjmaiahnodaaGreatDoorProg
import Derived.WalkKit
import Derived.Deep.SlicePairs
import Derived.Deep.DeepCutAuto
import Derived.Lib.AppendIntMem
import Derived.Test.YtlkcjmaiahnodaaGreatDoorYAE
/- Subterms gathered. -/
namespace Go.Proofs.YtlkcjmaiahnodaaGreatDoor
open Go.RowKit Go.Hw Go
set_option linter.unusedVariables false
set_option linter.unusedSimpArgs false

open Tm
structure SubR (R B T : Nat → Prop) (base : Nat) (w : World) (lv kv : Value) (N : List Nt) : Prop where
  rows : ∃ (us ks : List Value) (G : Nat → Prop), us.length = N.length ∧ ks.length = N.length ∧ w.ownsRow base 24 3 lv N.length (tCells (N.map (·.1)) us) ∧ w.ownsRow base 63 1 kv N.length ks ∧
    (∀ i, i < N.length → TlR T w (ng N i).1.kids (ug us i)) ∧ (∀ i, i < N.length → SlR G w 1 (ug ks i) (ng N i).2.length ((ng N i).2.map natV)) ∧ ∀ k, G k → base ≤ k ∧ k < w.heap.size ∧ ¬ B k ∧ ¬ R k
  num : Num N
  blkL : ∀ k, lv.ownBlock = some k → B k
  blkK : ∀ k, kv.ownBlock = some k → B k
  lt : ∀ k, B k → base ≤ k ∧ k < w.heap.size ∧ ¬ R k
  tb : ∀ k, T k → k < base
section
variable {R R' B T F : Nat → Prop} {base : Nat} {w w' : World} {lv kv : Value} {N : List Nt}
theorem SubR.upd (h : SubR R B T base w lv kv N) (hu : Upd F w w') (hF : ∀ k, F k → R k ∧ base ≤ k) : SubR R B T base w' lv kv N := by
  obtain ⟨us, ks, G, h1, h2, h3, h4, h5, h6, h7⟩ := h.rows
  refine ⟨⟨us, ks, G, h1, h2, own_kept h3 hu (fun k hk hf => (h.lt k (h.blkL k hk)).2.2 (hF k hf).1), own_kept h4 hu (fun k hk hf => (h.lt k (h.blkK k hk)).2.2 (hF k hf).1), fun i hi => (h5 i hi).kept hu (fun k hk hf => by have := h.tb k hk; have := (hF k hf).2; omega), fun i hi => (h6 i hi).kept hu (fun k hk hf => (h7 k hk).2.2.2 (hF k hf).1), fun k hk => ⟨(h7 k hk).1, Nat.lt_of_lt_of_le (h7 k hk).2.1 hu.size, (h7 k hk).2.2⟩⟩, h.num, h.blkL, h.blkK, fun k hk => ⟨(h.lt k hk).1, Nat.lt_of_lt_of_le (h.lt k hk).2.1 hu.size, (h.lt k hk).2.2⟩, h.tb⟩
theorem SubR.ext (h : SubR R B T base w lv kv N) (hu : Ext w w') : SubR R B T base w' lv kv N := h.upd hu (fun _ hf => hf.elim)
theorem SubR.reserve (h : SubR R B T base w lv kv N) : SubR (fun k => R k ∨ w.heap.size ≤ k) B T base w lv kv N := by
  obtain ⟨us, ks, G, h1, h2, h3, h4, h5, h6, h7⟩ := h.rows
  refine ⟨⟨us, ks, G, h1, h2, h3, h4, h5, h6, fun k hk => ⟨(h7 k hk).1, (h7 k hk).2.1, (h7 k hk).2.2.1, fun hr => ?_⟩⟩, h.num, h.blkL, h.blkK, fun k hk => ⟨(h.lt k hk).1, (h.lt k hk).2.1, fun hr => ?_⟩, h.tb⟩
  · rcases hr with hr | hr
    · exact (h7 k hk).2.2.2 hr
    · have := (h7 k hk).2.1; omega
  · rcases hr with hr | hr
    · exact (h.lt k hk).2.2 hr
    · have := (h.lt k hk).2.1; omega
theorem SubR.weaken (h : SubR R B T base w lv kv N) (hr : ∀ k, R' k → R k) : SubR R' B T base w lv kv N := by
  obtain ⟨us, ks, G, h1, h2, h3, h4, h5, h6, h7⟩ := h.rows
  exact ⟨⟨us, ks, G, h1, h2, h3, h4, h5, h6, fun k hk => ⟨(h7 k hk).1, (h7 k hk).2.1, (h7 k hk).2.2.1, fun hx => (h7 k hk).2.2.2 (hr k hx)⟩⟩, h.num, h.blkL, h.blkK, fun k hk => ⟨(h.lt k hk).1, (h.lt k hk).2.1, fun hx => (h.lt k hk).2.2 (hr k hx)⟩, h.tb⟩
theorem SubR.shape (h : SubR R B T base w lv kv N) : ∃ a c a' c', lv = .slice a N.length c ∧ kv = .slice a' N.length c' := by
  obtain ⟨us, ks, G, h1, h2, h3, h4, _⟩ := h.rows
  obtain ⟨a, c, e⟩ := own_shape h3
  obtain ⟨a', c', e'⟩ := own_shape h4
  exact ⟨a, c, a', c', e, e'⟩
theorem SubR.read (h : SubR R B T base w lv kv N) : TlR (fun k => T k ∨ base ≤ k ∧ ¬ R k) w (N.map (·.1)) lv ∧ LlR natV (fun k => T k ∨ base ≤ k ∧ ¬ R k) w kv (N.map (·.2)) := by
  obtain ⟨us, ks, G, h1, h2, h3, h4, h5, h6, h7⟩ := h.rows
  refine ⟨.mk _ us lv (by simp [h1]) (by rw [List.length_map]; exact (SlR.of_own h3).weaken (fun k hk => .inr ⟨(h.lt k (h.blkL k hk)).1, (h.lt k (h.blkL k hk)).2.2⟩)) (fun i hi => ?_), ⟨ks, by simp [h2], by rw [List.length_map]; exact (SlR.of_own h4).weaken (fun k hk => .inr ⟨(h.lt k (h.blkK k hk)).1, (h.lt k (h.blkK k hk)).2.2⟩), fun i hi => ?_⟩⟩
  · rw [List.length_map] at hi
    rw [ng_map1 N i hi]
    exact (h5 i hi).weaken (fun k hk => .inl hk)
  · rw [List.length_map] at hi
    rw [ng_map2 N i hi]
    exact (h6 i hi).weaken (fun k hk => .inr ⟨(h7 k hk).1, (h7 k hk).2.2.2⟩)
theorem SubR.nil (R T : Nat → Prop) (base : Nat) (w : World) (hT : ∀ k, T k → k < base) : SubR R (fun _ => False) T base w (.slice none 0 0) (.slice none 0 0) [] :=
  ⟨⟨[], [], fun _ => False, rfl, rfl, ⟨rfl, .inl ⟨rfl, rfl⟩⟩, ⟨rfl, .inl ⟨rfl, rfl⟩⟩, fun i hi => by simp at hi, fun i hi => by simp at hi, fun k hk => hk.elim⟩, Num.nil, fun k hk => by simp [Value.ownBlock] at hk, fun k hk => by simp [Value.ownBlock] at hk, fun k hk => hk.elim, hT⟩
theorem ug_left {us : List Value} (x : Value) {i : Nat} (h : i < us.length) : ug (us ++ [x]) i = ug us i := by
  unfold ug
  rw [List.getD_eq_getElem?_getD, List.getD_eq_getElem?_getD, List.getElem?_append_left h]
theorem ug_last (us : List Value) (x : Value) : ug (us ++ [x]) us.length = x := by
  unfold ug
  rw [List.getD_eq_getElem?_getD, List.getElem?_concat_length]
  rfl
theorem SubR.push {t : Tm} {u v lv' kv' : Value} {us ks : List Value} {G V R0 : Nat → Prop} {kn : List Nat} (h : SubR R B T base w lv kv N)
    (h1 : us.length = N.length) (h2 : ks.length = N.length) (h5 : ∀ i, i < N.length → TlR T w (ng N i).1.kids (ug us i)) (h6 : ∀ i, i < N.length → SlR G w 1 (ug ks i) (ng N i).2.length ((ng N i).2.map natV)) (h7 : ∀ k, G k → base ≤ k ∧ k < w.heap.size ∧ ¬ B k ∧ ¬ R k)
    (hw : Upd (fun k => B k ∨ R k ∧ base ≤ k ∧ ¬ V k) w w')
    (hL : w'.ownsRow base 24 3 lv' (N.length + 1) (tCells (N.map (·.1)) us ++ [.string t.name, .string t.sort, u])) (hK : w'.ownsRow base 63 1 kv' (N.length + 1) (ks ++ [v]))
    (hbl : ∀ k, lv'.ownBlock = some k → B k ∨ w.heap.size ≤ k ∧ k < w'.heap.size) (hbk : ∀ k, kv'.ownBlock = some k → B k ∨ w.heap.size ≤ k ∧ k < w'.heap.size)
    (hb : base ≤ w.heap.size) (hu : TlR T w t.kids u) (hv : SlR V w 1 v kn.length (kn.map natV)) (hV : ∀ k, V k → R k ∧ base ≤ k ∧ k < w.heap.size) (hR0 : ∀ k, R0 k → R k ∧ k < w.heap.size ∧ ¬ V k)
    (hkl : ∀ k ∈ kn, k < N.length) (hkm : kn.map (fun k => (ng N k).1) = t.kids) :
    SubR R0 (fun k => B k ∨ w.heap.size ≤ k ∧ (lv'.ownBlock = some k ∨ kv'.ownBlock = some k)) T base w' lv' kv' (N ++ [(t, kn)]) := by
  have hlen : (N ++ [(t, kn)]).length = N.length + 1 := by simp
  have hne : ∀ i, i < (N ++ [(t, kn)]).length → i < N.length ∨ i = N.length := fun i hi => by rw [hlen] at hi; omega
  refine ⟨⟨us ++ [u], ks ++ [v], fun k => G k ∨ V k, by simp [h1], by simp [h2], ?_, by rw [hlen]; exact hK, fun i hi => ?_, fun i hi => ?_, fun k hk => ?_⟩, h.num.snoc t kn hkl hkm, fun k hk => ?_, fun k hk => ?_, fun k hk => ?_, h.tb⟩
  · rw [hlen, List.map_append]
    have := tCells_snoc (N.map (·.1)) us t u (by rw [List.length_map]; exact h1)
    rw [show [(t, kn)].map (·.1) = [t] from rfl, this]
    exact hL
  · have hT : ∀ k, T k → ¬ (B k ∨ R k ∧ base ≤ k ∧ ¬ V k) := fun k hk hx => by
      have h8 := h.tb k hk
      rcases hx with hx | hx
      · have := (h.lt k hx).1; omega
      · omega
    rcases hne i hi with hi | rfl
    · rw [ng_left _ hi, ug_left _ (by omega)]
      exact (h5 i hi).kept hw hT
    · rw [ng_last, ← h1, ug_last]
      exact hu.kept hw hT
  · rcases hne i hi with hi | rfl
    · rw [ng_left _ hi, ug_left _ (by omega)]
      exact ((h6 i hi).kept hw (fun k hk hx => by
        rcases hx with hx | hx
        · exact (h7 k hk).2.2.1 hx
        · exact (h7 k hk).2.2.2 hx.1)).weaken (fun k hk => .inl hk)
    · rw [ng_last, ← h2, ug_last]
      exact (hv.kept hw (fun k hk hx => by
        rcases hx with hx | hx
        · exact (h.lt k hx).2.2 (hV k hk).1
        · exact hx.2.2 hk)).weaken (fun k hk => .inr hk)
  · have hlt : base ≤ k ∧ k < w.heap.size ∧ ¬ B k ∧ (R k → V k) := by
      rcases hk with hk | hk
      · exact ⟨(h7 k hk).1, (h7 k hk).2.1, (h7 k hk).2.2.1, fun hr => absurd hr (h7 k hk).2.2.2⟩
      · exact ⟨(hV k hk).2.1, (hV k hk).2.2, fun hx => (h.lt k hx).2.2 (hV k hk).1, fun _ => hk⟩
    refine ⟨hlt.1, Nat.lt_of_lt_of_le hlt.2.1 hw.size, fun hx => ?_, fun hx => (hR0 k hx).2.2 (hlt.2.2.2 (hR0 k hx).1)⟩
    rcases hx with hx | hx
    · exact hlt.2.2.1 hx
    · omega
  · rcases hbl k hk with h8 | h8
    · exact .inl h8
    · exact .inr ⟨h8.1, .inl hk⟩
  · rcases hbk k hk with h8 | h8
    · exact .inl h8
    · exact .inr ⟨h8.1, .inr hk⟩
  · rcases hk with hk | ⟨hk, hk2⟩
    · exact ⟨(h.lt k hk).1, Nat.lt_of_lt_of_le (h.lt k hk).2.1 hw.size, fun hx => (h.lt k hk).2.2 (hR0 k hx).1⟩
    · refine ⟨by omega, ?_, fun hx => by have := (hR0 k hx).2.1; omega⟩
      rcases hk2 with h8 | h8
      · rcases hbl k h8 with h9 | h9
        · have := (h.lt k h9).2.1; omega
        · exact h9.2
      · rcases hbk k h8 with h9 | h9
        · have := (h.lt k h9).2.1; omega
        · exact h9.2
end

end Go.Proofs.YtlkcjmaiahnodaaGreatDoor

/- add of the reference. -/
namespace Go.Proofs.YtlkcjmaiahnodaaGreatDoor
open Go.RowKit Go.Hw Go
set_option linter.unusedVariables false
set_option linter.unusedSimpArgs false

open Tm
structure AddJ (R B T : Nat → Prop) (base n0 : Nat) (w wr : World) (N : List Nt) (L : List Tm) (lk kk kidv : Value) (Nk : List Nt) (Bk : Nat → Prop) (ks : List Nat) (k c : Nat) : Prop where
  sub : SubR (fun j => R j ∨ (n0 ≤ j ∧ j < n0 + 3) ∨ kidv.ownBlock = some j) Bk T base wr lk kk Nk
  own : wr.ownsRow (n0 + 3) 3 1 kidv k (ks.map natV)
  len : ks.length = k
  map : ks.map (fun q => (ng Nk q).1) = L.take k
  lt : ∀ q ∈ ks, q < Nk.length
  blk : ∀ j, Bk j → B j ∨ n0 + 3 ≤ j
  upd : Upd B w wr
  size : n0 + 3 ≤ wr.heap.size
  pre : N <+: Nk
  cnt : Nk.length = c
  hn : n0 = w.heap.size
  bn : base ≤ n0
  rb : ∀ j, R j → base ≤ j ∧ j < n0
  bb : ∀ j, B j → base ≤ j ∧ j < n0
  al : ∀ i, N.length ≤ i → i < Nk.length → ∃ x ∈ L, (ng Nk i).1 ∈ sbts x
section
variable {R B T B' : Nat → Prop} {base n0 : Nat} {w wr wq w5 w6 w7 w8 : World} {N Nk N' : List Nt} {L : List Tm} {lk kk kidv lk' kk' : Value} {Bk : Nat → Prop} {ks : List Nat} {k c c' : Nat}
theorem AddJ.resB (h : AddJ R B T base n0 w wr N L lk kk kidv Nk Bk ks k c) : ∀ j, Bk j → ¬ (n0 ≤ j ∧ j < n0 + 3) ∧ kidv.ownBlock ≠ some j := fun j hj => by
  have := (h.sub.lt j hj).2.2
  exact ⟨fun x => this (.inr (.inl x)), fun x => this (.inr (.inr x))⟩
theorem AddJ.call (h : AddJ R B T base n0 w wr N L lk kk kidv Nk Bk ks k c) (hq : Ext wr wq) (hs : SubR (fun j => R j ∨ (n0 ≤ j ∧ j < n0 + 3) ∨ kidv.ownBlock = some j) B' T base w5 lk' kk' N') (hu : Upd Bk wq w5)
    (hb : ∀ j, B' j → Bk j ∨ wq.heap.size ≤ j) (hp : Nk <+: N') (hc : N'.length = c') (hst : Upd (fun j => j = n0) w5 w6) {x : Tm} (hxm : x ∈ L) (hal : ∀ i, Nk.length ≤ i → i < N'.length → (ng N' i).1 ∈ sbts x) : AddJ R B T base n0 w w6 N L lk' kk' kidv N' B' ks k c' := by
  have hkid : ∀ j, kidv.ownBlock = some j → n0 + 3 ≤ j := fun j hj => (h.own.lt j hj).1
  refine ⟨hs.upd hst (fun j hj => ⟨.inr (.inl (by omega)), by rw [hj]; exact h.bn⟩), own_kept (own_kept (own_kept h.own hq (fun _ _ x => x)) hu (fun j hj hx => (h.resB j hx).2 hj)) hst (fun j hj hx => by have := hkid j hj; omega),
    h.len, ?_, fun q hq' => Nat.lt_of_lt_of_le (h.lt q hq') hp.length_le, fun j hj => ?_, ((h.upd.ext hq).trans' hu (fun j hj hx => ?_)).trans' hst (fun j hj hx => ?_), ?_, h.pre.trans hp, hc, h.hn, h.bn, h.rb, h.bb, fun i h1 h2 => ?_⟩
  · rw [← h.map]
    exact List.map_congr_left fun q hq' => by rw [ng_pre hp (h.lt q hq')]
  · rcases hb j hj with hx | hx
    · exact h.blk j hx
    · exact .inr (Nat.le_trans (Nat.le_trans h.size hq.size) hx)
  · rcases h.blk j hx with h2 | h2
    · exact h2
    · have := h.hn; omega
  · have := h.hn; omega
  · exact Nat.le_trans (Nat.le_trans (Nat.le_trans h.size hq.size) hu.size) hst.size
  · by_cases h3 : i < Nk.length
    · rw [ng_pre hp h3]; exact h.al i h1 h3
    · exact ⟨x, hxm, hal i (by omega) h2⟩
theorem AddJ.grow {kidv' : Value} {q : Nat} (h : AddJ R B T base n0 w wr N L lk kk kidv Nk Bk ks k c) (hA : Ext wr w7) (hG : Grew (n0 + 3) 3 1 kidv (k + 1) (ks.map natV ++ [natV q]) w7 w8 kidv') (hq : q < Nk.length) (hk : k < L.length) (hx : (ng Nk q).1 = tg L k) :
    AddJ R B T base n0 w w8 N L lk kk kidv' Nk Bk (ks ++ [q]) (k + 1) c := by
  have hkid : ∀ j, kidv.ownBlock = some j → n0 + 3 ≤ j := fun j hj => (h.own.lt j hj).1
  have hsz : n0 + 3 ≤ w7.heap.size := Nat.le_trans h.size hA.size
  refine ⟨?_, ?_, by simp [h.len], ?_, fun p hp => ?_, h.blk, (h.upd.ext hA).trans' hG.upd (fun j hj hx => ?_), Nat.le_trans hsz hG.upd.size, h.pre, h.cnt, h.hn, h.bn, h.rb, h.bb, h.al⟩
  · refine (((h.sub.ext hA).reserve).upd hG.upd (fun j hj => ⟨.inl (.inr (.inr hj)), ?_⟩)).weaken (fun j hj => ?_)
    · have := hkid j hj; have := h.bn; omega
    · rcases hj with hj | hj | hj
      · exact .inl (.inl hj)
      · exact .inl (.inr (.inl hj))
      · rcases hG.where_ with e | e
        · rw [e] at hj; exact .inl (.inr (.inr hj))
        · rw [e] at hj
          injection hj with hj
          exact .inr (by omega)
  · have := hG.own
    rw [List.map_append]
    exact this
  · rw [List.map_append, h.map, List.map_singleton, hx, List.take_add_one]
    have : L[k]?.toList = [tg L k] := by unfold tg; rw [List.getD_eq_getElem?_getD, List.getElem?_eq_getElem hk]; rfl
    rw [this]
  · rw [List.mem_append, List.mem_singleton] at hp
    rcases hp with hp | hp
    · exact h.lt p hp
    · rw [hp]; exact hq
  · have := hkid j hx; have := h.hn; omega
end
theorem rows_ne {e e' sz sz' n n' b b' : Nat} {W : World} {u v : Value} {xs ys : List Value} (h : W.ownsRow b e sz u n xs) (h' : W.ownsRow b' e' sz' v n' ys) (hne : e ≠ e') : ∀ k, u.ownBlock = some k → v.ownBlock ≠ some k := by
  intro k hk hk'
  rcases h.2 with ⟨e1, _⟩ | ⟨g, cap, cur, rfl, hb, hg, _⟩
  · rw [e1] at hk; simp [Value.ownBlock] at hk
  · rcases h'.2 with ⟨e2, _⟩ | ⟨g', cap', cur', rfl, hb', hg', _⟩
    · rw [e2] at hk'; simp [Value.ownBlock] at hk'
    · simp only [Value.ownBlock, Option.some.injEq] at hk hk'
      subst hk
      subst hk'
      rw [hg] at hg'
      injection hg' with hg'
      injection hg' with _ h3
      exact hne h3
theorem own_lt {b e sz n : Nat} {W : World} {v : Value} {xs : List Value} (h : W.ownsRow b e sz v n xs) : ∀ k, v.ownBlock = some k → k < W.heap.size := by
  intro k hk
  rcases h.2 with ⟨e1, _⟩ | ⟨g, cap, cur, rfl, hb, hg, _⟩
  · rw [e1] at hk; simp [Value.ownBlock] at hk
  · simp only [Value.ownBlock, Option.some.injEq] at hk
    subst hk
    exact (Array.getElem?_eq_some_iff.1 hg).1
theorem AddJ.fin {R B T : Nat → Prop} {base n0 : Nat} {w wr wa wc wd wb we wf : World} {N : List Nt} {nm so : By} {L : List Tm} {lk kk kidv v7 v9 u : Value} {Nk : List Nt} {Bk : Nat → Prop} {ks : List Nat} {c : Nat} {us kz : List Value} {G : Nat → Prop}
    (h : AddJ R B T base n0 w wr N L lk kk kidv Nk Bk ks L.length c)
    (h1 : us.length = Nk.length) (h2 : kz.length = Nk.length) (h5 : ∀ i, i < Nk.length → TlR T wr (ng Nk i).1.kids (ug us i)) (h6 : ∀ i, i < Nk.length → SlR G wr 1 (ug kz i) (ng Nk i).2.length ((ng Nk i).2.map natV))
    (h7 : ∀ k, G k → base ≤ k ∧ k < wr.heap.size ∧ ¬ Bk k ∧ ¬ (R k ∨ (n0 ≤ k ∧ k < n0 + 3) ∨ kidv.ownBlock = some k))
    (hA1 : Ext wr wa) (hG1 : Grew base 24 3 lk (Nk.length + 1) (tCells (Nk.map (·.1)) us ++ [.string nm, .string so, u]) wa wc v7) (hs1 : Upd (fun j => j = n0) wc wd)
    (hA2 : Ext wd wb) (hG2 : Grew base 63 1 kk (Nk.length + 1) (kz ++ [kidv]) wb we v9) (hs2 : Upd (fun j => j = n0 ∨ j = n0 + 2) we wf) (hu : TlR T wr L u) :
    ∃ N' B', SubR R B' T base wf v7 v9 N' ∧ Upd B w wf ∧ (∀ j, B' j → B j ∨ w.heap.size ≤ j) ∧ N <+: N' ∧ N'.length = c + 1 ∧ (ng N' (N'.length - 1)).1 = .mk nm so L ∧ ∀ i, N.length ≤ i → i < N'.length → (ng N' i).1 ∈ sbts (.mk nm so L) := by
  have hV : ∀ k, kidv.ownBlock = some k → n0 + 3 ≤ k ∧ k < wr.heap.size := fun k hk => ⟨(h.own.lt k hk).1, own_lt h.own k hk⟩
  have hBn : ∀ k, Bk k → ¬ (n0 ≤ k ∧ k < n0 + 3) ∧ kidv.ownBlock ≠ some k := h.resB
  have hBs : ∀ k, Bk k → k < wr.heap.size := fun k hk => (h.sub.lt k hk).2.1
  have hn0 : n0 + 3 ≤ wr.heap.size := h.size
  have hU : Upd (fun k => Bk k ∨ k = n0 ∨ k = n0 + 2) wr wf := by
    have u1 : Upd (fun k => Bk k ∨ k = n0 ∨ k = n0 + 2) wr wc := ((Upd.refl _ wr).ext hA1).trans' hG1.upd (fun i hi hx => .inl (h.sub.blkL i hx))
    have u2 := (u1.trans' hs1 (fun i hi hx => .inr (.inl hx))).ext hA2
    have u3 := u2.trans' hG2.upd (fun i hi hx => .inl (h.sub.blkK i hx))
    exact u3.trans' hs2 (fun i hi hx => .inr hx)
  have hsz1 := hA1.size
  have hsz2 := hG1.upd.size
  have hsz3 := hs1.size
  have hsz4 := hA2.size
  have hsz5 := hG2.upd.size
  have hsz6 := hs2.size
  have hb7 : ∀ k, v7.ownBlock = some k → Bk k ∨ wr.heap.size ≤ k := fun k hk => by
    rcases hG1.where_ with e | e
    · rw [e] at hk; exact .inl (h.sub.blkL k hk)
    · rw [e] at hk; injection hk with hk; exact .inr (by omega)
  have hb9 : ∀ k, v9.ownBlock = some k → Bk k ∨ wr.heap.size ≤ k := fun k hk => by
    rcases hG2.where_ with e | e
    · rw [e] at hk; exact .inl (h.sub.blkK k hk)
    · rw [e] at hk; injection hk with hk; exact .inr (by omega)
  have hnb : ∀ k, Bk k ∨ wr.heap.size ≤ k → k ≠ n0 ∧ k ≠ n0 + 2 := fun k hk => by
    rcases hk with hk | hk
    · have := (hBn k hk).1; omega
    · omega
  obtain ⟨_, _, _, _, _, h4, _⟩ := h.sub.rows
  have hKb : wb.ownsRow base 24 3 v7 (Nk.length + 1) (tCells (Nk.map (·.1)) us ++ [.string nm, .string so, u]) := own_kept (own_kept hG1.own hs1 (fun k hk e => (hnb k (hb7 k hk)).1 e)) hA2 (fun _ _ x => x)
  have hne : ∀ k, v7.ownBlock = some k → kk.ownBlock ≠ some k := fun k hk hk' => by
    obtain ⟨us', kz', G', r1, r2, r3, r4, _⟩ := h.sub.rows
    have r4b : wb.ownsRow base 63 1 kk Nk.length kz' := by
      have hx : ∀ k, kk.ownBlock = some k → lk.ownBlock ≠ some k := fun k h1 h2 => rows_ne r3 r4 (by decide) k h2 h1
      exact own_kept (own_kept (own_kept (own_kept r4 hA1 (fun _ _ x => x)) hG1.upd (fun k h1 h2 => hx k h1 h2)) hs1 (fun k h1 e => (hnb k (.inl (h.sub.blkK k h1))).1 e)) hA2 (fun _ _ x => x)
    exact rows_ne hKb r4b (by decide) k hk hk'
  have hL : wf.ownsRow base 24 3 v7 (Nk.length + 1) (tCells (Nk.map (·.1)) us ++ [.string nm, .string so, u]) := own_kept (own_kept hKb hG2.upd (fun k hk e => hne k hk e)) hs2 (fun k hk e => by have := hnb k (hb7 k hk); rcases e with e | e <;> omega)
  have hK : wf.ownsRow base 63 1 v9 (Nk.length + 1) (kz ++ [kidv]) := own_kept hG2.own hs2 (fun k hk e => by have := hnb k (hb9 k hk); rcases e with e | e <;> omega)
  have hown : SlR (fun k => kidv.ownBlock = some k) wr 1 kidv ks.length (ks.map natV) := by have := SlR.of_own h.own; rw [← h.len] at this; exact this
  have hP := h.sub.push (t := .mk nm so L) (u := u) (v := kidv) (lv' := v7) (kv' := v9) (us := us) (ks := kz) (G := G) (V := fun k => kidv.ownBlock = some k) (R0 := R) (kn := ks) (w' := wf) h1 h2 h5 h6 h7
    (hU.mono (fun k hk hx => by
      rcases hx with hx | hx
      · exact .inl hx
      · refine .inr ⟨.inr (.inl (by omega)), by have := h.bn; omega, fun e => by have := hV k e; omega⟩)) hL hK
    (fun k hk => (hb7 k hk).imp id (fun e => ⟨e, own_lt hL k hk⟩)) (fun k hk => (hb9 k hk).imp id (fun e => ⟨e, own_lt hK k hk⟩)) (by have := h.bn; omega) hu hown
    (fun k hk => ⟨.inr (.inr hk), by have := (hV k hk).1; have := h.bn; omega, (hV k hk).2⟩) (fun k hk => ⟨.inl hk, by have := h.rb k hk; omega, fun e => by have := h.rb k hk; have := hV k e; omega⟩) h.lt (by rw [h.map, List.take_length]; rfl)
  refine ⟨_, _, hP, h.upd.trans' hU (fun i hi hx => ?_), fun j hj => ?_, h.pre.trans (List.prefix_append _ _), by rw [List.length_append, h.cnt]; rfl, ?_, fun i hi1 hi2 => ?_⟩
  · have := h.hn
    rcases hx with hx | hx
    · rcases h.blk i hx with h8 | h8
      · exact h8
      · omega
    · omega
  · have := h.hn
    rcases hj with hj | hj
    · rcases h.blk j hj with h8 | h8
      · exact .inl h8
      · exact .inr (by omega)
    · exact .inr (by omega)
  · rw [List.length_append, List.length_singleton, Nat.add_sub_cancel, ng_last]
  · rw [List.length_append, List.length_singleton] at hi2
    rw [sbts_eq]
    by_cases h3 : i < Nk.length
    · rw [ng_left _ h3]
      obtain ⟨x, hx, hx2⟩ := h.al i hi1 h3
      exact List.mem_cons_of_mem _ (List.mem_flatMap.2 ⟨x, hx, hx2⟩)
    · obtain rfl : i = Nk.length := by omega
      rw [ng_last]
      exact List.mem_cons_self ..
theorem infoT : (Tryz.prog.info? 24).map (fun i => (i.zero, i.size, i.bytes)) = some (some (.agg #[.string ⟨#[]⟩, .string ⟨#[]⟩, .slice none 0 0]), 3, 56) := by kernel_rfl
theorem sizes_take (L : List Tm) (k : Nat) (h : k < L.length) : sizes (L.take (k + 1)) = sizes (L.take k) + (tg L k).size := by
  rw [tk_snoc L k h, sizes_append]
  simp [sizes]
theorem sizes_take_le (L : List Tm) (k : Nat) : sizes (L.take k) ≤ sizes L := by
  have : sizes L = sizes (L.take k) + sizes (L.drop k) := by rw [← sizes_append, List.take_append_drop]
  omega
end Go.Proofs.YtlkcjmaiahnodaaGreatDoor

/- copied. -/
namespace Go.Proofs.YtlkcjmaiahnodaaGreatDoor
open Go.RowKit Go.Hw Go
set_option linter.unusedVariables false
set_option linter.unusedSimpArgs false

open Tm
theorem TlO.shape {te : TypeId} {w : World} {B : Nat → Prop} {L : List Tm} {v : Value} (h : TlO te w B L v) : ∃ a cap, v = .slice a L.length cap := h.read.shape
theorem new3 (w : World) (u0 u1 u2 : Value) (t : TypeId) : ∀ (j : Nat) (u : Value), [u0, u1, u2][j]? = some u → (w.alloc (.cells #[u0, u1, u2] t)).cell? ((⟨w.heap.size, 0, none⟩ : Addr).add j) = some u := fun j u hj => by
  match j, hj with
  | 0, hj => simp only [List.getElem?_cons_zero, Option.some.injEq] at hj; subst hj; simp only [Addr.add]; exact cellRow (alloc0 _ _) 0 _ rfl
  | 1, hj => simp at hj; subst hj; simp only [Addr.add]; exact cellRow (alloc0 _ _) 1 _ rfl
  | 2, hj => simp at hj; subst hj; simp only [Addr.add]; exact cellRow (alloc0 _ _) 2 _ rfl
structure CpJ (te : TypeId) (n0 : Nat) (wr : World) (L : List Tm) (lv : Value) (us : List Value) (Bk : Nat → Nat → Prop) (k : Nat) : Prop where
  len : us.length = k
  own : wr.ownsRow n0 te 3 lv k (tCells (L.take k) us)
  kid : ∀ i, i < k → TlO te wr (Bk i) (tg L i).kids (ug us i)
  blk : ∀ i j, i < k → Bk i j → n0 ≤ j ∧ j < wr.heap.size ∧ lv.ownBlock ≠ some j
  dis : ∀ i i' j, i < k → i' < k → i ≠ i' → Bk i j → ¬ Bk i' j
theorem CpJ.grow {te : TypeId} {n0 n3 k : Nat} {wr wq w5 wA w7 w8 : World} {L : List Tm} {lv lv' u : Value} {us : List Value} {Bk : Nat → Nat → Prop} {Bx : Nat → Prop} {x : Tm} (h : CpJ te n0 wr L lv us Bk k) (hk : k < L.length) (hx : tg L k = x) (hn : n3 < n0) (h0 : n0 ≤ wr.heap.size) (hq : Ext wr wq) (h5 : Ext wq w5)
    (hT : TlO te w5 Bx x.kids u) (hB : ∀ j, Bx j → wq.heap.size ≤ j ∧ j < w5.heap.size) (hA : Ext w5 wA) (hG : Grew n0 te 3 lv (k + 1) (tCells (L.take k) us ++ [.string x.name, .string x.sort, u]) wA w7 lv') (h8 : Upd (fun j => j = n3) w7 w8) :
    CpJ te n0 w8 L lv' (us ++ [u]) (fun i => if i = k then Bx else Bk i) (k + 1) := by
  have hU1 : Upd (fun j => lv.ownBlock = some j) wr w7 := (((hq.trans h5).trans hA).mono (fun _ _ x => x.elim)).trans hG.upd
  have hlt := fun j hj => h.own.lt j hj
  have hF : ∀ (P : Nat → Prop) (Lx : List Tm) (vx : Value), TlO te w7 P Lx vx → (∀ j, P j → n0 ≤ j) → TlO te w8 P Lx vx := fun P Lx vx ht hp => ht.kept h8 (fun j hj e => by have := hp j hj; omega)
  refine ⟨by rw [List.length_append, h.len]; rfl, ?_, fun i hi => ?_, fun i j hi hj => ?_, fun i i' j hi hi' hne hj => ?_⟩
  · rw [tk_snoc L k hk, tCells_snoc _ _ _ _ (by rw [h.len, List.length_take]; omega), hx]
    exact own_kept hG.own h8 (fun j hj e => by have := (hG.own.lt j hj).1; omega)
  · by_cases e : i = k
    · subst e
      rw [if_pos rfl, hx]
      have e2 : ug (us ++ [u]) i = u := by unfold ug; rw [List.getD_eq_getElem?_getD, List.getElem?_append_right (by rw [h.len]; exact Nat.le_refl _), h.len, Nat.sub_self]; rfl
      rw [e2]
      refine hF _ _ _ ((hT.kept hA (fun _ _ x => x)).kept hG.upd (fun j hj e => ?_)) (fun j hj => by have h1 := hB j hj; have := hq.size; omega)
      have h1 := (hB j hj).1
      have h2 := (hlt j e).2
      have := hq.size
      omega
    · rw [if_neg e]
      have e2 : ug (us ++ [u]) i = ug us i := by unfold ug; rw [List.getD_eq_getElem?_getD, List.getD_eq_getElem?_getD, List.getElem?_append_left (by rw [h.len]; omega)]
      rw [e2]
      exact hF _ _ _ ((h.kid i (by omega)).kept hU1 (fun j hj e => (h.blk i j (by omega) hj).2.2 e)) (fun j hj => (h.blk i j (by omega) hj).1)
  · have hs8 := h8.size
    have hs7 := hG.upd.size
    have hsA := hA.size
    have hs5 := h5.size
    have hsq := hq.size
    have hbn : ∀ j, lv'.ownBlock = some j → lv.ownBlock = some j ∨ w5.heap.size ≤ j := fun j e => by
      rcases hG.where_ with h | h
      · rw [h] at e; exact .inl e
      · rw [h] at e; injection e with e; exact .inr (by omega)
    by_cases e : i = k
    · subst e
      rw [if_pos rfl] at hj
      have h1 := hB j hj
      refine ⟨by omega, by omega, fun e => ?_⟩
      rcases hbn j e with h2 | h2
      · have := (hlt j h2).2; omega
      · omega
    · rw [if_neg e] at hj
      obtain ⟨h1, h2, h3⟩ := h.blk i j (by omega) hj
      refine ⟨h1, by omega, fun e => ?_⟩
      rcases hbn j e with h4 | h4
      · exact h3 h4
      · omega
  · have hsq := hq.size
    by_cases e : i = k
    · subst e
      rw [if_pos rfl] at hj
      have h1 := hB j hj
      rw [if_neg (fun e => hne e.symm)]
      intro h2
      have := (h.blk i' j (by omega) h2).2.1
      omega
    · rw [if_neg e] at hj
      by_cases e' : i' = k
      · subst e'
        rw [if_pos rfl]
        intro h2
        have h3 := hB j h2
        have := (h.blk i j (by omega) hj).2.1
        omega
      · rw [if_neg e']
        exact h.dis i i' j (by omega) (by omega) hne hj
theorem CpJ.fin {te : TypeId} {n0 : Nat} {wr : World} {L : List Tm} {lv : Value} {us : List Value} {Bk : Nat → Nat → Prop} (h : CpJ te n0 wr L lv us Bk L.length) : TlO te wr (fun j => n0 ≤ j ∧ j < wr.heap.size) L lv := by
  have ho := h.own
  rw [List.take_length] at ho
  exact ⟨_, L, us, lv, Bk, h.len, ⟨ho.1, ho.2.imp id (fun ⟨g, c, cur, e, _, h2⟩ => ⟨g, c, cur, e, Nat.zero_le _, h2⟩)⟩, fun k hk => ⟨(ho.lt k hk).1, (ho.lt k hk).2⟩, fun i k hi hk => ⟨(h.blk i k hi hk).1, (h.blk i k hi hk).2.1⟩, fun i k hi hk => (h.blk i k hi hk).2.2, fun i j k hi hj => h.dis i j k hi hj, h.kid⟩
theorem st3_heap {W : World} {z : Nat} {t : TypeId} {v0 v1 v2 : Value} (h : W.heap[z]? = some (.cells #[v0, v1, v2] t (0, 0))) (u0 u1 u2 : Value) : (((W.setCell ⟨z, 0, none⟩ u0).setCell ⟨z, 1, none⟩ u1).setCell ⟨z, 2, none⟩ u2).heap[z]? = some (.cells #[u0, u1, u2] t (0, 0)) := by
  have := setBlock (setBlock (setBlock h 0 u0) 1 u1) 2 u2
  simpa using this
theorem st3_upd' (W : World) (z : Nat) (u0 u1 u2 : Value) : Upd (fun k => k = z) W (((W.setCell ⟨z, 0, none⟩ u0).setCell ⟨z, 1, none⟩ u1).setCell ⟨z, 2, none⟩ u2) :=
  (((Upd.refl (fun k => k = z) W).setCell (p := ⟨z, 0, none⟩) (.inl rfl) u0).setCell (p := ⟨z, 1, none⟩) (.inl rfl) u1).setCell (p := ⟨z, 2, none⟩) (.inl rfl) u2
end Go.Proofs.YtlkcjmaiahnodaaGreatDoor

/- copied of the rewrite package. -/
namespace Go.Proofs.YtlkcjmaiahnodaaGreatDoor
open Go.RowKit Go.Hw Go
set_option linter.unusedVariables false
set_option linter.unusedSimpArgs false

open Tm
end Go.Proofs.YtlkcjmaiahnodaaGreatDoor

/- Functions asked of a list of numbers. -/
namespace Go.Proofs.YtlkcjmaiahnodaaGreatDoor
open Go.RowKit Go.Hw Go
set_option linter.unusedVariables false
set_option linter.unusedSimpArgs false

open Tm
end Go.Proofs.YtlkcjmaiahnodaaGreatDoor

/- The order: covers. -/
namespace Go.Proofs.YtlkcjmaiahnodaaGreatDoor
open Go.RowKit Go.Hw Go
set_option linter.unusedVariables false
set_option linter.unusedSimpArgs false

open Tm
end Go.Proofs.YtlkcjmaiahnodaaGreatDoor

/- The order: above. -/
namespace Go.Proofs.YtlkcjmaiahnodaaGreatDoor
open Go.RowKit Go.Hw Go
set_option linter.unusedVariables false
set_option linter.unusedSimpArgs false

open Tm
end Go.Proofs.YtlkcjmaiahnodaaGreatDoor

/- The order: greater. -/
namespace Go.Proofs.YtlkcjmaiahnodaaGreatDoor
open Go.RowKit Go.Hw Go
set_option linter.unusedVariables false
set_option linter.unusedSimpArgs false

open Tm
end Go.Proofs.YtlkcjmaiahnodaaGreatDoor

/- The order: number. -/
namespace Go.Proofs.YtlkcjmaiahnodaaGreatDoor
open Go.RowKit Go.Hw Go
set_option linter.unusedVariables false
set_option linter.unusedSimpArgs false

open Tm
section
variable {ops : List By} {R B B' : Nat → Prop} {base n0 b : Nat} {w wr wq w5 w6 w7 w8 w9 : World} {N Nk N' : List Nt} {L : List Tm} {kidv kidv' : Value} {Bk : Nat → Prop} {ks : List Nat} {k c c' q : Nat}
end
end Go.Proofs.YtlkcjmaiahnodaaGreatDoor

/- The order: compare and a new order. -/
namespace Go.Proofs.YtlkcjmaiahnodaaGreatDoor
open Go.RowKit Go.Hw Go
set_option linter.unusedVariables false
set_option linter.unusedSimpArgs false

open Tm
end Go.Proofs.YtlkcjmaiahnodaaGreatDoor

/- Insertion of a name. -/
namespace Go.Proofs.YtlkcjmaiahnodaaGreatDoor
open Go.RowKit Go.Hw Go
set_option linter.unusedVariables false
set_option linter.unusedSimpArgs false

open Tm
end Go.Proofs.YtlkcjmaiahnodaaGreatDoor

/- operations. -/
namespace Go.Proofs.YtlkcjmaiahnodaaGreatDoor
open Go.RowKit Go.Hw Go
set_option linter.unusedVariables false
set_option linter.unusedSimpArgs false

open Tm
end Go.Proofs.YtlkcjmaiahnodaaGreatDoor

/- precedence and formed. -/
namespace Go.Proofs.YtlkcjmaiahnodaaGreatDoor
open Go.RowKit Go.Hw Go
set_option linter.unusedVariables false
set_option linter.unusedSimpArgs false

open Tm
end Go.Proofs.YtlkcjmaiahnodaaGreatDoor

/- same of the rewrite package. -/
namespace Go.Proofs.YtlkcjmaiahnodaaGreatDoor
open Go.RowKit Go.Hw Go
set_option linter.unusedVariables false
set_option linter.unusedSimpArgs false

open Tm
theorem tg_ext {L M : List Tm} (hl : L.length = M.length) (h : ∀ j, j < L.length → tg L j = tg M j) : L = M := by
  refine List.ext_getElem hl (fun i h1 h2 => ?_)
  have := h i h1
  unfold tg at this
  rw [List.getD_eq_getElem?_getD, List.getD_eq_getElem?_getD, List.getElem?_eq_getElem h1, List.getElem?_eq_getElem h2] at this
  exact this
end Go.Proofs.YtlkcjmaiahnodaaGreatDoor

/- match of the rewrite package. -/
namespace Go.Proofs.YtlkcjmaiahnodaaGreatDoor
open Go.RowKit Go.Hw Go
set_option linter.unusedVariables false
set_option linter.unusedSimpArgs false

open Tm
def BdR (S : Nat → Prop) (w : World) (b : Nat) (σ : Sb) : Prop := ∃ l : List (By × Value), MpR (fun s : By => Value.string s) w b l ∧ (∀ n, σ n = none → afind l n = none) ∧ ∀ n t, σ n = some t → ∃ v, afind l n = some v ∧ TmR S w t v ∧ t.size ≤ 100000
section
variable {S F : Nat → Prop} {w w' w1 w2 : World} {b : Nat} {σ : Sb}
theorem BdR.kept (h : BdR S w b σ) (hu : Upd F w w') (hb : ¬ F b) (hF : ∀ k, S k → ¬ F k) : BdR S w' b σ := by
  obtain ⟨l, h1, h2, h3⟩ := h
  exact ⟨l, h1.kept hu hb, h2, fun n t e => by
    obtain ⟨v, g1, g2, g3⟩ := h3 n t e
    exact ⟨v, g1, g2.kept hu hF, g3⟩⟩
theorem BdR.ext (h : BdR S w b σ) (hu : Ext w w') : BdR S w' b σ := h.kept hu (fun h => h) (fun _ _ h => h)
theorem BdR.made (S : Nat → Prop) (w : World) : BdR S (w.alloc (.map #[] 0)) w.heap.size sb0 := ⟨[], MpR.made _ w, fun _ _ => rfl, fun n t h => by cases h⟩
theorem BdR.put {l : List (By × Value)} {n : By} {t : Tm} {v : Value} (h : (∀ n, σ n = none → afind l n = none) ∧ ∀ n t, σ n = some t → ∃ v, afind l n = some v ∧ TmR S w t v ∧ t.size ≤ 100000)
    (h1 : Upd (fun k => k = b) w w1) (h2 : Upd (fun k => k = b) w1 w2) (hm : MpR (fun s : By => Value.string s) w2 b (aput l n v)) (hS : ¬ S b) (ht : TmR S w t v) (hs : t.size ≤ 100000) : BdR S w2 b (σ.put n t) := by
  have hu := h1.trans h2
  have hF : ∀ k, S k → ¬ k = b := fun k hk e => hS (e ▸ hk)
  refine ⟨_, hm, fun m hm => ?_, fun m x hx => ?_⟩
  · rw [afind_put]
    unfold Sb.put at hm
    by_cases e : m = n
    · rw [if_pos e] at hm; cases hm
    · rw [if_neg e] at hm ⊢; exact h.1 m hm
  · rw [afind_put]
    unfold Sb.put at hx
    by_cases e : m = n
    · rw [if_pos e] at hx ⊢
      injection hx with hx
      subst hx
      exact ⟨v, rfl, ht.kept hu hF, hs⟩
    · rw [if_neg e] at hx ⊢
      obtain ⟨v', g1, g2, g3⟩ := h.2 m x hx
      exact ⟨v', g1, g2.kept hu hF, g3⟩
end
end Go.Proofs.YtlkcjmaiahnodaaGreatDoor

/- fill of the rewrite package. -/
namespace Go.Proofs.YtlkcjmaiahnodaaGreatDoor
open Go.RowKit Go.Hw Go
set_option linter.unusedVariables false
set_option linter.unusedSimpArgs false

open Tm
end Go.Proofs.YtlkcjmaiahnodaaGreatDoor

/- knows. -/
namespace Go.Proofs.YtlkcjmaiahnodaaGreatDoor
open Go.RowKit Go.Hw Go
set_option linter.unusedVariables false
set_option linter.unusedSimpArgs false

open Tm
end Go.Proofs.YtlkcjmaiahnodaaGreatDoor

/- Above of the reference: the table. -/
namespace Go.Proofs.YtlkcjmaiahnodaaGreatDoor
open Go.RowKit Go.Hw Go
set_option linter.unusedVariables false
set_option linter.unusedSimpArgs false

open Tm
section
variable {n0 m : Nat} {r : By → Nat} {X Y : List Nt} {w6 wr wq wb w8 : World} {tv tv' : Value} {i j g : Nat} {us : List Value} {tab : List (List Bool)} {Q : Nat → Prop} {row : List Bool}
end
end Go.Proofs.YtlkcjmaiahnodaaGreatDoor

/- Greater of the reference. -/
namespace Go.Proofs.YtlkcjmaiahnodaaGreatDoor
open Go.RowKit Go.Hw Go
set_option linter.unusedVariables false
set_option linter.unusedSimpArgs false

open Tm
theorem wf_size {t : Tm} (h : wf nmB t = true) : t.size ≤ 1000 := (formed_nd (wf_formed h)).1
theorem wf_nop {t : Tm} (h : wf nmB t = true) : NoP t := formed_VL (wf_formed h)
end Go.Proofs.YtlkcjmaiahnodaaGreatDoor

/- Greater of the program. -/
namespace Go.Proofs.YtlkcjmaiahnodaaGreatDoor
open Go.RowKit Go.Hw Go
set_option linter.unusedVariables false
set_option linter.unusedSimpArgs false

open Tm
theorem pair_tl {S : Nat → Prop} {W : World} {n : Nat} {a b : Tm} {ua ub : Value} (h : W.heap[n]? = some (.cells #[.string a.name, .string a.sort, ua, .string b.name, .string b.sort, ub] 24 (0, 0))) (hn : S n) (ha : TlR S W a.kids ua) (hb : TlR S W b.kids ub) : TlR S W [a, b] (.slice (some ⟨n, 0, none⟩) 2 2) := by
  refine .mk _ [ua, ub] _ rfl ?_ (fun i hi => ?_)
  · refine SlR.mk' rfl rfl (Nat.le_refl _) (fun _ => hn) (fun j hj => ?_)
    have hj6 : j < 6 := hj
    rw [Nat.zero_add, cell_of_row W n j _ _ _ h]
    have : j = 0 ∨ j = 1 ∨ j = 2 ∨ j = 3 ∨ j = 4 ∨ j = 5 := by omega
    rcases this with rfl | rfl | rfl | rfl | rfl | rfl <;> rfl
  · have : i = 0 ∨ i = 1 := by simp at hi; omega
    rcases this with rfl | rfl
    · exact ha
    · exact hb
end Go.Proofs.YtlkcjmaiahnodaaGreatDoor

/- first of the rules. -/
namespace Go.Proofs.YtlkcjmaiahnodaaGreatDoor
open Go.RowKit Go.Hw Go
set_option linter.unusedVariables false
set_option linter.unusedSimpArgs false

open Tm
end Go.Proofs.YtlkcjmaiahnodaaGreatDoor

/- sides. -/
namespace Go.Proofs.YtlkcjmaiahnodaaGreatDoor
open Go.RowKit Go.Hw Go
set_option linter.unusedVariables false
set_option linter.unusedSimpArgs false

open Tm
end Go.Proofs.YtlkcjmaiahnodaaGreatDoor

/- apply of the rewrite package. -/
namespace Go.Proofs.YtlkcjmaiahnodaaGreatDoor
open Go.RowKit Go.Hw Go
set_option linter.unusedVariables false
set_option linter.unusedSimpArgs false

open Tm
end Go.Proofs.YtlkcjmaiahnodaaGreatDoor
