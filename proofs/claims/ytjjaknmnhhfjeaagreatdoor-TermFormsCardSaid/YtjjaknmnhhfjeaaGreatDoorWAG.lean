/- The texts I16 I17 I18 I19 I38 I43 ShelfS I99 I70 I71 I72, one behind the other. -/
import Derived.Test.YtjjaknmnhhfjeaaGreatDoorWAF
import Derived.Test.YtjjaknmnhhfjeaaGreatDoorWAC
import Derived.Test.YtjjaknmnhhfjeaaGreatDoorWAE
import Derived.Shelf.Strconv.Itoa1
import Derived.Shelf.LaysM
import Derived.Shelf.Strconv.Itoa2
import Derived.Shelf.Strconv.Itoa3
import Derived.Shelf.Slices.SearchI
import Derived.Ground.SlgnProg
import Derived.Shelf.SlicesE.Equal
import Derived.Ground.SlgqProg
import Derived.Shelf.SlicesQ.Equal
import Derived.Ground.SlsfProg
import Derived.Shelf.SlSortCmp.InsertionK
import Derived.Shelf.SlSortCmp.SiftDownK
import Derived.Shelf.SlSortCmp.HeapSortK
import Derived.Shelf.SlSortCmp.MedianK
import Derived.Shelf.SlSortCmp.PivotK
import Derived.Shelf.SlSortCmp.ReverseRangeK
import Derived.Shelf.SlSortCmp.PartialInsertionK
import Derived.Shelf.SlSortCmp.PartitionEqualK
import Derived.Shelf.SlSortCmp.PartitionK
import Derived.Shelf.SlSortCmp.PdqK
import Derived.Shelf.SlSortCmp.WholeK
import Derived.Shelf.SlSortCmp.NoneTotal
import Derived.Ground.Names7Prog
import Derived.Shelf.Spec.TrailingZeros
import Derived.Test.YtjjaknmnhhfjeaaGreatDoorWAD
import Derived.Maps.RangeRun
import Derived.Test.YtjjaknmnhhfjeaaGreatDoorWAB
import Derived.Deep.RegionHeld3
/- Subterms gathered. -/
namespace Go.Proofs.YtjjaknmnhhfjeaaGreatDoor
open Go.RowKit Go.Hw Go
set_option linter.unusedVariables false
set_option linter.unusedSimpArgs false

open Tm
structure SubR (R B T : Nat → Prop) (base : Nat) (w : World) (lv kv : Value) (N : List Nt) : Prop where
  rows : ∃ (us ks : List Value) (G : Nat → Prop), us.length = N.length ∧ ks.length = N.length ∧ w.ownsRow base 24 3 lv N.length (tCells (N.map (·.1)) us) ∧ w.ownsRow base 25 1 kv N.length ks ∧
    (∀ i, i < N.length → TlR T w (ng N i).1.kids (ug us i)) ∧ (∀ i, i < N.length → SlR G w 1 (ug ks i) (ng N i).2.length ((ng N i).2.map natV)) ∧ ∀ k, G k → base ≤ k ∧ k < w.heap.size ∧ ¬ B k ∧ ¬ R k
  num : Num N
  blkL : ∀ k, lv.ownBlock = some k → B k
  blkK : ∀ k, kv.ownBlock = some k → B k
  lt : ∀ k, B k → base ≤ k ∧ k < w.heap.size ∧ ¬ R k
  tb : ∀ k, T k → k < base
section
variable {R R' B T F : Nat → Prop} {base : Nat} {w w' : World} {lv kv : Value} {N : List Nt}
theorem SubR.upd (h : SubR R B T base w lv kv N) (hu : Upd F w w') (hF : ∀ k, F k → R k ∧ base ≤ k) : SubR R B T base w' lv kv N := by
  obtain ⟨us, ks, G, h1, h2, h3, h4, h5, h6, h7⟩ := h.rows
  refine ⟨⟨us, ks, G, h1, h2, own_kept h3 hu (fun k hk hf => (h.lt k (h.blkL k hk)).2.2 (hF k hf).1), own_kept h4 hu (fun k hk hf => (h.lt k (h.blkK k hk)).2.2 (hF k hf).1), fun i hi => (h5 i hi).kept hu (fun k hk hf => by have := h.tb k hk; have := (hF k hf).2; omega), fun i hi => (h6 i hi).kept hu (fun k hk hf => (h7 k hk).2.2.2 (hF k hf).1), fun k hk => ⟨(h7 k hk).1, Nat.lt_of_lt_of_le (h7 k hk).2.1 hu.size, (h7 k hk).2.2⟩⟩, h.num, h.blkL, h.blkK, fun k hk => ⟨(h.lt k hk).1, Nat.lt_of_lt_of_le (h.lt k hk).2.1 hu.size, (h.lt k hk).2.2⟩, h.tb⟩
theorem SubR.ext (h : SubR R B T base w lv kv N) (hu : Ext w w') : SubR R B T base w' lv kv N := h.upd hu (fun _ hf => hf.elim)
theorem SubR.reserve (h : SubR R B T base w lv kv N) : SubR (fun k => R k ∨ w.heap.size ≤ k) B T base w lv kv N := by
  obtain ⟨us, ks, G, h1, h2, h3, h4, h5, h6, h7⟩ := h.rows
  refine ⟨⟨us, ks, G, h1, h2, h3, h4, h5, h6, fun k hk => ⟨(h7 k hk).1, (h7 k hk).2.1, (h7 k hk).2.2.1, fun hr => ?_⟩⟩, h.num, h.blkL, h.blkK, fun k hk => ⟨(h.lt k hk).1, (h.lt k hk).2.1, fun hr => ?_⟩, h.tb⟩
  · rcases hr with hr | hr
    · exact (h7 k hk).2.2.2 hr
    · have := (h7 k hk).2.1; omega
  · rcases hr with hr | hr
    · exact (h.lt k hk).2.2 hr
    · have := (h.lt k hk).2.1; omega
theorem SubR.weaken (h : SubR R B T base w lv kv N) (hr : ∀ k, R' k → R k) : SubR R' B T base w lv kv N := by
  obtain ⟨us, ks, G, h1, h2, h3, h4, h5, h6, h7⟩ := h.rows
  exact ⟨⟨us, ks, G, h1, h2, h3, h4, h5, h6, fun k hk => ⟨(h7 k hk).1, (h7 k hk).2.1, (h7 k hk).2.2.1, fun hx => (h7 k hk).2.2.2 (hr k hx)⟩⟩, h.num, h.blkL, h.blkK, fun k hk => ⟨(h.lt k hk).1, (h.lt k hk).2.1, fun hx => (h.lt k hk).2.2 (hr k hx)⟩, h.tb⟩
theorem SubR.shape (h : SubR R B T base w lv kv N) : ∃ a c a' c', lv = .slice a N.length c ∧ kv = .slice a' N.length c' := by
  obtain ⟨us, ks, G, h1, h2, h3, h4, _⟩ := h.rows
  obtain ⟨a, c, e⟩ := own_shape h3
  obtain ⟨a', c', e'⟩ := own_shape h4
  exact ⟨a, c, a', c', e, e'⟩
theorem SubR.read (h : SubR R B T base w lv kv N) : TlR (fun k => T k ∨ base ≤ k ∧ ¬ R k) w (N.map (·.1)) lv ∧ LlR natV (fun k => T k ∨ base ≤ k ∧ ¬ R k) w kv (N.map (·.2)) := by
  obtain ⟨us, ks, G, h1, h2, h3, h4, h5, h6, h7⟩ := h.rows
  refine ⟨.mk _ us lv (by simp [h1]) (by rw [List.length_map]; exact (SlR.of_own h3).weaken (fun k hk => .inr ⟨(h.lt k (h.blkL k hk)).1, (h.lt k (h.blkL k hk)).2.2⟩)) (fun i hi => ?_), ⟨ks, by simp [h2], by rw [List.length_map]; exact (SlR.of_own h4).weaken (fun k hk => .inr ⟨(h.lt k (h.blkK k hk)).1, (h.lt k (h.blkK k hk)).2.2⟩), fun i hi => ?_⟩⟩
  · rw [List.length_map] at hi
    rw [ng_map1 N i hi]
    exact (h5 i hi).weaken (fun k hk => .inl hk)
  · rw [List.length_map] at hi
    rw [ng_map2 N i hi]
    exact (h6 i hi).weaken (fun k hk => .inr ⟨(h7 k hk).1, (h7 k hk).2.2.2⟩)
theorem SubR.nil (R T : Nat → Prop) (base : Nat) (w : World) (hT : ∀ k, T k → k < base) : SubR R (fun _ => False) T base w (.slice none 0 0) (.slice none 0 0) [] :=
  ⟨⟨[], [], fun _ => False, rfl, rfl, ⟨rfl, .inl ⟨rfl, rfl⟩⟩, ⟨rfl, .inl ⟨rfl, rfl⟩⟩, fun i hi => by simp at hi, fun i hi => by simp at hi, fun k hk => hk.elim⟩, Num.nil, fun k hk => by simp [Value.ownBlock] at hk, fun k hk => by simp [Value.ownBlock] at hk, fun k hk => hk.elim, hT⟩
theorem ug_left {us : List Value} (x : Value) {i : Nat} (h : i < us.length) : ug (us ++ [x]) i = ug us i := by
  unfold ug
  rw [List.getD_eq_getElem?_getD, List.getD_eq_getElem?_getD, List.getElem?_append_left h]
theorem ug_last (us : List Value) (x : Value) : ug (us ++ [x]) us.length = x := by
  unfold ug
  rw [List.getD_eq_getElem?_getD, List.getElem?_concat_length]
  rfl
theorem SubR.push {t : Tm} {u v lv' kv' : Value} {us ks : List Value} {G V R0 : Nat → Prop} {kn : List Nat} (h : SubR R B T base w lv kv N)
    (h1 : us.length = N.length) (h2 : ks.length = N.length) (h5 : ∀ i, i < N.length → TlR T w (ng N i).1.kids (ug us i)) (h6 : ∀ i, i < N.length → SlR G w 1 (ug ks i) (ng N i).2.length ((ng N i).2.map natV)) (h7 : ∀ k, G k → base ≤ k ∧ k < w.heap.size ∧ ¬ B k ∧ ¬ R k)
    (hw : Upd (fun k => B k ∨ R k ∧ base ≤ k ∧ ¬ V k) w w')
    (hL : w'.ownsRow base 24 3 lv' (N.length + 1) (tCells (N.map (·.1)) us ++ [.string t.name, .string t.sort, u])) (hK : w'.ownsRow base 25 1 kv' (N.length + 1) (ks ++ [v]))
    (hbl : ∀ k, lv'.ownBlock = some k → B k ∨ w.heap.size ≤ k ∧ k < w'.heap.size) (hbk : ∀ k, kv'.ownBlock = some k → B k ∨ w.heap.size ≤ k ∧ k < w'.heap.size)
    (hb : base ≤ w.heap.size) (hu : TlR T w t.kids u) (hv : SlR V w 1 v kn.length (kn.map natV)) (hV : ∀ k, V k → R k ∧ base ≤ k ∧ k < w.heap.size) (hR0 : ∀ k, R0 k → R k ∧ k < w.heap.size ∧ ¬ V k)
    (hkl : ∀ k ∈ kn, k < N.length) (hkm : kn.map (fun k => (ng N k).1) = t.kids) :
    SubR R0 (fun k => B k ∨ w.heap.size ≤ k ∧ (lv'.ownBlock = some k ∨ kv'.ownBlock = some k)) T base w' lv' kv' (N ++ [(t, kn)]) := by
  have hlen : (N ++ [(t, kn)]).length = N.length + 1 := by simp
  have hne : ∀ i, i < (N ++ [(t, kn)]).length → i < N.length ∨ i = N.length := fun i hi => by rw [hlen] at hi; omega
  refine ⟨⟨us ++ [u], ks ++ [v], fun k => G k ∨ V k, by simp [h1], by simp [h2], ?_, by rw [hlen]; exact hK, fun i hi => ?_, fun i hi => ?_, fun k hk => ?_⟩, h.num.snoc t kn hkl hkm, fun k hk => ?_, fun k hk => ?_, fun k hk => ?_, h.tb⟩
  · rw [hlen, List.map_append]
    have := tCells_snoc (N.map (·.1)) us t u (by rw [List.length_map]; exact h1)
    rw [show [(t, kn)].map (·.1) = [t] from rfl, this]
    exact hL
  · have hT : ∀ k, T k → ¬ (B k ∨ R k ∧ base ≤ k ∧ ¬ V k) := fun k hk hx => by
      have h8 := h.tb k hk
      rcases hx with hx | hx
      · have := (h.lt k hx).1; omega
      · omega
    rcases hne i hi with hi | rfl
    · rw [ng_left _ hi, ug_left _ (by omega)]
      exact (h5 i hi).kept hw hT
    · rw [ng_last, ← h1, ug_last]
      exact hu.kept hw hT
  · rcases hne i hi with hi | rfl
    · rw [ng_left _ hi, ug_left _ (by omega)]
      exact ((h6 i hi).kept hw (fun k hk hx => by
        rcases hx with hx | hx
        · exact (h7 k hk).2.2.1 hx
        · exact (h7 k hk).2.2.2 hx.1)).weaken (fun k hk => .inl hk)
    · rw [ng_last, ← h2, ug_last]
      exact (hv.kept hw (fun k hk hx => by
        rcases hx with hx | hx
        · exact (h.lt k hx).2.2 (hV k hk).1
        · exact hx.2.2 hk)).weaken (fun k hk => .inr hk)
  · have hlt : base ≤ k ∧ k < w.heap.size ∧ ¬ B k ∧ (R k → V k) := by
      rcases hk with hk | hk
      · exact ⟨(h7 k hk).1, (h7 k hk).2.1, (h7 k hk).2.2.1, fun hr => absurd hr (h7 k hk).2.2.2⟩
      · exact ⟨(hV k hk).2.1, (hV k hk).2.2, fun hx => (h.lt k hx).2.2 (hV k hk).1, fun _ => hk⟩
    refine ⟨hlt.1, Nat.lt_of_lt_of_le hlt.2.1 hw.size, fun hx => ?_, fun hx => (hR0 k hx).2.2 (hlt.2.2.2 (hR0 k hx).1)⟩
    rcases hx with hx | hx
    · exact hlt.2.2.1 hx
    · omega
  · rcases hbl k hk with h8 | h8
    · exact .inl h8
    · exact .inr ⟨h8.1, .inl hk⟩
  · rcases hbk k hk with h8 | h8
    · exact .inl h8
    · exact .inr ⟨h8.1, .inr hk⟩
  · rcases hk with hk | ⟨hk, hk2⟩
    · exact ⟨(h.lt k hk).1, Nat.lt_of_lt_of_le (h.lt k hk).2.1 hw.size, fun hx => (h.lt k hk).2.2 (hR0 k hx).1⟩
    · refine ⟨by omega, ?_, fun hx => by have := (hR0 k hx).2.1; omega⟩
      rcases hk2 with h8 | h8
      · rcases hbl k h8 with h9 | h9
        · have := (h.lt k h9).2.1; omega
        · exact h9.2
      · rcases hbk k h8 with h9 | h9
        · have := (h.lt k h9).2.1; omega
        · exact h9.2
end

end Go.Proofs.YtjjaknmnhhfjeaaGreatDoor

/- add of the reference. -/
namespace Go.Proofs.YtjjaknmnhhfjeaaGreatDoor
open Go.RowKit Go.Hw Go
set_option linter.unusedVariables false
set_option linter.unusedSimpArgs false

open Tm
structure AddJ (R B T : Nat → Prop) (base n0 : Nat) (w wr : World) (N : List Nt) (L : List Tm) (lk kk kidv : Value) (Nk : List Nt) (Bk : Nat → Prop) (ks : List Nat) (k c : Nat) : Prop where
  sub : SubR (fun j => R j ∨ (n0 ≤ j ∧ j < n0 + 3) ∨ kidv.ownBlock = some j) Bk T base wr lk kk Nk
  own : wr.ownsRow (n0 + 3) 3 1 kidv k (ks.map natV)
  len : ks.length = k
  map : ks.map (fun q => (ng Nk q).1) = L.take k
  lt : ∀ q ∈ ks, q < Nk.length
  blk : ∀ j, Bk j → B j ∨ n0 + 3 ≤ j
  upd : Upd B w wr
  size : n0 + 3 ≤ wr.heap.size
  pre : N <+: Nk
  cnt : Nk.length = c
  hn : n0 = w.heap.size
  bn : base ≤ n0
  rb : ∀ j, R j → base ≤ j ∧ j < n0
  bb : ∀ j, B j → base ≤ j ∧ j < n0
  al : ∀ i, N.length ≤ i → i < Nk.length → ∃ x ∈ L, (ng Nk i).1 ∈ sbts x
section
variable {R B T B' : Nat → Prop} {base n0 : Nat} {w wr wq w5 w6 w7 w8 : World} {N Nk N' : List Nt} {L : List Tm} {lk kk kidv lk' kk' : Value} {Bk : Nat → Prop} {ks : List Nat} {k c c' : Nat}
theorem AddJ.resB (h : AddJ R B T base n0 w wr N L lk kk kidv Nk Bk ks k c) : ∀ j, Bk j → ¬ (n0 ≤ j ∧ j < n0 + 3) ∧ kidv.ownBlock ≠ some j := fun j hj => by
  have := (h.sub.lt j hj).2.2
  exact ⟨fun x => this (.inr (.inl x)), fun x => this (.inr (.inr x))⟩
theorem AddJ.call (h : AddJ R B T base n0 w wr N L lk kk kidv Nk Bk ks k c) (hq : Ext wr wq) (hs : SubR (fun j => R j ∨ (n0 ≤ j ∧ j < n0 + 3) ∨ kidv.ownBlock = some j) B' T base w5 lk' kk' N') (hu : Upd Bk wq w5)
    (hb : ∀ j, B' j → Bk j ∨ wq.heap.size ≤ j) (hp : Nk <+: N') (hc : N'.length = c') (hst : Upd (fun j => j = n0) w5 w6) {x : Tm} (hxm : x ∈ L) (hal : ∀ i, Nk.length ≤ i → i < N'.length → (ng N' i).1 ∈ sbts x) : AddJ R B T base n0 w w6 N L lk' kk' kidv N' B' ks k c' := by
  have hkid : ∀ j, kidv.ownBlock = some j → n0 + 3 ≤ j := fun j hj => (h.own.lt j hj).1
  refine ⟨hs.upd hst (fun j hj => ⟨.inr (.inl (by omega)), by rw [hj]; exact h.bn⟩), own_kept (own_kept (own_kept h.own hq (fun _ _ x => x)) hu (fun j hj hx => (h.resB j hx).2 hj)) hst (fun j hj hx => by have := hkid j hj; omega),
    h.len, ?_, fun q hq' => Nat.lt_of_lt_of_le (h.lt q hq') hp.length_le, fun j hj => ?_, ((h.upd.ext hq).trans' hu (fun j hj hx => ?_)).trans' hst (fun j hj hx => ?_), ?_, h.pre.trans hp, hc, h.hn, h.bn, h.rb, h.bb, fun i h1 h2 => ?_⟩
  · rw [← h.map]
    exact List.map_congr_left fun q hq' => by rw [ng_pre hp (h.lt q hq')]
  · rcases hb j hj with hx | hx
    · exact h.blk j hx
    · exact .inr (Nat.le_trans (Nat.le_trans h.size hq.size) hx)
  · rcases h.blk j hx with h2 | h2
    · exact h2
    · have := h.hn; omega
  · have := h.hn; omega
  · exact Nat.le_trans (Nat.le_trans (Nat.le_trans h.size hq.size) hu.size) hst.size
  · by_cases h3 : i < Nk.length
    · rw [ng_pre hp h3]; exact h.al i h1 h3
    · exact ⟨x, hxm, hal i (by omega) h2⟩
theorem AddJ.grow {kidv' : Value} {q : Nat} (h : AddJ R B T base n0 w wr N L lk kk kidv Nk Bk ks k c) (hA : Ext wr w7) (hG : Grew (n0 + 3) 3 1 kidv (k + 1) (ks.map natV ++ [natV q]) w7 w8 kidv') (hq : q < Nk.length) (hk : k < L.length) (hx : (ng Nk q).1 = tg L k) :
    AddJ R B T base n0 w w8 N L lk kk kidv' Nk Bk (ks ++ [q]) (k + 1) c := by
  have hkid : ∀ j, kidv.ownBlock = some j → n0 + 3 ≤ j := fun j hj => (h.own.lt j hj).1
  have hsz : n0 + 3 ≤ w7.heap.size := Nat.le_trans h.size hA.size
  refine ⟨?_, ?_, by simp [h.len], ?_, fun p hp => ?_, h.blk, (h.upd.ext hA).trans' hG.upd (fun j hj hx => ?_), Nat.le_trans hsz hG.upd.size, h.pre, h.cnt, h.hn, h.bn, h.rb, h.bb, h.al⟩
  · refine (((h.sub.ext hA).reserve).upd hG.upd (fun j hj => ⟨.inl (.inr (.inr hj)), ?_⟩)).weaken (fun j hj => ?_)
    · have := hkid j hj; have := h.bn; omega
    · rcases hj with hj | hj | hj
      · exact .inl (.inl hj)
      · exact .inl (.inr (.inl hj))
      · rcases hG.where_ with e | e
        · rw [e] at hj; exact .inl (.inr (.inr hj))
        · rw [e] at hj
          injection hj with hj
          exact .inr (by omega)
  · have := hG.own
    rw [List.map_append]
    exact this
  · rw [List.map_append, h.map, List.map_singleton, hx, List.take_add_one]
    have : L[k]?.toList = [tg L k] := by unfold tg; rw [List.getD_eq_getElem?_getD, List.getElem?_eq_getElem hk]; rfl
    rw [this]
  · rw [List.mem_append, List.mem_singleton] at hp
    rcases hp with hp | hp
    · exact h.lt p hp
    · rw [hp]; exact hq
  · have := hkid j hx; have := h.hn; omega
end
theorem rows_ne {e e' sz sz' n n' b b' : Nat} {W : World} {u v : Value} {xs ys : List Value} (h : W.ownsRow b e sz u n xs) (h' : W.ownsRow b' e' sz' v n' ys) (hne : e ≠ e') : ∀ k, u.ownBlock = some k → v.ownBlock ≠ some k := by
  intro k hk hk'
  rcases h.2 with ⟨e1, _⟩ | ⟨g, cap, cur, rfl, hb, hg, _⟩
  · rw [e1] at hk; simp [Value.ownBlock] at hk
  · rcases h'.2 with ⟨e2, _⟩ | ⟨g', cap', cur', rfl, hb', hg', _⟩
    · rw [e2] at hk'; simp [Value.ownBlock] at hk'
    · simp only [Value.ownBlock, Option.some.injEq] at hk hk'
      subst hk
      subst hk'
      rw [hg] at hg'
      injection hg' with hg'
      injection hg' with _ h3
      exact hne h3
theorem own_lt {b e sz n : Nat} {W : World} {v : Value} {xs : List Value} (h : W.ownsRow b e sz v n xs) : ∀ k, v.ownBlock = some k → k < W.heap.size := by
  intro k hk
  rcases h.2 with ⟨e1, _⟩ | ⟨g, cap, cur, rfl, hb, hg, _⟩
  · rw [e1] at hk; simp [Value.ownBlock] at hk
  · simp only [Value.ownBlock, Option.some.injEq] at hk
    subst hk
    exact (Array.getElem?_eq_some_iff.1 hg).1
theorem AddJ.fin {R B T : Nat → Prop} {base n0 : Nat} {w wr wa wc wd wb we wf : World} {N : List Nt} {nm so : By} {L : List Tm} {lk kk kidv v7 v9 u : Value} {Nk : List Nt} {Bk : Nat → Prop} {ks : List Nat} {c : Nat} {us kz : List Value} {G : Nat → Prop}
    (h : AddJ R B T base n0 w wr N L lk kk kidv Nk Bk ks L.length c)
    (h1 : us.length = Nk.length) (h2 : kz.length = Nk.length) (h5 : ∀ i, i < Nk.length → TlR T wr (ng Nk i).1.kids (ug us i)) (h6 : ∀ i, i < Nk.length → SlR G wr 1 (ug kz i) (ng Nk i).2.length ((ng Nk i).2.map natV))
    (h7 : ∀ k, G k → base ≤ k ∧ k < wr.heap.size ∧ ¬ Bk k ∧ ¬ (R k ∨ (n0 ≤ k ∧ k < n0 + 3) ∨ kidv.ownBlock = some k))
    (hA1 : Ext wr wa) (hG1 : Grew base 24 3 lk (Nk.length + 1) (tCells (Nk.map (·.1)) us ++ [.string nm, .string so, u]) wa wc v7) (hs1 : Upd (fun j => j = n0) wc wd)
    (hA2 : Ext wd wb) (hG2 : Grew base 25 1 kk (Nk.length + 1) (kz ++ [kidv]) wb we v9) (hs2 : Upd (fun j => j = n0 ∨ j = n0 + 2) we wf) (hu : TlR T wr L u) :
    ∃ N' B', SubR R B' T base wf v7 v9 N' ∧ Upd B w wf ∧ (∀ j, B' j → B j ∨ w.heap.size ≤ j) ∧ N <+: N' ∧ N'.length = c + 1 ∧ (ng N' (N'.length - 1)).1 = .mk nm so L ∧ ∀ i, N.length ≤ i → i < N'.length → (ng N' i).1 ∈ sbts (.mk nm so L) := by
  have hV : ∀ k, kidv.ownBlock = some k → n0 + 3 ≤ k ∧ k < wr.heap.size := fun k hk => ⟨(h.own.lt k hk).1, own_lt h.own k hk⟩
  have hBn : ∀ k, Bk k → ¬ (n0 ≤ k ∧ k < n0 + 3) ∧ kidv.ownBlock ≠ some k := h.resB
  have hBs : ∀ k, Bk k → k < wr.heap.size := fun k hk => (h.sub.lt k hk).2.1
  have hn0 : n0 + 3 ≤ wr.heap.size := h.size
  have hU : Upd (fun k => Bk k ∨ k = n0 ∨ k = n0 + 2) wr wf := by
    have u1 : Upd (fun k => Bk k ∨ k = n0 ∨ k = n0 + 2) wr wc := ((Upd.refl _ wr).ext hA1).trans' hG1.upd (fun i hi hx => .inl (h.sub.blkL i hx))
    have u2 := (u1.trans' hs1 (fun i hi hx => .inr (.inl hx))).ext hA2
    have u3 := u2.trans' hG2.upd (fun i hi hx => .inl (h.sub.blkK i hx))
    exact u3.trans' hs2 (fun i hi hx => .inr hx)
  have hsz1 := hA1.size
  have hsz2 := hG1.upd.size
  have hsz3 := hs1.size
  have hsz4 := hA2.size
  have hsz5 := hG2.upd.size
  have hsz6 := hs2.size
  have hb7 : ∀ k, v7.ownBlock = some k → Bk k ∨ wr.heap.size ≤ k := fun k hk => by
    rcases hG1.where_ with e | e
    · rw [e] at hk; exact .inl (h.sub.blkL k hk)
    · rw [e] at hk; injection hk with hk; exact .inr (by omega)
  have hb9 : ∀ k, v9.ownBlock = some k → Bk k ∨ wr.heap.size ≤ k := fun k hk => by
    rcases hG2.where_ with e | e
    · rw [e] at hk; exact .inl (h.sub.blkK k hk)
    · rw [e] at hk; injection hk with hk; exact .inr (by omega)
  have hnb : ∀ k, Bk k ∨ wr.heap.size ≤ k → k ≠ n0 ∧ k ≠ n0 + 2 := fun k hk => by
    rcases hk with hk | hk
    · have := (hBn k hk).1; omega
    · omega
  obtain ⟨_, _, _, _, _, h4, _⟩ := h.sub.rows
  have hKb : wb.ownsRow base 24 3 v7 (Nk.length + 1) (tCells (Nk.map (·.1)) us ++ [.string nm, .string so, u]) := own_kept (own_kept hG1.own hs1 (fun k hk e => (hnb k (hb7 k hk)).1 e)) hA2 (fun _ _ x => x)
  have hne : ∀ k, v7.ownBlock = some k → kk.ownBlock ≠ some k := fun k hk hk' => by
    obtain ⟨us', kz', G', r1, r2, r3, r4, _⟩ := h.sub.rows
    have r4b : wb.ownsRow base 25 1 kk Nk.length kz' := by
      have hx : ∀ k, kk.ownBlock = some k → lk.ownBlock ≠ some k := fun k h1 h2 => rows_ne r3 r4 (by decide) k h2 h1
      exact own_kept (own_kept (own_kept (own_kept r4 hA1 (fun _ _ x => x)) hG1.upd (fun k h1 h2 => hx k h1 h2)) hs1 (fun k h1 e => (hnb k (.inl (h.sub.blkK k h1))).1 e)) hA2 (fun _ _ x => x)
    exact rows_ne hKb r4b (by decide) k hk hk'
  have hL : wf.ownsRow base 24 3 v7 (Nk.length + 1) (tCells (Nk.map (·.1)) us ++ [.string nm, .string so, u]) := own_kept (own_kept hKb hG2.upd (fun k hk e => hne k hk e)) hs2 (fun k hk e => by have := hnb k (hb7 k hk); rcases e with e | e <;> omega)
  have hK : wf.ownsRow base 25 1 v9 (Nk.length + 1) (kz ++ [kidv]) := own_kept hG2.own hs2 (fun k hk e => by have := hnb k (hb9 k hk); rcases e with e | e <;> omega)
  have hown : SlR (fun k => kidv.ownBlock = some k) wr 1 kidv ks.length (ks.map natV) := by have := SlR.of_own h.own; rw [← h.len] at this; exact this
  have hP := h.sub.push (t := .mk nm so L) (u := u) (v := kidv) (lv' := v7) (kv' := v9) (us := us) (ks := kz) (G := G) (V := fun k => kidv.ownBlock = some k) (R0 := R) (kn := ks) (w' := wf) h1 h2 h5 h6 h7
    (hU.mono (fun k hk hx => by
      rcases hx with hx | hx
      · exact .inl hx
      · refine .inr ⟨.inr (.inl (by omega)), by have := h.bn; omega, fun e => by have := hV k e; omega⟩)) hL hK
    (fun k hk => (hb7 k hk).imp id (fun e => ⟨e, own_lt hL k hk⟩)) (fun k hk => (hb9 k hk).imp id (fun e => ⟨e, own_lt hK k hk⟩)) (by have := h.bn; omega) hu hown
    (fun k hk => ⟨.inr (.inr hk), by have := (hV k hk).1; have := h.bn; omega, (hV k hk).2⟩) (fun k hk => ⟨.inl hk, by have := h.rb k hk; omega, fun e => by have := h.rb k hk; have := hV k e; omega⟩) h.lt (by rw [h.map, List.take_length]; rfl)
  refine ⟨_, _, hP, h.upd.trans' hU (fun i hi hx => ?_), fun j hj => ?_, h.pre.trans (List.prefix_append _ _), by rw [List.length_append, h.cnt]; rfl, ?_, fun i hi1 hi2 => ?_⟩
  · have := h.hn
    rcases hx with hx | hx
    · rcases h.blk i hx with h8 | h8
      · exact h8
      · omega
    · omega
  · have := h.hn
    rcases hj with hj | hj
    · rcases h.blk j hj with h8 | h8
      · exact .inl h8
      · exact .inr (by omega)
    · exact .inr (by omega)
  · rw [List.length_append, List.length_singleton, Nat.add_sub_cancel, ng_last]
  · rw [List.length_append, List.length_singleton] at hi2
    rw [sbts_eq]
    by_cases h3 : i < Nk.length
    · rw [ng_left _ h3]
      obtain ⟨x, hx, hx2⟩ := h.al i hi1 h3
      exact List.mem_cons_of_mem _ (List.mem_flatMap.2 ⟨x, hx, hx2⟩)
    · obtain rfl : i = Nk.length := by omega
      rw [ng_last]
      exact List.mem_cons_self ..
theorem infoT : (Tryz.prog.info? 24).map (fun i => (i.zero, i.size, i.bytes)) = some (some (.agg #[.string ⟨#[]⟩, .string ⟨#[]⟩, .slice none 0 0]), 3, 56) := by kernel_rfl
theorem sizes_take (L : List Tm) (k : Nat) (h : k < L.length) : sizes (L.take (k + 1)) = sizes (L.take k) + (tg L k).size := by
  rw [tk_snoc L k h, sizes_append]
  simp [sizes]
theorem sizes_take_le (L : List Tm) (k : Nat) : sizes (L.take k) ≤ sizes L := by
  have : sizes L = sizes (L.take k) + sizes (L.drop k) := by rw [← sizes_append, List.take_append_drop]
  omega
end Go.Proofs.YtjjaknmnhhfjeaaGreatDoor

/- Above of the reference: the table. -/
namespace Go.Proofs.YtjjaknmnhhfjeaaGreatDoor
open Go.RowKit Go.Hw Go
set_option linter.unusedVariables false
set_option linter.unusedSimpArgs false

open Tm
section
variable {n0 m : Nat} {r : By → Nat} {X Y : List Nt} {w6 wr wq wb w8 : World} {tv tv' : Value} {i j g : Nat} {us : List Value} {tab : List (List Bool)} {Q : Nat → Prop} {row : List Bool}
end
end Go.Proofs.YtjjaknmnhhfjeaaGreatDoor

/- Greater of the reference. -/
namespace Go.Proofs.YtjjaknmnhhfjeaaGreatDoor
open Go.RowKit Go.Hw Go
set_option linter.unusedVariables false
set_option linter.unusedSimpArgs false

open Tm
theorem wf_size {t : Tm} (h : wf nmB t = true) : t.size ≤ 1000 := (formed_nd (wf_formed h)).1
theorem wf_nop {t : Tm} (h : wf nmB t = true) : NoP t := formed_VL (wf_formed h)
end Go.Proofs.YtjjaknmnhhfjeaaGreatDoor

/- precedence and formed. -/
namespace Go.Proofs.YtjjaknmnhhfjeaaGreatDoor
open Go.RowKit Go.Hw Go
set_option linter.unusedVariables false
set_option linter.unusedSimpArgs false

open Tm
theorem con_x (l : List By) (x : By) (v : Value) (S : Nat → Prop) (w : World) (hR : StR S w v l) (hl : l.length ≤ 1000000) :
    Calls Tryz.prog 88 #[v, .string x] w fun e w' => e = .returned (.bool (decide (x ∈ l))) ∧ Ext w w' := by
  obtain ⟨a, cap, rfl⟩ := SlR.shape hR
  by_cases h0 : 0 < l.length
  · obtain ⟨g, off, hga, _, hat⟩ := SlR.one_at (d := nul) hR h0
    subst hga
    refine (Tryz.slices_Contains_string g off l.length cap l x w (Nat.le_refl _) (by omega) (fun j hj => hat j hj)).mono ?_
    rintro e w' ⟨rfl, rfl⟩
    refine ⟨?_, Upd.refl _ _⟩
    rw [List.take_length]
    suffices h : Lib.containsS l x = decide (x ∈ l) by rw [h]
    rw [Bool.eq_iff_iff, decide_eq_true_eq, Lib.containsS_iff]
  · have hl0 : l = [] := List.eq_nil_of_length_eq_zero (by omega)
    subst hl0
    refine (Tryz.slices_Contains_string_empty a cap x w).mono ?_
    rintro e w' ⟨rfl, rfl⟩
    exact ⟨rfl, Upd.refl _ _⟩
end Go.Proofs.YtjjaknmnhhfjeaaGreatDoor

/- Clone and Delete. -/
namespace Go.Proofs.YtjjaknmnhhfjeaaGreatDoor
open Go.RowKit Go.Hw Go
set_option linter.unusedVariables false
set_option linter.unusedSimpArgs false

open Tm
end Go.Proofs.YtjjaknmnhhfjeaaGreatDoor

/- Further contracts of the library, laid. -/
namespace Go.Proofs
open Go.Shelf
def Tryz.laysSlF06_f91_ren : Go.Shelf.Ren := ⟨fun | 6 => 91 | 15 => 122 | 14 => 121 | 28 => 147 | 29 => 148 | 20 => 139 | 21 => 140 | 22 => 141 | 23 => 142 | 24 => 143 | 25 => 144 | 26 => 145 | 27 => 146 | 46 => 157 | 47 => 158 | 48 => 159 | 49 => 160 | 50 => 161 | 57 => 168 | n => n, fun | 22 => 72 | 24 => 78 | 25 => 144 | 3 => 3 | 39 => 172 | 0 => 0 | 53 => 193 | 55 => 195 | 4 => 4 | 46 => 187 | 45 => 186 | 50 => 173 | 5 => 5 | 9 => 9 | 66 => 198 | 70 => 202 | 76 => 208 | 77 => 145 | n => n, fun | n => n⟩
theorem Tryz.laysSlF06_f91 : Go.Proofs.SlLaysF0.n6 Tryz.prog Tryz.laysSlF06_f91_ren := {
  mixed := by kernel_rfl
  f6 := ⟨Tryz.f91.name, by decide, Tryz.func91.trans (congrArg some (by kernel_rfl))⟩
  f14 := ⟨Tryz.f121.name, by decide, Tryz.func121.trans (congrArg some (by kernel_rfl))⟩
  f15 := Tryz.func122.trans (congrArg some (by kernel_rfl))
  f20 := ⟨Tryz.f139.name, by decide, Tryz.func139.trans (congrArg some (by kernel_rfl))⟩
  f21 := ⟨Tryz.f140.name, by decide, Tryz.func140.trans (congrArg some (by kernel_rfl))⟩
  f22 := ⟨Tryz.f141.name, by decide, Tryz.func141.trans (congrArg some (by kernel_rfl))⟩
  f23 := ⟨Tryz.f142.name, by decide, Tryz.func142.trans (congrArg some (by kernel_rfl))⟩
  f24 := ⟨Tryz.f143.name, by decide, Tryz.func143.trans (congrArg some (by kernel_rfl))⟩
  f25 := ⟨Tryz.f144.name, by decide, Tryz.func144.trans (congrArg some (by kernel_rfl))⟩
  f26 := ⟨Tryz.f145.name, by decide, Tryz.func145.trans (congrArg some (by kernel_rfl))⟩
  f27 := ⟨Tryz.f146.name, by decide, Tryz.func146.trans (congrArg some (by kernel_rfl))⟩
  f28 := Tryz.func147.trans (congrArg some (by kernel_rfl))
  f29 := Tryz.func148.trans (congrArg some (by kernel_rfl))
  f46 := ⟨Tryz.f157.name, by decide, Tryz.func157.trans (congrArg some (by kernel_rfl))⟩
  f47 := Tryz.func158.trans (congrArg some (by kernel_rfl))
  f48 := Tryz.func159.trans (congrArg some (by kernel_rfl))
  f49 := ⟨Tryz.f160.name, by decide, Tryz.func160.trans (congrArg some (by kernel_rfl))⟩
  f50 := ⟨Tryz.f161.name, by decide, Tryz.func161.trans (congrArg some (by kernel_rfl))⟩
  f57 := ⟨Tryz.f168.name, by decide, Tryz.func168.trans (congrArg some (by kernel_rfl))⟩
  t0 := Tryz.underlying0
  a0 := Tryz.isAgg0
  z0 := Tryz.sizeOf0
  v0 := Tryz.zeroValue0
  t3 := Tryz.underlying3
  a3 := Tryz.isAgg3
  z3 := Tryz.sizeOf3
  v3 := Tryz.zeroValue3
  t4 := Tryz.underlying4
  a4 := Tryz.isAgg4
  z4 := Tryz.sizeOf4
  v4 := Tryz.zeroValue4
  t5 := Tryz.underlying5
  a5 := Tryz.isAgg5
  z5 := Tryz.sizeOf5
  v5 := Tryz.zeroValue5
  t9 := Tryz.underlying9
  a9 := Tryz.isAgg9
  z9 := Tryz.sizeOf9
  v9 := Tryz.zeroValue9
  t22 := Tryz.underlying72
  a22 := Tryz.isAgg72
  z22 := Tryz.sizeOf72
  v22 := Tryz.zeroValue72
  t25 := Tryz.underlying144
  a25 := Tryz.isAgg144
  z25 := Tryz.sizeOf144
  v25 := Tryz.zeroValue144
  t39 := Tryz.underlying172
  a39 := Tryz.isAgg172
  z39 := Tryz.sizeOf172
  v39 := Tryz.zeroValue172
  t45 := Tryz.underlying186
  a45 := Tryz.isAgg186
  z45 := Tryz.sizeOf186
  v45 := Tryz.zeroValue186
  t46 := Tryz.underlying187
  a46 := Tryz.isAgg187
  z46 := Tryz.sizeOf187
  v46 := Tryz.zeroValue187
  t50 := Tryz.underlying173
  a50 := Tryz.isAgg173
  z50 := Tryz.sizeOf173
  v50 := Tryz.zeroValue173
  t53 := Tryz.underlying193
  a53 := Tryz.isAgg193
  z53 := Tryz.sizeOf193
  v53 := Tryz.zeroValue193
  t55 := Tryz.underlying195
  a55 := Tryz.isAgg195
  z55 := Tryz.sizeOf195
  v55 := Tryz.zeroValue195
  t66 := Tryz.underlying198
  a66 := Tryz.isAgg198
  z66 := Tryz.sizeOf198
  v66 := Tryz.zeroValue198
  t70 := Tryz.underlying202
  a70 := Tryz.isAgg202
  z70 := Tryz.sizeOf202
  v70 := Tryz.zeroValue202
  t76 := Tryz.underlying208
  a76 := Tryz.isAgg208
  z76 := Tryz.sizeOf208
  v76 := Tryz.zeroValue208
  t77 := Tryz.underlying145
  a77 := Tryz.isAgg145
  z77 := Tryz.sizeOf145
  v77 := Tryz.zeroValue145 }
open Go.RowKit Go.Lib Go.Sort in
theorem Tryz.slices_SortFunc {α : Type} [Inhabited α] (k : Nat) (aE : ∀ w, (isAgg (Tryz.laysSlF06_f91_ren.t 24)).run Tryz.prog w = .ok true w) (zE : ∀ w, (Go.sizeOf (Tryz.laysSlF06_f91_ren.t 24)).run Tryz.prog w = .ok k w) (enc : α → List Value) (hk : ∀ x, (enc x).length = k) (h1 : ∀ x, ∀ v ∈ enc x, v.oneCell' = true) (cf : α → α → Int) (hO : SWO (ltOf cf)) (g : Nat) (cb : Array Value) (blk off cap : Nat) (d : Array α) (w : World) (eg : ∀ args w, (callFunc g args).run Tryz.prog w = .ok (.enter g args) w) (hcmp : CmpLays Tryz.prog g cb enc k cf blk off d.size w) (hH : HoldsK enc k w blk off d) (hblk : blk < w.heap.size) (hsz : d.size < 4611686018427387904) :
    Calls Tryz.prog 91 #[.slice (some ⟨blk, off, none⟩) d.size cap, .func (.func g) #[] cb] w fun e w' =>
      e = .returned (.tuple #[]) ∧ ∃ d' n os, PermIn 0 d.size d d' ∧ SortedIn (ltOf cf) 0 d.size d' ∧ w' = sortWorldK enc k w blk off n d' os := AnyQ.slices_SortFunc Tryz.laysSlF06_f91 k aE zE enc hk h1 cf hO g cb blk off cap d w eg hcmp hH hblk hsz
open Go.RowKit Go.Lib Go.Sort in
theorem Tryz.slices_SortFunc_none {α : Type} [Inhabited α] (p : Option Addr) (cap : Nat) (fv : Value) (w : World) :
    Calls Tryz.prog 91 #[.slice p 0 cap, fv] w fun e w' => e = .returned (.tuple #[]) ∧ w' = w := AnyF.slices_SortFunc_none Tryz.laysSlF06_f91 p cap fv w
end Go.Proofs

/- Vars. -/
namespace Go.Proofs.YtjjaknmnhhfjeaaGreatDoor
open Go.RowKit Go.Hw Go
set_option linter.unusedVariables false
set_option linter.unusedSimpArgs false

open Tm Go.Sort Go.Proofs Go.ChangeMaps
abbrev fEnc (f : Vd) : List Value := [.string f.1, .string f.2]
theorem fCells_enc (L : List Vd) : fCells L = L.flatMap fEnc := rfl
set_option maxRecDepth 100000 in
set_option maxHeartbeats 2000000 in
theorem cmpF_x (x y : Vd) (w : World) : Calls Tryz.prog 92 #[.agg (fEnc x).toArray, .agg (fEnc y).toArray] w fun e w' => e = .returned (.int .i64 (cfN (Prod.fst : Vd → By) x y)) ∧ ∃ q os', w' = grow (w.drewN q) os' := by
  have hb0 := allocOld (alloc0 w (.cells #[.string x.1, .string x.2] 78)) (.cells #[.string y.1, .string y.2] 78)
  have hb1 := alloc_at (w.alloc (.cells #[.string x.1, .string x.2] 78)) (.cells #[.string y.1, .string y.2] 78) (n := w.heap.size + 1) (by simp)
  have c0 := cellRow hb0 0 (.string x.1) rfl
  have d0 := cellRow hb1 0 (.string y.1) rfl
  have hc := fun W => Tryz.strings_Compare x.1 y.1 W
  change ∀ W, Calls _ _ _ W fun e w' => e = .returned (.int .i64 (cfN (Prod.fst : Vd → By) x y)) ∧ w' = W at hc
  have HC := Lib.hid hc
  generalize cfN (Prod.fst : Vd → By) x y = r at *
  clear hb0 hb1 hc
  go_enter Tryz.func92, Tryz.ntmps92
  go_wp2_with fail
  refine (HC.out _).mono ?_
  rintro e w4 ⟨rfl, rfl⟩
  go_wp2_with fail
  go_ret
  exact ⟨rfl, 0, _, by rw [alloc_eq_grow, alloc_eq_grow, grow_grow]; rfl⟩
set_option maxRecDepth 100000 in
set_option maxHeartbeats 2000000 in
theorem sortV_x (L : List Vd) (base : Nat) (v : Value) (w : World) (hO : w.ownsRow base 78 2 v L.length (fCells L)) (hd : L.Pairwise fun x y => x.1 ≠ y.1) (hl : L.length ≤ 1000000) :
    Calls Tryz.prog 91 #[v, .func (.func 92) #[] #[]] w fun e w' => e = .returned (.tuple #[]) ∧ ∃ L', AscK (Prod.fst : Vd → By) L' ∧ L'.Perm L ∧ FiR (fun k => v.ownBlock = some k) w' v L' ∧ Upd (fun k => v.ownBlock = some k) w w' := by
  by_cases h0 : 0 < L.length
  · obtain ⟨g, cap, rfl, hb, hgl, hnc, hcell, hfz⟩ := ownAt hO h0
    have hH : HoldsK fEnc 2 w g 0 L.toArray := holdsK_of fEnc 2 (fun _ => rfl) (fun j hj => ⟨by rw [Nat.zero_add]; exact hcell j hj, hfz _⟩)
    have eg : ∀ args w, (callFunc 92 args).run Tryz.prog w = .ok (.enter 92 args) w := enters_of Tryz.func92 (by kernel_rfl) rfl
    have h := Tryz.slices_SortFunc 2 (fun w => Tryz.isAgg78 w) (fun w => Tryz.sizeOf78 w) fEnc (fun _ => rfl) (fun x u hu => by simp [fEnc] at hu; rcases hu with h | h <;> (subst h; rfl)) (cfN (Prod.fst : Vd → By)) (swo_cfN _) 92 #[] g 0 cap L.toArray w eg (fun m os dk _ x y => cmpF_x x y _) hH hgl (by simp; omega)
    rw [show L.toArray.size = L.length by simp] at h
    refine h.mono ?_
    rintro e w' ⟨rfl, d', n, os, hp, hs, rfl⟩
    have hsz : d'.size = L.length := by have := hp.1; simpa using this
    obtain ⟨ha, hperm⟩ := sort_asc (d := L.toArray) (Prod.fst : Vd → By) (by rw [show L.toArray.size = L.length by simp]; exact hp) (by rw [show L.toArray.size = L.length by simp]; exact hs) (by simpa using hd)
    have hl' : d'.toList.length = L.length := by simpa using hsz
    refine ⟨rfl, d'.toList, ha, by simpa using hperm, ?_, (upd_sortK fEnc 2 w g 0 n d' os).mono (fun k _ e => by rw [e]; rfl)⟩
    have hH' := holdsK_sortWorldK_c fEnc 2 w g 0 L.toArray d' n os hH hgl (by simpa using hsz)
    unfold FiR
    rw [hl']
    refine SlR.mk' (by rw [fCells_len, hl']) rfl hnc (fun _ => rfl) (fun j hj => ?_)
    rw [fCells_enc]
    exact (cells_holdsK fEnc 2 (fun _ => rfl) hH' j (by rw [hsz]; exact hj)).1
  · have hl0 : L = [] := List.eq_nil_of_length_eq_zero (by omega)
    subst hl0
    obtain ⟨a, cap, rfl⟩ := own_shape hO
    have h := Tryz.slices_SortFunc_none (α := Vd) a cap (.func (.func 92) #[] #[]) w
    refine h.mono ?_
    rintro e w' ⟨rfl, rfl⟩
    exact ⟨rfl, [], List.Pairwise.nil, List.Perm.refl _, SlR.of_own hO, Upd.refl _ _⟩
def varsF (t : Tm) : List Vd × Int := if wf nmB t = true then (varsT t, 0) else ([], 1)
theorem sortsT_dist {t : Tm} {m : List Vd} (h : sortsT t = some m) : m.Pairwise (fun p q => p.1 ≠ q.1) := by
  have hnil : Cons [] := fun f hf => by cases hf
  obtain ⟨h1, _⟩ := sFold_spec (vl (sbts t)) [] hnil
  exact (h1 m h).2.2 List.Pairwise.nil
theorem varsT_spec {t : Tm} {m : List Vd} (h : sortsT t = some m) : AscK (Prod.fst : Vd → By) (varsT t) ∧ ∀ f, f ∈ varsT t ↔ f ∈ m := by
  obtain ⟨_, h1⟩ := vFold_spec (vl (sbts t)) [] [] List.Pairwise.nil (fun _ => rfl) (fun _ => Iff.rfl)
  obtain ⟨a, _, b⟩ := h1 m h
  exact ⟨a, b⟩
theorem sFold_len : ∀ (fs m m' : List Vd), sFold m fs = some m' → m'.length ≤ m.length + fs.length
  | [], m, m', h => by injection h with h; rw [← h]; simp
  | f :: fs, m, m', h => by
    unfold sFold at h
    cases hg : fget m f.1 with
    | none =>
      rw [hg] at h
      have := sFold_len fs _ _ h
      simp only [List.length_append, List.length_cons, List.length_nil] at this ⊢
      omega
    | some s =>
      rw [hg] at h
      simp only at h
      split at h
      · have := sFold_len fs _ _ h
        simp only [List.length_cons]
        omega
      · cases h
theorem ent_field {es : List MapEntry} {m : List Vd} (h : es.map (fun e => (e.key, e.val)) = (mVd m).map (fun p => (Value.string p.1, p.2))) {e : MapEntry} (he : e ∈ es) : ∃ f ∈ m, e.key = .string f.1 ∧ e.val = .string f.2 := by
  have h1 : (e.key, e.val) ∈ (mVd m).map (fun p => (Value.string p.1, p.2)) := by
    rw [← h]
    exact List.mem_map.2 ⟨e, he, rfl⟩
  obtain ⟨p, hp, h2⟩ := List.mem_map.1 h1
  obtain ⟨f, hf, rfl⟩ := List.mem_map.1 hp
  injection h2 with h3 h4
  exact ⟨f, hf, h3.symm, h4.symm⟩
theorem field_ent {es : List MapEntry} {m : List Vd} (h : es.map (fun e => (e.key, e.val)) = (mVd m).map (fun p => (Value.string p.1, p.2))) {f : Vd} (hf : f ∈ m) : ∃ e ∈ es, e.key = .string f.1 := by
  have h1 : (Value.string f.1, Value.string f.2) ∈ es.map (fun e => (e.key, e.val)) := by
    rw [h]
    exact List.mem_map.2 ⟨(f.1, .string f.2), List.mem_map.2 ⟨f, hf, rfl⟩, rfl⟩
  obtain ⟨e, he, h2⟩ := List.mem_map.1 h1
  injection h2 with h3 _
  exact ⟨e, he, h3⟩
theorem ent_uniq {es : List MapEntry} {m : List Vd} (h : es.map (fun e => (e.key, e.val)) = (mVd m).map (fun p => (Value.string p.1, p.2))) (hd : m.Pairwise (fun p q => p.1 ≠ q.1)) {x y : MapEntry} (hx : x ∈ es) (hy : y ∈ es) (hk : x.key = y.key) : x = y := by
  obtain ⟨i, hi, rfl⟩ := List.getElem_of_mem hx
  obtain ⟨j, hj, rfl⟩ := List.getElem_of_mem hy
  have hlen : es.length = m.length := by
    have := congrArg List.length h
    simpa using this
  have hat : ∀ i (hi : i < es.length), es[i].key = .string (m[i]'(by omega)).1 := fun i hi => by
    have h1 : (es.map (fun e => (e.key, e.val)))[i]? = ((mVd m).map (fun p => (Value.string p.1, p.2)))[i]? := by rw [h]
    rw [List.getElem?_map, List.getElem?_map, List.getElem?_map, List.getElem?_eq_getElem hi, List.getElem?_eq_getElem (show i < m.length by omega)] at h1
    injection h1 with h1
    injection h1 with h1 _
  rw [hat i hi, hat j hj] at hk
  injection hk with hk
  rw [List.pairwise_iff_getElem] at hd
  rcases Nat.lt_trichotomy i j with h2 | h2 | h2
  · exact absurd hk (hd i j (by omega) (by omega) h2)
  · subst h2; rfl
  · exact absurd hk.symm (hd j i (by omega) (by omega) h2)
structure VIn (es : Array MapEntry) (seen : Array Nat) (m L : List Vd) : Prop where
  sub : ∀ f ∈ L, f ∈ m ∧ ∃ e ∈ es.toList, e.key = .string f.1 ∧ seen.contains e.born = true
  dist : L.Pairwise (fun p q => p.1 ≠ q.1)
  all : ∀ e ∈ es.toList, seen.contains e.born = true → ∀ f ∈ m, e.key = .string f.1 → f ∈ L
theorem VIn.start (es : Array MapEntry) (m : List Vd) : VIn es #[] m [] := ⟨fun f hf => (by cases hf), List.Pairwise.nil, fun e _ h => (by simp at h)⟩
theorem VIn.next {es : Array MapEntry} {seen : Array Nat} {m L : List Vd} (hm : es.toList.map (fun e => (e.key, e.val)) = (mVd m).map (fun p => (Value.string p.1, p.2))) (hd : m.Pairwise (fun p q => p.1 ≠ q.1)) (hn : (es.toList.map (·.born)).Nodup) (h : VIn es seen m L) {e : MapEntry} (he : e ∈ es.toList) (hs : seen.contains e.born = false) {f : Vd} (hf : f ∈ m) (hk : e.key = .string f.1) : VIn es (seen.push e.born) m (L ++ [f]) := by
  refine ⟨fun g hg => ?_, ?_, fun x hx hsx g hg hkx => ?_⟩
  · rcases List.mem_append.1 hg with hg | hg
    · obtain ⟨a, x, hx, b, c⟩ := h.sub g hg
      exact ⟨a, x, hx, b, by rw [contains_push, c]; rfl⟩
    · rw [List.mem_singleton] at hg
      subst hg
      exact ⟨hf, e, he, hk, by rw [contains_push, beq_self_eq_true, Bool.or_true]⟩
  · rw [List.pairwise_append]
    refine ⟨h.dist, List.pairwise_singleton _ _, fun g hg y hy heq => ?_⟩
    rw [List.mem_singleton] at hy
    subst hy
    obtain ⟨_, x, hx, b, c⟩ := h.sub g hg
    have hxe : x = e := ent_uniq hm hd hx he (by rw [b, hk, heq])
    rw [hxe, hs] at c
    cases c
  · rw [contains_push, Bool.or_eq_true, beq_iff_eq] at hsx
    rcases hsx with hsx | hsx
    · exact List.mem_append_left _ (h.all x hx hsx g hg hkx)
    · have hxe : x = e := born_inj hn hx he hsx
      rw [hxe, hk] at hkx
      injection hkx with hkx
      obtain ⟨i, hi, e1⟩ := List.getElem_of_mem hf
      obtain ⟨j, hj, e2⟩ := List.getElem_of_mem hg
      have hgf : g = f := by
        rw [List.pairwise_iff_getElem] at hd
        rcases Nat.lt_trichotomy i j with h2 | h2 | h2
        · exact absurd (by rw [e1, e2]; exact hkx) (hd i j hi hj h2)
        · subst h2; rw [← e1, ← e2]
        · exact absurd (by rw [e1, e2]; exact hkx.symm) (hd j i hj hi h2)
      rw [hgf]
      exact List.mem_append_right _ (List.mem_singleton.2 rfl)
theorem VIn.fin {es : Array MapEntry} {seen : Array Nat} {m L : List Vd} (hm : es.toList.map (fun e => (e.key, e.val)) = (mVd m).map (fun p => (Value.string p.1, p.2))) (h : VIn es seen m L) (h0 : (leftOf es seen).size = 0) : ∀ f, f ∈ L ↔ f ∈ m := fun f =>
  ⟨fun hf => (h.sub f hf).1, fun hf => by
    obtain ⟨e, he, hk⟩ := field_ent hm hf
    exact h.all e he (all_seen es seen h0 e he) f hf hk⟩
theorem upd_setBlock (w : World) (r : Nat) (o : Obj) : Upd (fun j => j = r) w (Go.ChangeMaps.setBlock w r o) := ⟨rfl, rfl, rfl, by simp [Go.ChangeMaps.setBlock], fun i hi hF => by simp [Go.ChangeMaps.setBlock, Ne.symm (show i ≠ r from hF)]⟩
theorem heap_setBlock {w : World} {r : Nat} {o o' : Obj} (h : w.heap[r]? = some o) : (Go.ChangeMaps.setBlock w r o').heap[r]? = some o' := by
  have := (Array.getElem?_eq_some_iff.1 h).1
  simp [Go.ChangeMaps.setBlock, this]
set_option maxRecDepth 100000 in
set_option maxHeartbeats 2000000 in
theorem tvars_x (t : Tm) (v : Value) (w : World) (htab : AscT w) (hR : TmR (fun k => k < w.heap.size) w t v) (hsz : (t.size : Int) ≤ 1000000) : Calls Tryz.prog 37 #[v] w fun e w' => ∃ r, e = .returned (.tuple #[r, .int .i64 (varsF t).2]) ∧ FiR (fun k => w.heap.size ≤ k ∧ k < w'.heap.size) w' r (varsF t).1 ∧ Ext w w' := by
  have HR := Lib.hid hR
  obtain ⟨a, cap, rfl, hT⟩ := hR
  have HTL := Lib.hid hT
  dsimp only [tV]
  have HZ := Lib.hid ((Upd.refl (fun _ => False) w).alloc (.cells #[.string t.name, .string t.sort, .slice a t.kids.length cap] 24))
  have HB := Lib.hid (alloc0 w (.cells #[.string t.name, .string t.sort, .slice a t.kids.length cap] 24))
  have HSZ := Lib.hid hsz
  have HF := Lib.hid (fun W (hW : Ext w W) => formed_x t _ W (asc_ext htab hW) ((HR.out.ext hW).weaken (fun k hk => Nat.lt_of_lt_of_le hk hW.size)) (by omega))
  dsimp only [tV] at HF
  have c0 := cellRow HB.out 0 (.string t.name) rfl
  have c1 := cellRow HB.out 1 (.string t.sort) rfl
  have c2 := cellRow HB.out 2 (.slice a t.kids.length cap) rfl
  clear hT
  obtain ⟨VF, hVF⟩ : ∃ x, varsF t = x := ⟨_, rfl⟩
  have HVF : Hid ((if wf nmB t = true then (varsT t, 0) else ([], 1)) = VF) := Lib.hid hVF
  rw [hVF]
  clear hVF
  cases hfm : formed nmB t
  · rw [hfm] at HF
    have hwf := wf_false hfm
    have hv := HVF.out
    rw [hwf, if_neg (by simp)] at hv
    subst hv
    clear hwf hfm
    go_enter Tryz.func37, Tryz.ntmps37
    go_wp2_with fail
    refine (HF.out _ HZ.out).mono ?_
    rintro e w4 ⟨rfl, hw4⟩
    have H4 := Lib.hid (HZ.out.ext hw4)
    clear hw4 c0 c1 c2
    go_wp2_with fail
    go_ret2
    exact ⟨_, rfl, SlR.nil _ _ _, H4.out⟩
  rw [hfm] at HF
  have HSO : Hid (wf nmB t = (sortsT t).isSome) := Lib.hid (by unfold wf; rw [hfm, Bool.true_and])
  clear hfm
  go_enter Tryz.func37, Tryz.ntmps37
  go_wp2_with fail
  refine (HF.out _ HZ.out).mono ?_
  rintro e w4 ⟨rfl, hw4⟩
  have H4 := Lib.hid (HZ.out.ext hw4)
  have HB4 := Lib.hid (hw4.heap HB.out (fun h => h))
  clear hw4 c0 c1 c2
  have c0 := cellRow HB4.out 0 (.string t.name) rfl
  have c1 := cellRow HB4.out 1 (.string t.sort) rfl
  have c2 := cellRow HB4.out 2 (.slice a t.kids.length cap) rfl
  have HBX := Lib.hid (alloc0 w4 (.cells #[.string t.name, .string t.sort, .slice a t.kids.length cap] 24))
  have HE5 := Lib.hid (H4.out.alloc (.cells #[.string t.name, .string t.sort, .slice a t.kids.length cap] 24))
  go_wp2_with fail
  generalize (w4.alloc (.cells #[.string t.name, .string t.sort, .slice a t.kids.length cap] 24)) = w5 at *
  have x0 := cellRow HBX.out 0 (.string t.name) rfl
  have x1 := cellRow HBX.out 1 (.string t.sort) rfl
  have x2 := cellRow HBX.out 2 (.slice a t.kids.length cap) rfl
  have HSR := Lib.hid (sorts_x t w4.heap.size 0 1 0 cap a w5 ⟨x0, x1, x2⟩ ((HTL.out.ext HE5.out).weaken (fun k hk => Nat.lt_of_lt_of_le hk HE5.out.size)) (by omega))
  clear x0 x1 x2 c0 c1 c2
  refine HSR.out.mono ?_
  rintro e w6 ⟨hp, hw6⟩
  have H6 := Lib.hid (HE5.out.ext hw6)
  have hws := Nat.le_trans HE5.out.size hw6.size
  have hbb : w5.heap.size ≤ w6.heap.size := hw6.size
  unfold SortsP at hp
  clear hw6 HSR
  cases hso : sortsT t with
  | none =>
    rw [hso] at hp
    simp only at hp
    subst hp
    have hv := HVF.out
    rw [HSO.out, hso, if_neg (by simp)] at hv
    subst hv
    go_wp2_with fail
    go_ret2
    exact ⟨_, rfl, SlR.nil _ _ _, H6.out⟩
  | some m =>
    rw [hso] at hp
    simp only at hp
    obtain ⟨b, rfl, hb5, es, clock, hb, hes, hbp, hbc⟩ := hp
    have hv := HVF.out
    rw [HSO.out, hso, if_pos (by simp)] at hv
    subst hv
    have HMD := Lib.hid (sortsT_dist hso)
    have HVS := Lib.hid (varsT_spec hso)
    have hml : m.length ≤ 1000000 := by
      have h1 := sFold_len _ _ _ (show sFold [] (vl (sbts t)) = some m from hso)
      have h2 : (vl (sbts t)).length ≤ t.size := by
        have h1 : (vl (sbts t)).length ≤ (sbts t).length := List.length_filterMap_le _ _
        have h2 : (sbts t).length = t.size := by rw [sbts, List.length_map, nodesD_len]
        omega
      simp only [List.length_nil] at h1
      omega
    have HML := Lib.hid hml
    have HES := Lib.hid hes
    have HND : Hid ((es.toList.map (·.born)).Nodup) := Lib.hid (by
      rw [List.Nodup, List.pairwise_map]
      exact hbp.imp (fun h e => by omega))
    have HBC := Lib.hid hbc
    have hrg := run_range_map (P := Tryz.prog) w6 85 9 9 b es clock Tryz.underlying85 hb
    have hblt : b < w6.heap.size := (Array.getElem?_eq_some_iff.1 hb).1
    have HBL := Lib.hid hblt
    have HB0 := Lib.hid (allocOld hb (.mapIter (some b) clock #[] clock))
    have HR0 := Lib.hid (alloc0 w6 (.mapIter (some b) clock #[] clock))
    have HE0 := Lib.hid (H6.out.alloc (.mapIter (some b) clock #[] clock))
    have HZ0 : Hid (w6.heap.size + 1 ≤ (w6.alloc (.mapIter (some b) clock #[] clock)).heap.size) := Lib.hid (by simp)
    have HWS := Lib.hid hws
    clear hso hes hbp hbc hml HSO HF HBX hb hblt hbb hb5 HVF
    go_wp2_with fail
    try go_frame
    generalize w6.alloc (.mapIter (some b) clock #[] clock) = w7 at *
    clear hrg
    obtain ⟨r, hr⟩ : ∃ r, w6.heap.size = r := ⟨_, rfl⟩
    rw [hr] at HR0 HZ0 HBL HWS ⊢
    clear hr
    go_loopg [6] (leftOf es #[]).size (fun gk ov wr => ∃ (oa : Option Addr) (oc : Nat) (L : List Vd) (seen : Array Nat), ov = .slice oa L.length oc ∧ gk = (leftOf es seen).size ∧ Hid (wr.ownsRow (r + 1) 78 2 (.slice oa L.length oc) L.length (fCells L)) ∧ Hid (wr.heap[r]? = some (.mapIter (some b) clock seen clock)) ∧ Hid (wr.heap[b]? = some (.map es clock)) ∧ Hid (Ext w wr) ∧ Hid (r + 1 ≤ wr.heap.size) ∧ Hid (VIn es seen m L))
    case atStart => exact ⟨none, 0, [], #[], rfl, rfl, Lib.hid ⟨rfl, .inl ⟨rfl, rfl⟩⟩, HR0, HB0, HE0, HZ0, Lib.hid (VIn.start es m)⟩
    case round =>
      clear HR0 HB0 HE0 HZ0
      obtain ⟨oa, oc, L, seen, rfl, rfl, HO, HRR, HBB, HE, HSR, HV⟩ := hrel
      rcases run_next_at (P := Tryz.prog) wr 0 r b clock clock seen es clock HRR.out HBB.out (fun x hx => HBC.out x hx) (Nat.le_refl _) with ⟨h0, hrun⟩ | ⟨e, he, w1, hw1, hrun⟩
      · have hnx : ∀ ty, (Instr.next (.pointer (some ⟨r, 0, none⟩)) false ty).run Tryz.prog wr = _ := fun _ => hrun
        have hfin := HV.out.fin HES.out h0
        have hll : L.length ≤ 1000000 := by
          have hnd : L.Nodup := HV.out.dist.imp (fun h e => h (by rw [e]))
          have := hnd.length_le_of_subset (fun f hf => (hfin f).1 hf)
          have := HML.out
          omega
        have HST := Lib.hid (fun W (hW : Ext wr W) => sortV_x L (r + 1) (.slice oa L.length oc) W (own_kept HO.out hW (fun _ _ h => h)) HV.out.dist hll)
        have HOB : Hid (∀ k, (Value.slice oa L.length oc).ownBlock = some k → r + 1 ≤ k ∧ k < wr.heap.size) := Lib.hid (fun k hk => HO.out.lt k hk)
        have HFN := Lib.hid hfin
        clear hfin hll h0
        go_wp2_with fail
        refine (HST.out _ (Upd.refl _ _)).mono ?_
        rintro e w8 ⟨rfl, L', ha, hperm, hF, hu⟩
        have hLV : L' = varsT t := asc_uniq Prod.fst ha HVS.out.1 (fun f => by rw [hperm.mem_iff, HFN.out f, HVS.out.2 f])
        have hlen : L.length = (varsT t).length := by rw [← hLV, hperm.length_eq]
        have HF8 : Hid (FiR (fun k => w.heap.size ≤ k ∧ k < w8.heap.size) w8 (.slice oa L.length oc) (varsT t)) := Lib.hid (by rw [← hLV]; exact SlR.weaken hF (fun k hk => ⟨by have h1 := (HOB.out k hk).1; have h2 := HWS.out; omega, Nat.lt_of_lt_of_le (HOB.out k hk).2 hu.size⟩))
        have HE8 : Hid (Ext w w8) := Lib.hid (HE.out.trans' hu (fun j hj e => by have h1 := (HOB.out j e).1; have h2 := HWS.out; omega))
        clear hnx hrun hLV hlen ha hperm hF hu HST
        go_wp2_with fail
        go_ret2
        exact ⟨_, rfl, HF8.out, HE8.out⟩
      · have hml := mem_left he
        obtain ⟨f, hf, hk, hvv⟩ := ent_field HES.out hml.1
        have hrw : w1.heap[r]? = some (.mapIter (some b) clock seen clock) := by rcases hw1 with h | h <;> (rw [h]; exact HRR.out)
        have hrb : w1.heap[b]? = some (.map es clock) := by rcases hw1 with h | h <;> (rw [h]; exact HBB.out)
        have hu1 : Upd (fun j => j = r) wr (Go.ChangeMaps.setBlock w1 r (.mapIter (some b) clock (seen.push e.born) clock)) := by
          have := upd_setBlock w1 r (.mapIter (some b) clock (seen.push e.born) clock)
          rcases hw1 with h | h
          · rw [h] at this ⊢; exact this
          · rw [h] at this ⊢; exact this.ofDrew
        have hr2 := heap_setBlock (o' := .mapIter (some b) clock (seen.push e.born) clock) hrw
        rw [hk, hvv] at hrun
        generalize Go.ChangeMaps.setBlock w1 r (.mapIter (some b) clock (seen.push e.born) clock) = wN at *
        have HBN := Lib.hid (hu1.heap HBB.out (by have := HBL.out; omega))
        have HRN := Lib.hid hr2
        have hen := run_entry_at (P := Tryz.prog) wN r b clock seen es clock e hr2 HBN.out hml.1 HND.out
        rw [hk, hvv] at hen
        have hnx : ∀ ty, (Instr.next (.pointer (some ⟨r, 0, none⟩)) false ty).run Tryz.prog wr = _ := fun _ => hrun
        have HON : Hid (wN.ownsRow (r + 1) 78 2 (.slice oa L.length oc) L.length (fCells L)) := Lib.hid (own_kept HO.out hu1 (fun j hj e => by have := (HO.out.lt j hj).1; omega))
        have HEN : Hid (Ext w wN) := Lib.hid (HE.out.trans' hu1 (fun j hj e => by have h2 := HWS.out; omega))
        have HVN := Lib.hid (HV.out.next HES.out HMD.out HND.out hml.1 hml.2 hf hk)
        have HLT := Lib.hid (left_shrinks es seen e he)
        have hll : L.length ≤ 1000000 := by
          have hnd : L.Nodup := HV.out.dist.imp (fun h e => h (by rw [e]))
          have := hnd.length_le_of_subset (fun f hf => (HV.out.sub f hf).1)
          have := HML.out
          omega
        have HSN : Hid (r + 1 ≤ wN.heap.size) := Lib.hid (Nat.le_trans HSR.out hu1.size)
        clear hml hf hk hvv hrw hrb hu1 hr2 he hw1
        obtain ⟨iF, hi, hz0, hz1, hz2⟩ := info_parts infoF
        go_wp2_with (at_builtin; refine wpList_append_at _ rfl (.tmp 27) (.tmp 31) 72 rfl (r + 1) 78 iF (.agg #[.string ⟨#[]⟩, .string ⟨#[]⟩]) 2 32 Tryz.underlying72 hi hz0 hz1 hz2 rfl (by decide) _ _ _ rfl (HON.out.alloc _) _ 1 1 [.string f.1, .string f.2] rfl rfl ?c1 ?c2 ?c3 ?c4 ?c5 ?_)
        case c1 =>
          intro l u hl
          match l, hl with
          | 0, hl => simp only [List.getElem?_cons_zero, Option.some.injEq] at hl; subst hl; simp only [Addr.add]; exact cellRow (alloc0 _ _) 0 _ rfl
          | 1, hl => simp at hl; subst hl; simp only [Addr.add]; exact cellRow (alloc0 _ _) 1 _ rfl
        case c2 => intro u hu; simp at hu; rcases hu with h | h <;> (subst h; rfl)
        case c3 => unfold maxLen; omega
        case c4 => omega
        case c5 => have := HSN.out; simp; omega
        intro v6 w8 hG
        obtain ⟨a6, c6, rfl⟩ := own_shape hG.own
        have hua := (Upd.refl (fun _ => False) wN).alloc (.cells #[.string f.1, .string f.2] 78)
        have HO8 : Hid (w8.ownsRow (r + 1) 78 2 (.slice a6 (L ++ [f]).length c6) (L ++ [f]).length (fCells (L ++ [f]))) := Lib.hid (by
          have h := hG.own
          rw [show (L ++ [f]).length = L.length + 1 by simp, fCells_append]
          exact h)
        have hUU : Upd (fun j => (Value.slice oa L.length oc).ownBlock = some j) wN w8 := (hua.mono (fun _ _ h => h.elim)).trans hG.upd
        have HOO : ∀ j, (Value.slice oa L.length oc).ownBlock = some j → r + 1 ≤ j := fun j hj => (HON.out.lt j hj).1
        have HR8 := Lib.hid (hUU.heap HRN.out (fun e => by have := HOO _ e; omega))
        have HB8 := Lib.hid (hUU.heap HBN.out (fun e => by have := HOO _ e; have := HBL.out; omega))
        have HE8 : Hid (Ext w w8) := Lib.hid (HEN.out.trans' hUU (fun j hj e => by have := HOO _ e; have h2 := HWS.out; omega))
        have HS8 : Hid (r + 1 ≤ w8.heap.size) := Lib.hid (Nat.le_trans HSN.out hUU.size)
        clear hG hua hUU HOO hi hz0 hz1 hz2 hnx hrun hen
        go_wp2_with fail
        have hlt := HLT.out
        go_roundg (leftOf es (seen.push e.born)).size
        case measure => exact hlt
        case rel => exact ⟨a6, c6, L ++ [f], seen.push e.born, by simp, rfl, HO8, HR8, HB8, HE8, HS8, HVN⟩

end Go.Proofs.YtjjaknmnhhfjeaaGreatDoor

/- copied. -/
namespace Go.Proofs.YtjjaknmnhhfjeaaGreatDoor
open Go.RowKit Go.Hw Go
set_option linter.unusedVariables false
set_option linter.unusedSimpArgs false

open Tm
theorem TlO.shape {te : TypeId} {w : World} {B : Nat → Prop} {L : List Tm} {v : Value} (h : TlO te w B L v) : ∃ a cap, v = .slice a L.length cap := h.read.shape
theorem new3 (w : World) (u0 u1 u2 : Value) (t : TypeId) : ∀ (j : Nat) (u : Value), [u0, u1, u2][j]? = some u → (w.alloc (.cells #[u0, u1, u2] t)).cell? ((⟨w.heap.size, 0, none⟩ : Addr).add j) = some u := fun j u hj => by
  match j, hj with
  | 0, hj => simp only [List.getElem?_cons_zero, Option.some.injEq] at hj; subst hj; simp only [Addr.add]; exact cellRow (alloc0 _ _) 0 _ rfl
  | 1, hj => simp at hj; subst hj; simp only [Addr.add]; exact cellRow (alloc0 _ _) 1 _ rfl
  | 2, hj => simp at hj; subst hj; simp only [Addr.add]; exact cellRow (alloc0 _ _) 2 _ rfl
structure CpJ (te : TypeId) (n0 : Nat) (wr : World) (L : List Tm) (lv : Value) (us : List Value) (Bk : Nat → Nat → Prop) (k : Nat) : Prop where
  len : us.length = k
  own : wr.ownsRow n0 te 3 lv k (tCells (L.take k) us)
  kid : ∀ i, i < k → TlO te wr (Bk i) (tg L i).kids (ug us i)
  blk : ∀ i j, i < k → Bk i j → n0 ≤ j ∧ j < wr.heap.size ∧ lv.ownBlock ≠ some j
  dis : ∀ i i' j, i < k → i' < k → i ≠ i' → Bk i j → ¬ Bk i' j
theorem CpJ.grow {te : TypeId} {n0 n3 k : Nat} {wr wq w5 wA w7 w8 : World} {L : List Tm} {lv lv' u : Value} {us : List Value} {Bk : Nat → Nat → Prop} {Bx : Nat → Prop} {x : Tm} (h : CpJ te n0 wr L lv us Bk k) (hk : k < L.length) (hx : tg L k = x) (hn : n3 < n0) (h0 : n0 ≤ wr.heap.size) (hq : Ext wr wq) (h5 : Ext wq w5)
    (hT : TlO te w5 Bx x.kids u) (hB : ∀ j, Bx j → wq.heap.size ≤ j ∧ j < w5.heap.size) (hA : Ext w5 wA) (hG : Grew n0 te 3 lv (k + 1) (tCells (L.take k) us ++ [.string x.name, .string x.sort, u]) wA w7 lv') (h8 : Upd (fun j => j = n3) w7 w8) :
    CpJ te n0 w8 L lv' (us ++ [u]) (fun i => if i = k then Bx else Bk i) (k + 1) := by
  have hU1 : Upd (fun j => lv.ownBlock = some j) wr w7 := (((hq.trans h5).trans hA).mono (fun _ _ x => x.elim)).trans hG.upd
  have hlt := fun j hj => h.own.lt j hj
  have hF : ∀ (P : Nat → Prop) (Lx : List Tm) (vx : Value), TlO te w7 P Lx vx → (∀ j, P j → n0 ≤ j) → TlO te w8 P Lx vx := fun P Lx vx ht hp => ht.kept h8 (fun j hj e => by have := hp j hj; omega)
  refine ⟨by rw [List.length_append, h.len]; rfl, ?_, fun i hi => ?_, fun i j hi hj => ?_, fun i i' j hi hi' hne hj => ?_⟩
  · rw [tk_snoc L k hk, tCells_snoc _ _ _ _ (by rw [h.len, List.length_take]; omega), hx]
    exact own_kept hG.own h8 (fun j hj e => by have := (hG.own.lt j hj).1; omega)
  · by_cases e : i = k
    · subst e
      rw [if_pos rfl, hx]
      have e2 : ug (us ++ [u]) i = u := by unfold ug; rw [List.getD_eq_getElem?_getD, List.getElem?_append_right (by rw [h.len]; exact Nat.le_refl _), h.len, Nat.sub_self]; rfl
      rw [e2]
      refine hF _ _ _ ((hT.kept hA (fun _ _ x => x)).kept hG.upd (fun j hj e => ?_)) (fun j hj => by have h1 := hB j hj; have := hq.size; omega)
      have h1 := (hB j hj).1
      have h2 := (hlt j e).2
      have := hq.size
      omega
    · rw [if_neg e]
      have e2 : ug (us ++ [u]) i = ug us i := by unfold ug; rw [List.getD_eq_getElem?_getD, List.getD_eq_getElem?_getD, List.getElem?_append_left (by rw [h.len]; omega)]
      rw [e2]
      exact hF _ _ _ ((h.kid i (by omega)).kept hU1 (fun j hj e => (h.blk i j (by omega) hj).2.2 e)) (fun j hj => (h.blk i j (by omega) hj).1)
  · have hs8 := h8.size
    have hs7 := hG.upd.size
    have hsA := hA.size
    have hs5 := h5.size
    have hsq := hq.size
    have hbn : ∀ j, lv'.ownBlock = some j → lv.ownBlock = some j ∨ w5.heap.size ≤ j := fun j e => by
      rcases hG.where_ with h | h
      · rw [h] at e; exact .inl e
      · rw [h] at e; injection e with e; exact .inr (by omega)
    by_cases e : i = k
    · subst e
      rw [if_pos rfl] at hj
      have h1 := hB j hj
      refine ⟨by omega, by omega, fun e => ?_⟩
      rcases hbn j e with h2 | h2
      · have := (hlt j h2).2; omega
      · omega
    · rw [if_neg e] at hj
      obtain ⟨h1, h2, h3⟩ := h.blk i j (by omega) hj
      refine ⟨h1, by omega, fun e => ?_⟩
      rcases hbn j e with h4 | h4
      · exact h3 h4
      · omega
  · have hsq := hq.size
    by_cases e : i = k
    · subst e
      rw [if_pos rfl] at hj
      have h1 := hB j hj
      rw [if_neg (fun e => hne e.symm)]
      intro h2
      have := (h.blk i' j (by omega) h2).2.1
      omega
    · rw [if_neg e] at hj
      by_cases e' : i' = k
      · subst e'
        rw [if_pos rfl]
        intro h2
        have h3 := hB j h2
        have := (h.blk i j (by omega) hj).2.1
        omega
      · rw [if_neg e']
        exact h.dis i i' j (by omega) (by omega) hne hj
theorem CpJ.fin {te : TypeId} {n0 : Nat} {wr : World} {L : List Tm} {lv : Value} {us : List Value} {Bk : Nat → Nat → Prop} (h : CpJ te n0 wr L lv us Bk L.length) : TlO te wr (fun j => n0 ≤ j ∧ j < wr.heap.size) L lv := by
  have ho := h.own
  rw [List.take_length] at ho
  exact ⟨_, L, us, lv, Bk, h.len, ⟨ho.1, ho.2.imp id (fun ⟨g, c, cur, e, _, h2⟩ => ⟨g, c, cur, e, Nat.zero_le _, h2⟩)⟩, fun k hk => ⟨(ho.lt k hk).1, (ho.lt k hk).2⟩, fun i k hi hk => ⟨(h.blk i k hi hk).1, (h.blk i k hi hk).2.1⟩, fun i k hi hk => (h.blk i k hi hk).2.2, fun i j k hi hj => h.dis i j k hi hj, h.kid⟩
theorem st3_heap {W : World} {z : Nat} {t : TypeId} {v0 v1 v2 : Value} (h : W.heap[z]? = some (.cells #[v0, v1, v2] t (0, 0))) (u0 u1 u2 : Value) : (((W.setCell ⟨z, 0, none⟩ u0).setCell ⟨z, 1, none⟩ u1).setCell ⟨z, 2, none⟩ u2).heap[z]? = some (.cells #[u0, u1, u2] t (0, 0)) := by
  have := setBlock (setBlock (setBlock h 0 u0) 1 u1) 2 u2
  simpa using this
theorem st3_upd' (W : World) (z : Nat) (u0 u1 u2 : Value) : Upd (fun k => k = z) W (((W.setCell ⟨z, 0, none⟩ u0).setCell ⟨z, 1, none⟩ u1).setCell ⟨z, 2, none⟩ u2) :=
  (((Upd.refl (fun k => k = z) W).setCell (p := ⟨z, 0, none⟩) (.inl rfl) u0).setCell (p := ⟨z, 1, none⟩) (.inl rfl) u1).setCell (p := ⟨z, 2, none⟩) (.inl rfl) u2
set_option maxRecDepth 100000 in
set_option maxHeartbeats 2000000 in
theorem copied_x : ∀ (t : Tm) (v : Value) (S : Nat → Prop) (w : World), TmR S w t v → (∀ k, S k → k < w.heap.size) → t.size ≤ 100000 →
    Calls Tryz.prog 48 #[v] w fun e w' => ∃ r B, e = .returned (tV t r) ∧ TlO 24 w' B t.kids r ∧ (∀ j, B j → w.heap.size ≤ j ∧ j < w'.heap.size) ∧ Ext w w' := by
  refine Tm.ind (fun nm so L ih => ?_)
  intro v S w hT hS hsz
  obtain ⟨a, cap, rfl, hT⟩ := hT
  dsimp only [tV, Tm.name, Tm.sort, Tm.kids] at hT ⊢
  have HTL := Lib.hid hT
  have HIH := Lib.hid ih
  have HSS := Lib.hid hS
  have hszL : sizes L + 1 ≤ 100000 := by rw [size_eq] at hsz; simp only [Tm.kids] at hsz; omega
  have HSL := Lib.hid hszL
  have hlL : L.length ≤ 100000 := by have h1 := length_le_sizes L; omega
  have hx3 := (((Upd.refl (fun _ => False) w).alloc (.cells #[.string nm, .string so, .slice a L.length cap] 24)).alloc (.cells #[.string ⟨#[]⟩, .string ⟨#[]⟩, .slice none 0 0] 24)).alloc (.cells #[.string nm, .string so, .slice none 0 0] 24)
  have hb2 := allocOld (alloc_at (w.alloc (.cells #[.string nm, .string so, .slice a L.length cap] 24)) (.cells #[.string ⟨#[]⟩, .string ⟨#[]⟩, .slice none 0 0] 24) (n := w.heap.size + 1) (by simp)) (.cells #[.string nm, .string so, .slice none 0 0] 24)
  have hb3 := alloc_at ((w.alloc (.cells #[.string nm, .string so, .slice a L.length cap] 24)).alloc (.cells #[.string ⟨#[]⟩, .string ⟨#[]⟩, .slice none 0 0] 24)) (.cells #[.string nm, .string so, .slice none 0 0] 24) (n := w.heap.size + 1 + 1) (by simp)
  have hz0 : (((w.alloc (.cells #[.string nm, .string so, .slice a L.length cap] 24)).alloc (.cells #[.string ⟨#[]⟩, .string ⟨#[]⟩, .slice none 0 0] 24)).alloc (.cells #[.string nm, .string so, .slice none 0 0] 24)).heap.size = w.heap.size + 3 := by simp
  have HB2 := Lib.hid hb2
  have HB3 := Lib.hid hb3
  have HE0 := Lib.hid hx3
  have HZ0 := Lib.hid hz0
  clear ih hT hS hsz hszL
  clear hb2 hb3 hx3 hz0
  go_enter Tryz.func48, Tryz.ntmps48
  go_wp2_with fail
  generalize (((w.alloc (.cells #[.string nm, .string so, .slice a L.length cap] 24)).alloc (.cells #[.string ⟨#[]⟩, .string ⟨#[]⟩, .slice none 0 0] 24)).alloc (.cells #[.string nm, .string so, .slice none 0 0] 24)) = W0 at *
  obtain ⟨n3, hn3⟩ : ∃ n3, w.heap.size + 1 + 1 = n3 := ⟨_, rfl⟩
  rw [hn3] at HB3 ⊢
  have HN3 := Lib.hid hn3
  clear hn3
  have HJ0 : Hid (CpJ 24 (w.heap.size + 3) W0 L (.slice none 0 0) [] (fun _ _ => False) 0) := Lib.hid ⟨rfl, ⟨rfl, .inl ⟨rfl, rfl⟩⟩, fun i hi => absurd hi (Nat.not_lt_zero _), fun i j hi => absurd hi (Nat.not_lt_zero _), fun i i' j hi => absurd hi (Nat.not_lt_zero _)⟩
  have HSW0 : Hid (w.heap.size + 3 ≤ W0.heap.size) := Lib.hid (by rw [HZ0.out]; exact Nat.le_refl _)
  clear HZ0
  go_loopg [11] L.length (fun gk iv wr => ∃ (k : Nat) (lv : Value) (us : List Value) (Bk : Nat → Nat → Prop), iv = .int .i64 (k : Int) ∧ gk = L.length - k ∧ k ≤ L.length ∧ Hid (CpJ 24 (w.heap.size + 3) wr L lv us Bk k) ∧ Hid (wr.heap[w.heap.size + 1]? = some (.cells #[.string ⟨#[]⟩, .string ⟨#[]⟩, .slice none 0 0] 24 (0, 0))) ∧ Hid (wr.heap[n3]? = some (.cells #[.string nm, .string so, lv] 24 (0, 0))) ∧ Hid (Ext w wr) ∧ Hid (w.heap.size + 3 ≤ wr.heap.size))
  case atStart => exact ⟨0, _, _, _, rfl, rfl, Nat.zero_le _, HJ0, HB2, HB3, HE0, HSW0⟩
  case round =>
    clear HJ0 HB2 HB3 HE0 HSW0
    obtain ⟨k, lv, us, Bk, rfl, rfl, hk, HJ, HB2, HB3, HE, HSZ⟩ := hrel
    obtain ⟨la, lc, hlv⟩ := own_shape HJ.out.own
    subst hlv
    by_cases hlt : k < L.length
    · obtain ⟨g, off, hga, _, hat⟩ := (HTL.out.ext HE.out).at_ (by omega)
      subst hga
      obtain ⟨xa, xc, q0, q1, q2, hkid⟩ := hat k hlt
      rw [← Nat.add_assoc] at q1 q2
      have z0 : (0 : Int) ≤ (k : Int) := by omega
      have z1 : (k : Int) < (L.length : Int) := by omega
      have z2 : decide ((k : Int) < (L.length : Int)) = true := decide_eq_true z1
      have z2' : decide (k < L.length) = true := decide_eq_true hlt
      have HIX := Lib.hid (fun W (hW : Ext (wr.alloc (.cells #[.string (tg L k).name, .string (tg L k).sort, .slice xa (tg L k).kids.length xc] 24)) W) => HIH.out (tg L k) (tg_mem L k hlt) _ S W ⟨xa, xc, rfl, (hkid.ext ((Upd.refl (fun _ => False) wr).alloc _)).ext hW⟩ (fun j hj => Nat.lt_of_lt_of_le (HSS.out j hj) (Nat.le_trans HE.out.size (Nat.le_trans ((Upd.refl (fun _ => False) wr).alloc (.cells #[.string (tg L k).name, .string (tg L k).sort, .slice xa (tg L k).kids.length xc] 24)).size hW.size))) (by have h1 := HSL.out; have h2 := sizes_take L k hlt; have h3 := sizes_take_le L (k + 1); omega))
      dsimp only [tV] at HIX
      obtain ⟨x, hx⟩ : ∃ x, tg L k = x := ⟨_, rfl⟩
      have HX := Lib.hid hx
      rw [hx] at q0 q1 q2 HIX
      have hQ := (Upd.refl (fun _ => False) wr).alloc (.cells #[.string x.name, .string x.sort, .slice xa x.kids.length xc] 24)
      have hB5 := alloc0 wr (.cells #[.string x.name, .string x.sort, .slice xa x.kids.length xc] 24)
      have b0 := cellRow hB5 0 (.string x.name) rfl
      have b1 := cellRow hB5 1 (.string x.sort) rfl
      have b2 := cellRow hB5 2 (.slice xa x.kids.length xc) rfl
      have hB3q := allocOld HB3.out (.cells #[.string x.name, .string x.sort, .slice xa x.kids.length xc] 24)
      have c2 := cellRow hB3q 2 (.slice la k lc) rfl
      have HBQ := Lib.hid hB3q
      have HQ := Lib.hid hQ
      have HB2Q := Lib.hid (allocOld HB2.out (.cells #[.string x.name, .string x.sort, .slice xa x.kids.length xc] 24))
      have HOQ := Lib.hid (HJ.out.own.alloc (.cells #[.string x.name, .string x.sort, .slice xa x.kids.length xc] 24))
      have HRN : Hid (¬ (Value.slice la k lc).ownBlock = some n3) := Lib.hid (fun e => by have h1 := (HJ.out.own.lt n3 e).1; have := HN3.out; omega)
      have HK : Hid (k ≤ 100000) := Lib.hid (by omega)
      obtain ⟨iT, hi, hz0, hz1, hz2⟩ := info_parts infoT
      clear hat hkid hx hQ hB5 hB3q
      go_wp2_with fail
      generalize wr.alloc (.cells #[.string x.name, .string x.sort, .slice xa x.kids.length xc] 24) = wq at *
      have HWQ : Hid (Ext wq wq) := Lib.hid (Upd.refl _ _)
      have HSQ : Hid (w.heap.size + 3 ≤ wq.heap.size) := Lib.hid (Nat.le_trans HSZ.out HQ.out.size)
      clear q0 q1 q2
      go_region_law (first
  | (refine step_append_at _ (.tmp 16) (.tmp 19) 22 rfl (w.heap.size + 3) 24 iT (.agg #[.string ⟨#[]⟩, .string ⟨#[]⟩, .slice none 0 0]) 3 56 Tryz.underlying22 hi hz0 hz1 hz2 rfl (by decide) _ _ _ rfl HOW5.out _ 1 1 [.string x.name, .string x.sort, .slice ya x.kids.length yc] rfl rfl HNEW.out HONE.out HLM.out.1 HLM.out.2.1 HLM.out.2.2 ?_; intro v7 w7 hG7; obtain ⟨a7, c7, hv7⟩ := own_shape hG7.own; subst hv7; have hB7 := hG7.upd.heap (allocOld HB5.out (.cells #[.string x.name, .string x.sort, .slice ya x.kids.length yc] 24)) HRN.out; have f7 := fun i => frozenRow hB7 i; have c2 := cellRow hB7 2 (.slice la k lc) rfl; have HB7 := Lib.hid hB7; have HG7 := Lib.hid hG7; clear hG7 hB7)
  | (go_simp; refine (HIX.out wq.drew HWQ.out.drew).mono ?_; rintro e w5 ⟨r, Bx, rfl, hT5, hb5, hw5⟩; obtain ⟨ya, yc, hry⟩ := TlO.shape hT5; subst hry; have HW5 : Hid (Ext wq w5) := Lib.hid (((Upd.refl (fun _ => False) wq).drewN' 1).trans hw5); have HT5 := Lib.hid hT5; have HBX5 : Hid (∀ j, Bx j → wq.heap.size ≤ j ∧ j < w5.heap.size) := Lib.hid hb5; have HB5 := Lib.hid (HW5.out.heap HBQ.out (fun h => h)); have HOW5 : Hid ((w5.alloc (.cells #[.string x.name, .string x.sort, .slice ya x.kids.length yc] 24)).ownsRow (w.heap.size + 3) 24 3 (.slice la k lc) k (tCells (L.take k) us)) := Lib.hid ((own_kept HOQ.out HW5.out (fun _ _ h => h)).alloc _); have HNEW : Hid (∀ (j : Nat) (u : Value), [Value.string x.name, .string x.sort, .slice ya x.kids.length yc][j]? = some u → (w5.alloc (.cells #[.string x.name, .string x.sort, .slice ya x.kids.length yc] 24)).cell? ((⟨w5.heap.size, 0, none⟩ : Addr).add j) = some u) := Lib.hid (new3 w5 _ _ _ 24); have HONE : Hid (∀ u ∈ [Value.string x.name, .string x.sort, .slice ya x.kids.length yc], u.oneCell' = true) := Lib.hid (fun u hu => by simp at hu; rcases hu with h | h | h <;> (subst h; rfl)); have HLM : Hid (k + 1 ≤ maxLen ∧ (k + 1) * 56 ≤ 140737488355328 ∧ w.heap.size + 3 ≤ (w5.alloc (.cells #[.string x.name, .string x.sort, .slice ya x.kids.length yc] 24)).heap.size) := Lib.hid ⟨by unfold maxLen; have := HK.out; omega, by have := HK.out; omega, by have h1 := HW5.out.size; have h2 := HSQ.out; simp; omega⟩; have c5 := HW5.out.cell c2 (fun h => h); have c6 := ((Upd.refl (fun _ => False) w5).alloc (.cells #[.string x.name, .string x.sort, .slice ya x.kids.length yc] 24)).cell c5 (fun h => h); clear hT5 hb5 hw5))
      all_goals
        go_wp2_with fail
        have HS8 := Lib.hid ((Upd.refl (fun j => j = n3) w7).setCell (p := ⟨n3, 2, none⟩) (.inl rfl) (.slice a7 (k + 1) c7))
        have HU8 : Hid (Upd (fun j => (Value.slice la k lc).ownBlock = some j ∨ j = n3) wq (w7.setCell ⟨n3, 2, none⟩ (.slice a7 (k + 1) c7))) := Lib.hid (((((HW5.out.alloc (.cells #[.string x.name, .string x.sort, .slice ya x.kids.length yc] 24)).mono (fun _ _ x => x.elim)).trans (HG7.out.upd.mono (fun _ _ e => .inl e)))).trans (HS8.out.mono (fun _ _ e => .inr e)))
        have HJ8 := Lib.hid (HJ.out.grow hlt HX.out (by have := HN3.out; omega) HSZ.out HQ.out HW5.out HT5.out HBX5.out ((Upd.refl (fun _ => False) w5).alloc (.cells #[.string x.name, .string x.sort, .slice ya x.kids.length yc] 24)) HG7.out HS8.out)
        have HE8 : Hid (Ext w (w7.setCell ⟨n3, 2, none⟩ (.slice a7 (k + 1) c7))) := Lib.hid ((HE.out.trans HQ.out).trans' HU8.out (fun j hj e => by
          rcases e with e | e
          · have h1 := (HJ.out.own.lt j e).1; omega
          · have := HN3.out; omega))
        have HB28 := Lib.hid (HU8.out.heap HB2Q.out (fun e => by
          rcases e with e | e
          · have h1 := (HJ.out.own.lt _ e).1; omega
          · have := HN3.out; omega))
        have hb38 := setBlock HB7.out 2 (.slice a7 (k + 1) c7)
        have HB38 : Hid ((w7.setCell ⟨n3, 2, none⟩ (.slice a7 (k + 1) c7)).heap[n3]? = some (.cells #[.string nm, .string so, .slice a7 (k + 1) c7] 24 (0, 0))) := Lib.hid (by simpa using hb38)
        have HS9 : Hid (w.heap.size + 3 ≤ (w7.setCell ⟨n3, 2, none⟩ (.slice a7 (k + 1) c7)).heap.size) := Lib.hid (Nat.le_trans HSQ.out HU8.out.size)
        clear hb38 c2 f7
        go_roundg (L.length - (k + 1))
        case measure => omega
        case rel => exact ⟨k + 1, _, _, _, by go_num, rfl, by omega, HJ8, HB28, HB38, HE8, HS9⟩
    · obtain rfl : k = L.length := by omega
      have z2 : decide ((L.length : Int) < (L.length : Int)) = false := decide_eq_false (by omega)
      have c0 := cellRow HB3.out 0 (.string nm) rfl
      have c1 := cellRow HB3.out 1 (.string so) rfl
      have c2 := cellRow HB3.out 2 (.slice la L.length lc) rfl
      have f2 := fun i => frozenRow HB2.out i
      have d0 := cellRow HB2.out 0 (.string ⟨#[]⟩) rfl
      have d1 := cellRow HB2.out 1 (.string ⟨#[]⟩) rfl
      have d2 := cellRow HB2.out 2 (.slice none 0 0) rfl
      go_wp2_with fail
      have hr := st3_heap HB2.out (.string nm) (.string so) (.slice la L.length lc)
      have hu := st3_upd' wr (w.heap.size + 1) (.string nm) (.string so) (.slice la L.length lc)
      have e0 := cellRow hr 0 _ rfl
      have e1 := cellRow hr 1 _ rfl
      have e2 := cellRow hr 2 _ rfl
      refine bodyPost_ret (v := .agg #[.string nm, .string so, .slice la L.length lc]) (by simp [results, Tryz.results48, go_sem, e0, e1, e2]) rfl ⟨.slice la L.length lc, _, rfl, HJ.out.fin.kept hu (fun j hj e => by have h1 := hj.1; omega), fun j hj => ⟨by have h1 := hj.1; omega, Nat.lt_of_lt_of_le hj.2 hu.size⟩, HE.out.trans' hu (fun j hj e => by omega)⟩

end Go.Proofs.YtjjaknmnhhfjeaaGreatDoor

/- at. -/
namespace Go.Proofs.YtjjaknmnhhfjeaaGreatDoor
open Go.RowKit Go.Hw Go
set_option linter.unusedVariables false
set_option linter.unusedSimpArgs false

open Tm
def subI : Tm → List Int → Option Tm
  | t, [] => some t
  | t, i :: p => if i < 0 ∨ (t.kids.length : Int) ≤ i then none else subI (tg t.kids i.toNat) p
theorem subI_cons (t : Tm) (i : Int) (p : List Int) : subI t (i :: p) = if i < 0 ∨ (t.kids.length : Int) ≤ i then none else subI (tg t.kids i.toNat) p := by rw [subI]
theorem AdrP.snoc {w : World} {i : Nat} : ∀ {p : List Nat} {a a' a'' : Nat × Nat}, AdrP w p a a' → AdrP w [i] a' a'' → AdrP w (p ++ [i]) a a''
  | [], a, a', a'', h, h2 => by
    have h : a' = a := h
    rw [← h]; exact h2
  | j :: p, a, a', a'', h, h2 => by
    obtain ⟨g, off, n, c, h3, h4⟩ := h
    exact ⟨g, off, n, c, h3, AdrP.snoc h4 h2⟩
theorem subI_ok : ∀ {p : List Int} {t x : Tm}, subI t p = some x → okP t (p.map Int.toNat) ∧ tmAt t (p.map Int.toNat) = x
  | [], t, x, h => by
    injection h with h
    exact ⟨trivial, h⟩
  | i :: p, t, x, h => by
    rw [subI_cons] at h
    by_cases h1 : i < 0 ∨ (t.kids.length : Int) ≤ i
    · rw [if_pos h1] at h; cases h
    · rw [if_neg h1] at h
      obtain ⟨h2, h3⟩ := subI_ok h
      exact ⟨⟨by omega, h2⟩, h3⟩
def TmA (S : Nat → Prop) (w : World) (a : Nat × Nat) (t : Tm) : Prop := ∃ xa xc, w.cell? ⟨a.1, a.2, none⟩ = some (.string t.name) ∧ w.cell? ⟨a.1, a.2 + 1, none⟩ = some (.string t.sort) ∧ w.cell? ⟨a.1, a.2 + 2, none⟩ = some (.slice xa t.kids.length xc) ∧ TlR S w t.kids (.slice xa t.kids.length xc)
def AtP (S : Nat → Prop) (w : World) (t : Tm) (p : List Int) (a : Nat × Nat) (e : Ending) : Prop :=
  (subI t p = none ∧ e = .returned (.pointer none)) ∨ ∃ x a', subI t p = some x ∧ e = .returned (.pointer (some ⟨a'.1, a'.2, none⟩)) ∧ AdrP w (p.map Int.toNat) a a' ∧ TmA S w a' x
theorem AtP.no {S : Nat → Prop} {w : World} {t : Tm} {p : List Int} {a : Nat × Nat} (h : subI t p = none) : AtP S w t p a (.returned (.pointer none)) := .inl ⟨h, rfl⟩
theorem AtP.yes {S : Nat → Prop} {w : World} {t x : Tm} {p : List Int} {a a' : Nat × Nat} (h : subI t p = some x) (h2 : AdrP w (p.map Int.toNat) a a') (h3 : TmA S w a' x) : AtP S w t p a (.returned (.pointer (some ⟨a'.1, a'.2, none⟩))) := .inr ⟨x, a', h, rfl, h2, h3⟩
set_option maxRecDepth 100000 in
set_option maxHeartbeats 2000000 in
theorem at_x (t : Tm) (p : List Int) (pv : Value) (a : Nat × Nat) (S T : Nat → Prop) (w : World) (hA : TmA S w a t) (hP : SlR T w 1 pv p.length (p.map (Value.int .i64))) (hl : p.length ≤ 1000000) :
    Calls Tryz.prog 47 #[.pointer (some ⟨a.1, a.2, none⟩), pv] w fun e w' => AtP S w t p a e ∧ w = w' := by
  obtain ⟨pa, pc, rfl⟩ := SlR.shape hP
  have HP := Lib.hid hP
  have HA := Lib.hid hA
  obtain ⟨b, o⟩ := a
  clear hP hA
  go_enter Tryz.func47, Tryz.ntmps47
  go_wp2_with fail
  go_loopg [0, 9] p.length (fun gk qv iv wr => ∃ (k : Nat) (c : Nat × Nat) (x : Tm), qv = .pointer (some ⟨c.1, c.2, none⟩) ∧ iv = .int .i64 (k : Int) ∧ gk = p.length - k ∧ k ≤ p.length ∧ Hid (subI t p = subI x (p.drop k)) ∧ Hid (AdrP w ((p.take k).map Int.toNat) (b, o) c) ∧ Hid (TmA S w c x) ∧ w = wr)
  case atStart => exact ⟨0, (b, o), t, rfl, rfl, rfl, Nat.zero_le _, Lib.hid rfl, Lib.hid rfl, HA, rfl⟩
  case round =>
    clear HA
    obtain ⟨k, ⟨cb, co⟩, x, rfl, rfl, rfl, hk, HS, HD, HX, rfl⟩ := hrel
    by_cases hlt : k < p.length
    · obtain ⟨g, off, hga, _, hat⟩ := SlR.one_at (d := (0 : Int)) HP.out (by omega)
      subst hga
      have q0 := hat k hlt
      have z0 : (0 : Int) ≤ (k : Int) := by omega
      have z1 : (k : Int) < (p.length : Int) := by omega
      have z2 : decide ((k : Int) < (p.length : Int)) = true := decide_eq_true z1
      have z2' : decide (k < p.length) = true := decide_eq_true hlt
      have hd : p.drop k = p.getD k 0 :: p.drop (k + 1) := by
        rw [List.drop_eq_getElem_cons hlt, List.getD_eq_getElem?_getD, List.getElem?_eq_getElem hlt]; rfl
      have htk : p.take (k + 1) = p.take k ++ [p.getD k 0] := by
        rw [List.take_add_one, List.getD_eq_getElem?_getD, List.getElem?_eq_getElem hlt]; rfl
      have hs := HS.out
      rw [hd, subI_cons] at hs
      have HS2 := Lib.hid hs
      have HTK := Lib.hid htk
      obtain ⟨i, hi⟩ : ∃ i, p.getD k 0 = i := ⟨_, rfl⟩
      rw [hi] at q0 HS2 HTK
      clear hat hd htk hs hi HS
      obtain ⟨xa, xc, x0, x1, x2, hx⟩ := HX.out
      dsimp only at x0 x1 x2
      by_cases hi0 : i < 0
      · have HV : Hid (subI t p = none) := Lib.hid (by rw [HS2.out, if_pos (.inl hi0)])
        have y1 : decide (i < 0) = true := decide_eq_true hi0
        clear x0 x1 x2 hx
        go_wp2_with fail
        all_goals go_ret
        all_goals exact ⟨AtP.no HV.out, rfl⟩
      have y1 : decide (i < 0) = false := decide_eq_false hi0
      by_cases hi1 : (x.kids.length : Int) ≤ i
      · have HV : Hid (subI t p = none) := Lib.hid (by rw [HS2.out, if_pos (.inr hi1)])
        have y2 : decide ((x.kids.length : Int) ≤ i) = true := decide_eq_true hi1
        clear x0 x1 hx
        go_wp2_with fail
        all_goals go_ret
        all_goals exact ⟨AtP.no HV.out, rfl⟩
      have y2 : decide ((x.kids.length : Int) ≤ i) = false := decide_eq_false hi1
      have HV : Hid (subI t p = subI (tg x.kids i.toNat) (p.drop (k + 1))) := Lib.hid (by rw [HS2.out, if_neg (by omega)])
      obtain ⟨j, rfl⟩ : ∃ j : Nat, i = (j : Int) := ⟨i.toNat, by omega⟩
      have hjn : ((j : Int)).toNat = j := by omega
      rw [hjn] at HV
      have hj : j < x.kids.length := by omega
      obtain ⟨g2, off2, hga2, _, hat2⟩ := hx.at_ (by omega)
      subst hga2
      obtain ⟨ya, yc, r0, r1, r2, hy⟩ := hat2 j hj
      have HD2 : Hid (AdrP w ((p.take (k + 1)).map Int.toNat) (b, o) (g2, off2 + j * 3)) := Lib.hid (by
        rw [HTK.out, List.map_append]
        refine AdrP.snoc HD.out ⟨g2, off2, x.kids.length, xc, x2, ?_⟩
        rw [hjn]
        rfl)
      have HX2 : Hid (TmA S w (g2, off2 + j * 3) (tg x.kids j)) := Lib.hid ⟨ya, yc, r0, by rw [Nat.add_assoc]; exact r1, by rw [Nat.add_assoc]; exact r2, hy⟩
      have u0 : (0 : Int) ≤ (j : Int) := by omega
      have u1 : (j : Int) < (x.kids.length : Int) := by omega
      clear x0 x1 hx hat2 r0 r1 r2 hy HS2 HTK HD HX hi0 hi1 hjn
      go_wp2_with fail
      go_roundg (p.length - (k + 1))
      case measure => omega
      case rel => exact ⟨k + 1, (g2, off2 + j * 3), tg x.kids j, rfl, by go_num, rfl, by omega, HV, HD2, HX2, rfl⟩
    · obtain rfl : k = p.length := by omega
      have z2 : decide ((p.length : Int) < (p.length : Int)) = false := decide_eq_false (by omega)
      have HV : Hid (subI t p = some x) := Lib.hid (by rw [HS.out, List.drop_length]; rfl)
      have hdd := HD.out
      rw [List.take_length] at hdd
      have HDD := Lib.hid hdd
      clear hdd
      go_wp2_with fail
      go_ret
      exact ⟨AtP.yes (a' := (cb, co)) HV.out HDD.out HX.out, rfl⟩

end Go.Proofs.YtjjaknmnhhfjeaaGreatDoor

/- At. -/
namespace Go.Proofs.YtjjaknmnhhfjeaaGreatDoor
open Go.RowKit Go.Hw Go
set_option linter.unusedVariables false
set_option linter.unusedSimpArgs false

open Tm
abbrev nulT : Tm := .mk nul nul []
def atF (t : Tm) (p : List Int) : Tm × Int := if wf nmB t = false then (nulT, 1) else match subI t p with
  | none => (nulT, 2)
  | some x => (x, 0)
theorem tmAt_size : ∀ (p : List Nat) (t : Tm), okP t p → (tmAt t p).size ≤ t.size
  | [], t, _ => Nat.le_refl _
  | i :: p, t, h => by
    have h1 := tmAt_size p _ h.2
    have h2 := size_kid (tg_mem t.kids i h.1)
    show (tmAt (tg t.kids i) p).size ≤ _
    omega
set_option maxRecDepth 100000 in
set_option maxHeartbeats 2000000 in
theorem At_x (t : Tm) (p : List Int) (tv pv : Value) (S T : Nat → Prop) (w : World) (hT : TmR S w t tv) (hS : ∀ k, S k → k < w.heap.size) (hP : SlR T w 1 pv p.length (p.map (Value.int .i64))) (htab : AscT w) (hsz : t.size ≤ 100000) (hl : p.length ≤ 1000000) :
    Calls Tryz.prog 11 #[tv, pv] w fun e w' => ∃ r, e = .returned (.tuple #[tV (atF t p).1 r, .int .i64 (atF t p).2]) ∧ TlR (fun k => w.heap.size ≤ k ∧ k < w'.heap.size) w' (atF t p).1.kids r ∧ Ext w w' := by
  obtain ⟨pa, pc, rfl⟩ := SlR.shape hP
  have HP := Lib.hid hP
  obtain ⟨a, cap, rfl, hT⟩ := hT
  have HT := Lib.hid hT
  have HE2 := Lib.hid (((Upd.refl (fun _ => False) w).alloc (.cells #[.string t.name, .string t.sort, .slice a t.kids.length cap] 24)).alloc (.cells #[.string ⟨#[]⟩, .string ⟨#[]⟩, .slice none 0 0] 24))
  have HB1 := Lib.hid (allocOld (alloc0 w (.cells #[.string t.name, .string t.sort, .slice a t.kids.length cap] 24)) (.cells #[.string ⟨#[]⟩, .string ⟨#[]⟩, .slice none 0 0] 24))
  have HB2 := Lib.hid (alloc_at (w.alloc (.cells #[.string t.name, .string t.sort, .slice a t.kids.length cap] 24)) (.cells #[.string ⟨#[]⟩, .string ⟨#[]⟩, .slice none 0 0] 24) (n := w.heap.size + 1) (by simp))
  have hz2 : ((w.alloc (.cells #[.string t.name, .string t.sort, .slice a t.kids.length cap] 24)).alloc (.cells #[.string ⟨#[]⟩, .string ⟨#[]⟩, .slice none 0 0] 24)).heap.size = w.heap.size + 2 := by simp
  have HZ2 := Lib.hid hz2
  have HWF := Lib.hid (fun W (hW : Ext w W) => wellFormed_x t _ W (asc_ext htab hW) ⟨a, cap, rfl, (hT.ext hW).weaken (fun k hk => Nat.lt_of_lt_of_le (hS k hk) hW.size)⟩ (by omega))
  have HSS := Lib.hid hS
  have HF0 : Hid (wf nmB t = false → atF t p = (nulT, 1)) := Lib.hid (fun h => by unfold atF; rw [if_pos h])
  have HF1 : Hid (wf nmB t = true → subI t p = none → atF t p = (nulT, 2)) := Lib.hid (fun h h2 => by unfold atF; rw [if_neg (by rw [h]; simp), h2])
  have HF2 : Hid (wf nmB t = true → ∀ x, subI t p = some x → atF t p = (x, 0)) := Lib.hid (fun h x h2 => by unfold atF; rw [if_neg (by rw [h]; simp), h2])
  obtain ⟨F, hF⟩ : ∃ F, atF t p = F := ⟨_, rfl⟩
  rw [hF] at HF0 HF1 HF2 ⊢
  dsimp only [tV] at HWF ⊢
  obtain ⟨WB, hWB⟩ : ∃ b, wf nmB t = b := ⟨_, rfl⟩
  rw [hWB] at HWF HF0 HF1 HF2
  clear hP hT hS htab hF hWB hz2
  have k0 := cellRow HB1.out 0 (.string t.name) rfl
  have k1 := cellRow HB1.out 1 (.string t.sort) rfl
  have k2 := cellRow HB1.out 2 (.slice a t.kids.length cap) rfl
  go_enter Tryz.func11, Tryz.ntmps11
  go_wp2_with fail
  refine (HWF.out _ HE2.out).mono ?_
  rintro e w4 ⟨rfl, hw4⟩
  have H4 : Hid (Ext w w4) := Lib.hid (HE2.out.trans hw4)
  have HB14 := Lib.hid (hw4.heap HB1.out (fun h => h))
  have HB24 := Lib.hid (hw4.heap HB2.out (fun h => h))
  have HZ4 : Hid (w.heap.size + 2 ≤ w4.heap.size) := Lib.hid (by rw [← HZ2.out]; exact hw4.size)
  clear hw4 k0 k1 k2 HWF HB1 HB2 HE2
  cases WB
  · have HV := Lib.hid (HF0.out (by simp))
    have f2 := fun i => frozenRow HB24.out i
    have d0 := cellRow HB24.out 0 (.string ⟨#[]⟩) rfl
    have d1 := cellRow HB24.out 1 (.string ⟨#[]⟩) rfl
    have d2 := cellRow HB24.out 2 (.slice none 0 0) rfl
    go_wp2_with fail
    have hr := st3_heap HB24.out (.string ⟨#[]⟩) (.string ⟨#[]⟩) (.slice none 0 0)
    have hu := st3_upd' w4 (w.heap.size + 1) (.string ⟨#[]⟩) (.string ⟨#[]⟩) (.slice none 0 0)
    have e0 := cellRow hr 0 (.string ⟨#[]⟩) rfl
    have e1 := cellRow hr 1 (.string ⟨#[]⟩) rfl
    have e2 := cellRow hr 2 (.slice none 0 0) rfl
    refine bodyPost_ret (v := .tuple #[.agg #[.string ⟨#[]⟩, .string ⟨#[]⟩, .slice none 0 0], .int .i64 1]) (by simp [results, Tryz.results11, go_sem, e0, e1, e2]) rfl ⟨.slice none 0 0, by rw [HV.out]; rfl, by rw [HV.out]; exact TlR.nil _ _, H4.out.trans' hu (fun j hj e => by omega)⟩
  have HAT := Lib.hid (at_x t p (.slice pa p.length pc) (w.heap.size, 0) S T w4 ⟨a, cap, cellRow HB14.out 0 _ rfl, cellRow HB14.out 1 _ rfl, cellRow HB14.out 2 _ rfl, HT.out.ext H4.out⟩ (SlR.kept HP.out H4.out (fun _ _ h => h)) hl)
  go_wp2_with fail
  refine HAT.out.mono ?_
  rintro e w5 ⟨hat, rfl⟩
  rcases hat with ⟨hs, rfl⟩ | ⟨x, a', hs, rfl, _, xa, xc, x0, x1, x2, hx⟩
  · have HV := Lib.hid (HF1.out (by simp) hs)
    have f2 := fun i => frozenRow HB24.out i
    have d0 := cellRow HB24.out 0 (.string ⟨#[]⟩) rfl
    have d1 := cellRow HB24.out 1 (.string ⟨#[]⟩) rfl
    have d2 := cellRow HB24.out 2 (.slice none 0 0) rfl
    go_wp2_with fail
    have hr := st3_heap HB24.out (.string ⟨#[]⟩) (.string ⟨#[]⟩) (.slice none 0 0)
    have hu := st3_upd' w4 (w.heap.size + 1) (.string ⟨#[]⟩) (.string ⟨#[]⟩) (.slice none 0 0)
    have e0 := cellRow hr 0 (.string ⟨#[]⟩) rfl
    have e1 := cellRow hr 1 (.string ⟨#[]⟩) rfl
    have e2 := cellRow hr 2 (.slice none 0 0) rfl
    refine bodyPost_ret (v := .tuple #[.agg #[.string ⟨#[]⟩, .string ⟨#[]⟩, .slice none 0 0], .int .i64 2]) (by simp [results, Tryz.results11, go_sem, e0, e1, e2]) rfl ⟨.slice none 0 0, by rw [HV.out]; rfl, by rw [HV.out]; exact TlR.nil _ _, H4.out.trans' hu (fun j hj e => by omega)⟩
  · have HV := Lib.hid (HF2.out (by simp) x hs)
    have hso := subI_ok hs
    have hxs : x.size ≤ 100000 := by
      have h1 := tmAt_size _ t hso.1
      rw [hso.2] at h1
      omega
    have HC := Lib.hid (copied_x x _ S w4 ⟨xa, xc, rfl, hx⟩ (fun k hk => Nat.lt_of_lt_of_le (HSS.out k hk) H4.out.size) hxs)
    dsimp only [tV] at HC
    obtain ⟨ab, ao⟩ := a'
    dsimp only at x0 x1 x2
    clear hs hso hxs hx HF0 HF1 HF2 HAT
    go_wp2_with fail
    refine HC.out.mono ?_
    rintro e w6 ⟨r, B, rfl, hO6, hB6, hw6⟩
    have H6 := Lib.hid (H4.out.trans hw6)
    have HB26 := Lib.hid (hw6.heap HB24.out (fun h => h))
    have HO6 := Lib.hid hO6
    have HBB : Hid (∀ j, B j → w.heap.size + 2 ≤ j ∧ j < w6.heap.size) := Lib.hid (fun j hj => ⟨Nat.le_trans HZ4.out (hB6 j hj).1, (hB6 j hj).2⟩)
    obtain ⟨ra, rc, hrv⟩ := TlO.shape hO6
    subst hrv
    clear hO6 hB6 hw6 x0 x1 x2 HC
    have f2 := fun i => frozenRow HB26.out i
    have d0 := cellRow HB26.out 0 (.string ⟨#[]⟩) rfl
    have d1 := cellRow HB26.out 1 (.string ⟨#[]⟩) rfl
    have d2 := cellRow HB26.out 2 (.slice none 0 0) rfl
    go_wp2_with fail
    have hr := st3_heap HB26.out (.string x.name) (.string x.sort) (.slice ra x.kids.length rc)
    have hu := st3_upd' w6 (w.heap.size + 1) (.string x.name) (.string x.sort) (.slice ra x.kids.length rc)
    have e0 := cellRow hr 0 (.string x.name) rfl
    have e1 := cellRow hr 1 (.string x.sort) rfl
    have e2 := cellRow hr 2 (.slice ra x.kids.length rc) rfl
    refine bodyPost_ret (v := .tuple #[.agg #[.string x.name, .string x.sort, .slice ra x.kids.length rc], .int .i64 0]) (by simp [results, Tryz.results11, go_sem, e0, e1, e2]) rfl ⟨.slice ra x.kids.length rc, by rw [HV.out], ?_, H6.out.trans' hu (fun j hj e => by omega)⟩
    rw [HV.out]
    exact ((HO6.out.kept hu (fun j hj e => by have := (HBB.out j hj).1; omega)).read).weaken (fun j hj => ⟨by have := (HBB.out j hj).1; omega, Nat.lt_of_lt_of_le (HBB.out j hj).2 hu.size⟩)

end Go.Proofs.YtjjaknmnhhfjeaaGreatDoor
