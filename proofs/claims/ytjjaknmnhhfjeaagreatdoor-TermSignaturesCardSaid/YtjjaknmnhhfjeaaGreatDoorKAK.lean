/- The texts I9 I10 I11 I12 I13 I14 I15 I16, one behind the other. -/
import Derived.Test.YtjjaknmnhhfjeaaGreatDoorKAJ
import Derived.Test.YtjjaknmnhhfjeaaGreatDoorKAC
import Derived.BigQuiet
import Derived.Test.YtjjaknmnhhfjeaaGreatDoorKAD
import Derived.Test.YtjjaknmnhhfjeaaGreatDoorKAE
/- add of the reference. -/
namespace Go.Proofs.YtjjaknmnhhfjeaaGreatDoor
open Go.RowKit Go.Hw Go
set_option linter.unusedVariables false
set_option linter.unusedSimpArgs false

open Tm
end Go.Proofs.YtjjaknmnhhfjeaaGreatDoor

/- vars of the reference. -/
namespace Go.Proofs.YtjjaknmnhhfjeaaGreatDoor
open Go.RowKit Go.Hw Go
set_option linter.unusedVariables false
set_option linter.unusedSimpArgs false

open Tm
def VL (t : Tm) : Prop := ∀ x ∈ sbts t, x.sort ≠ nul → x.kids = []
theorem VL.kid {t x : Tm} (h : VL t) (hx : x ∈ t.kids) : VL x := fun y hy => h y (mem_sbts_kid hx hy)
theorem tk_snoc (L : List Tm) (k : Nat) (h : k < L.length) : L.take (k + 1) = L.take k ++ [tg L k] := by
  rw [List.take_add_one]
  have : L[k]?.toList = [tg L k] := by unfold tg; rw [List.getD_eq_getElem?_getD, List.getElem?_eq_getElem h]; rfl
  rw [this]
theorem tg_mem (L : List Tm) (k : Nat) (h : k < L.length) : tg L k ∈ L := by
  unfold tg; rw [List.getD_eq_getElem?_getD, List.getElem?_eq_getElem h]; exact List.getElem_mem h
end Go.Proofs.YtjjaknmnhhfjeaaGreatDoor

/- Names of the reference of the path order. -/
namespace Go.Proofs.YtjjaknmnhhfjeaaGreatDoor
open Go.RowKit Go.Hw Go
set_option linter.unusedVariables false
set_option linter.unusedSimpArgs false

open Tm
abbrev StR (S : Nat → Prop) (w : World) (v : Value) (l : List By) : Prop := SlR S w 1 v l.length (l.map Value.string)
abbrev bg (l : List By) (i : Nat) : By := l.getD i nul
theorem bg_at (l : List By) (i : Nat) (h : i < l.length) : bg l i = l[i] := by unfold bg; rw [List.getD_eq_getElem?_getD, List.getElem?_eq_getElem h]; rfl
theorem StR.ext {S : Nat → Prop} {w w' : World} {v : Value} {l : List By} (h : StR S w v l) (hu : Ext w w') : StR S w' v l := SlR.kept h hu (fun _ _ h => h)
theorem StR.at_ {S : Nat → Prop} {w : World} {a : Option Addr} {n cap : Nat} {l : List By} (h : StR S w (.slice a n cap) l) (hl : 0 < l.length) :
    ∃ g off, a = some ⟨g, off, none⟩ ∧ S g ∧ ∀ i, i < l.length → w.cell? ⟨g, off + i, none⟩ = some (.string (bg l i)) := by
  obtain ⟨g, off, c, e, _, hS, hj⟩ := SlR.pos h hl
  injection e with e1 e2 e3
  refine ⟨g, off, e1, hS, fun i hi => ?_⟩
  rw [hj i (by omega), bg_at l i hi, List.getElem?_map, List.getElem?_eq_getElem hi]
  rfl
theorem StR.to {S : Nat → Prop} {w : World} {a : Option Addr} {n cap : Nat} {l : List By} (h : StR S w (.slice a n cap) l) {k : Nat} (hk : k ≤ l.length) : StR S w (.slice a k cap) (l.take k) := by
  have h1 := SlR.to h rfl k hk
  unfold StR
  rw [Nat.mul_one, ← List.map_take] at h1
  rw [List.length_take, Nat.min_eq_left hk]
  exact h1
theorem str_ne {a b : By} (h : a ≠ b) : (a.toList == b.toList) = false := beq_eq_false_iff_ne.2 (fun e => h (ba_list (by rw [Lib.toList_data, Lib.toList_data] at e; exact e)))
theorem str_dec (a b : By) : (a.toList == b.toList) = decide (a = b) := by
  by_cases h : a = b
  · rw [decide_eq_true h, h]; simp
  · rw [decide_eq_false h, str_ne h]
def ixI (l : List By) (s : By) : Int := if s ∈ l then (ixF l s : Int) else -1
theorem ixI_nn (l : List By) (s : By) : (decide ((0 : Int) ≤ ixI l s)) = decide (s ∈ l) := by
  unfold ixI
  by_cases h : s ∈ l
  · rw [if_pos h, decide_eq_true h, decide_eq_true (by omega)]
  · rw [if_neg h, decide_eq_false h]; rfl
theorem ixI_neg (l : List By) (s : By) : (decide (ixI l s < (0 : Int))) = !decide (s ∈ l) := by
  unfold ixI
  by_cases h : s ∈ l
  · rw [if_pos h, decide_eq_true h, decide_eq_false (by omega)]; rfl
  · rw [if_neg h, decide_eq_false h]; rfl
end Go.Proofs.YtjjaknmnhhfjeaaGreatDoor

/- Formed of the reference. -/
namespace Go.Proofs.YtjjaknmnhhfjeaaGreatDoor
open Go.RowKit Go.Hw Go
set_option linter.unusedVariables false
set_option linter.unusedSimpArgs false

open Tm
theorem wf_formed {t : Tm} (h : wf nmB t = true) : formed nmB t = true := by
  unfold wf at h
  rw [Bool.and_eq_true] at h
  exact h.1
theorem formed_nd {t : Tm} (h : formed nmB t = true) : t.size ≤ 1000 ∧ ∀ x ∈ sbts t, nmB x.name = true ∧ x.kids.length ≤ 6 ∧ (x.sort = nul ∨ nmB x.sort = true ∧ x.kids = []) := by
  obtain ⟨h1, h2⟩ := (formed_iff nmB t).1 h
  refine ⟨h1, fun x hx => ?_⟩
  have hx1 : x ∈ (nodesD 1 t).map (·.1) := by rw [nodesD_fst t 1 0]; exact hx
  obtain ⟨p, hp, rfl⟩ := List.mem_map.1 hx1
  have h3 := h2 p hp
  unfold okN at h3
  simp only [Bool.and_eq_true, Bool.or_eq_true, decide_eq_true_eq] at h3
  refine ⟨h3.2.1, h3.2.2.1, ?_⟩
  rcases h3.2.2.2 with h | h
  · exact .inl h
  · exact .inr ⟨h.1, List.eq_nil_of_length_eq_zero h.2⟩
theorem formed_VL {t : Tm} (h : formed nmB t = true) : VL t := fun x hx hs => by
  rcases ((formed_nd h).2 x hx).2.2 with e | e
  · exact absurd e hs
  · exact e.2
theorem infoS : (Tryz.prog.info? 9).map (fun i => (i.zero, i.size, i.bytes)) = some (some (.string ⟨#[]⟩), 1, 16) := by kernel_rfl
end Go.Proofs.YtjjaknmnhhfjeaaGreatDoor

/- Ops of the reference. -/
namespace Go.Proofs.YtjjaknmnhhfjeaaGreatDoor
open Go.RowKit Go.Hw Go
set_option linter.unusedVariables false
set_option linter.unusedSimpArgs false

open Tm
end Go.Proofs.YtjjaknmnhhfjeaaGreatDoor

/- Knows, occurs of the reference. -/
namespace Go.Proofs.YtjjaknmnhhfjeaaGreatDoor
open Go.RowKit Go.Hw Go
set_option linter.unusedVariables false
set_option linter.unusedSimpArgs false

open Tm
end Go.Proofs.YtjjaknmnhhfjeaaGreatDoor

/- cell of the reference. -/
namespace Go.Proofs.YtjjaknmnhhfjeaaGreatDoor
open Go.RowKit Go.Hw Go
set_option linter.unusedVariables false
set_option linter.unusedSimpArgs false

open Tm
end Go.Proofs.YtjjaknmnhhfjeaaGreatDoor

/- Subterms gathered. -/
namespace Go.Proofs.YtjjaknmnhhfjeaaGreatDoor
open Go.RowKit Go.Hw Go
set_option linter.unusedVariables false
set_option linter.unusedSimpArgs false

open Tm
structure SubR (R B T : Nat → Prop) (base : Nat) (w : World) (lv kv : Value) (N : List Nt) : Prop where
  rows : ∃ (us ks : List Value) (G : Nat → Prop), us.length = N.length ∧ ks.length = N.length ∧ w.ownsRow base 24 3 lv N.length (tCells (N.map (·.1)) us) ∧ w.ownsRow base 25 1 kv N.length ks ∧
    (∀ i, i < N.length → TlR T w (ng N i).1.kids (ug us i)) ∧ (∀ i, i < N.length → SlR G w 1 (ug ks i) (ng N i).2.length ((ng N i).2.map natV)) ∧ ∀ k, G k → base ≤ k ∧ k < w.heap.size ∧ ¬ B k ∧ ¬ R k
  num : Num N
  blkL : ∀ k, lv.ownBlock = some k → B k
  blkK : ∀ k, kv.ownBlock = some k → B k
  lt : ∀ k, B k → base ≤ k ∧ k < w.heap.size ∧ ¬ R k
  tb : ∀ k, T k → k < base
section
variable {R R' B T F : Nat → Prop} {base : Nat} {w w' : World} {lv kv : Value} {N : List Nt}
theorem SubR.upd (h : SubR R B T base w lv kv N) (hu : Upd F w w') (hF : ∀ k, F k → R k ∧ base ≤ k) : SubR R B T base w' lv kv N := by
  obtain ⟨us, ks, G, h1, h2, h3, h4, h5, h6, h7⟩ := h.rows
  refine ⟨⟨us, ks, G, h1, h2, own_kept h3 hu (fun k hk hf => (h.lt k (h.blkL k hk)).2.2 (hF k hf).1), own_kept h4 hu (fun k hk hf => (h.lt k (h.blkK k hk)).2.2 (hF k hf).1), fun i hi => (h5 i hi).kept hu (fun k hk hf => by have := h.tb k hk; have := (hF k hf).2; omega), fun i hi => (h6 i hi).kept hu (fun k hk hf => (h7 k hk).2.2.2 (hF k hf).1), fun k hk => ⟨(h7 k hk).1, Nat.lt_of_lt_of_le (h7 k hk).2.1 hu.size, (h7 k hk).2.2⟩⟩, h.num, h.blkL, h.blkK, fun k hk => ⟨(h.lt k hk).1, Nat.lt_of_lt_of_le (h.lt k hk).2.1 hu.size, (h.lt k hk).2.2⟩, h.tb⟩
theorem SubR.ext (h : SubR R B T base w lv kv N) (hu : Ext w w') : SubR R B T base w' lv kv N := h.upd hu (fun _ hf => hf.elim)
theorem SubR.reserve (h : SubR R B T base w lv kv N) : SubR (fun k => R k ∨ w.heap.size ≤ k) B T base w lv kv N := by
  obtain ⟨us, ks, G, h1, h2, h3, h4, h5, h6, h7⟩ := h.rows
  refine ⟨⟨us, ks, G, h1, h2, h3, h4, h5, h6, fun k hk => ⟨(h7 k hk).1, (h7 k hk).2.1, (h7 k hk).2.2.1, fun hr => ?_⟩⟩, h.num, h.blkL, h.blkK, fun k hk => ⟨(h.lt k hk).1, (h.lt k hk).2.1, fun hr => ?_⟩, h.tb⟩
  · rcases hr with hr | hr
    · exact (h7 k hk).2.2.2 hr
    · have := (h7 k hk).2.1; omega
  · rcases hr with hr | hr
    · exact (h.lt k hk).2.2 hr
    · have := (h.lt k hk).2.1; omega
theorem SubR.weaken (h : SubR R B T base w lv kv N) (hr : ∀ k, R' k → R k) : SubR R' B T base w lv kv N := by
  obtain ⟨us, ks, G, h1, h2, h3, h4, h5, h6, h7⟩ := h.rows
  exact ⟨⟨us, ks, G, h1, h2, h3, h4, h5, h6, fun k hk => ⟨(h7 k hk).1, (h7 k hk).2.1, (h7 k hk).2.2.1, fun hx => (h7 k hk).2.2.2 (hr k hx)⟩⟩, h.num, h.blkL, h.blkK, fun k hk => ⟨(h.lt k hk).1, (h.lt k hk).2.1, fun hx => (h.lt k hk).2.2 (hr k hx)⟩, h.tb⟩
theorem SubR.shape (h : SubR R B T base w lv kv N) : ∃ a c a' c', lv = .slice a N.length c ∧ kv = .slice a' N.length c' := by
  obtain ⟨us, ks, G, h1, h2, h3, h4, _⟩ := h.rows
  obtain ⟨a, c, e⟩ := own_shape h3
  obtain ⟨a', c', e'⟩ := own_shape h4
  exact ⟨a, c, a', c', e, e'⟩
theorem SubR.read (h : SubR R B T base w lv kv N) : TlR (fun k => T k ∨ base ≤ k ∧ ¬ R k) w (N.map (·.1)) lv ∧ LlR natV (fun k => T k ∨ base ≤ k ∧ ¬ R k) w kv (N.map (·.2)) := by
  obtain ⟨us, ks, G, h1, h2, h3, h4, h5, h6, h7⟩ := h.rows
  refine ⟨.mk _ us lv (by simp [h1]) (by rw [List.length_map]; exact (SlR.of_own h3).weaken (fun k hk => .inr ⟨(h.lt k (h.blkL k hk)).1, (h.lt k (h.blkL k hk)).2.2⟩)) (fun i hi => ?_), ⟨ks, by simp [h2], by rw [List.length_map]; exact (SlR.of_own h4).weaken (fun k hk => .inr ⟨(h.lt k (h.blkK k hk)).1, (h.lt k (h.blkK k hk)).2.2⟩), fun i hi => ?_⟩⟩
  · rw [List.length_map] at hi
    rw [ng_map1 N i hi]
    exact (h5 i hi).weaken (fun k hk => .inl hk)
  · rw [List.length_map] at hi
    rw [ng_map2 N i hi]
    exact (h6 i hi).weaken (fun k hk => .inr ⟨(h7 k hk).1, (h7 k hk).2.2.2⟩)
theorem SubR.nil (R T : Nat → Prop) (base : Nat) (w : World) (hT : ∀ k, T k → k < base) : SubR R (fun _ => False) T base w (.slice none 0 0) (.slice none 0 0) [] :=
  ⟨⟨[], [], fun _ => False, rfl, rfl, ⟨rfl, .inl ⟨rfl, rfl⟩⟩, ⟨rfl, .inl ⟨rfl, rfl⟩⟩, fun i hi => by simp at hi, fun i hi => by simp at hi, fun k hk => hk.elim⟩, Num.nil, fun k hk => by simp [Value.ownBlock] at hk, fun k hk => by simp [Value.ownBlock] at hk, fun k hk => hk.elim, hT⟩
theorem ug_left {us : List Value} (x : Value) {i : Nat} (h : i < us.length) : ug (us ++ [x]) i = ug us i := by
  unfold ug
  rw [List.getD_eq_getElem?_getD, List.getD_eq_getElem?_getD, List.getElem?_append_left h]
theorem ug_last (us : List Value) (x : Value) : ug (us ++ [x]) us.length = x := by
  unfold ug
  rw [List.getD_eq_getElem?_getD, List.getElem?_concat_length]
  rfl
theorem SubR.push {t : Tm} {u v lv' kv' : Value} {us ks : List Value} {G V R0 : Nat → Prop} {kn : List Nat} (h : SubR R B T base w lv kv N)
    (h1 : us.length = N.length) (h2 : ks.length = N.length) (h5 : ∀ i, i < N.length → TlR T w (ng N i).1.kids (ug us i)) (h6 : ∀ i, i < N.length → SlR G w 1 (ug ks i) (ng N i).2.length ((ng N i).2.map natV)) (h7 : ∀ k, G k → base ≤ k ∧ k < w.heap.size ∧ ¬ B k ∧ ¬ R k)
    (hw : Upd (fun k => B k ∨ R k ∧ base ≤ k ∧ ¬ V k) w w')
    (hL : w'.ownsRow base 24 3 lv' (N.length + 1) (tCells (N.map (·.1)) us ++ [.string t.name, .string t.sort, u])) (hK : w'.ownsRow base 25 1 kv' (N.length + 1) (ks ++ [v]))
    (hbl : ∀ k, lv'.ownBlock = some k → B k ∨ w.heap.size ≤ k ∧ k < w'.heap.size) (hbk : ∀ k, kv'.ownBlock = some k → B k ∨ w.heap.size ≤ k ∧ k < w'.heap.size)
    (hb : base ≤ w.heap.size) (hu : TlR T w t.kids u) (hv : SlR V w 1 v kn.length (kn.map natV)) (hV : ∀ k, V k → R k ∧ base ≤ k ∧ k < w.heap.size) (hR0 : ∀ k, R0 k → R k ∧ k < w.heap.size ∧ ¬ V k)
    (hkl : ∀ k ∈ kn, k < N.length) (hkm : kn.map (fun k => (ng N k).1) = t.kids) :
    SubR R0 (fun k => B k ∨ w.heap.size ≤ k ∧ (lv'.ownBlock = some k ∨ kv'.ownBlock = some k)) T base w' lv' kv' (N ++ [(t, kn)]) := by
  have hlen : (N ++ [(t, kn)]).length = N.length + 1 := by simp
  have hne : ∀ i, i < (N ++ [(t, kn)]).length → i < N.length ∨ i = N.length := fun i hi => by rw [hlen] at hi; omega
  refine ⟨⟨us ++ [u], ks ++ [v], fun k => G k ∨ V k, by simp [h1], by simp [h2], ?_, by rw [hlen]; exact hK, fun i hi => ?_, fun i hi => ?_, fun k hk => ?_⟩, h.num.snoc t kn hkl hkm, fun k hk => ?_, fun k hk => ?_, fun k hk => ?_, h.tb⟩
  · rw [hlen, List.map_append]
    have := tCells_snoc (N.map (·.1)) us t u (by rw [List.length_map]; exact h1)
    rw [show [(t, kn)].map (·.1) = [t] from rfl, this]
    exact hL
  · have hT : ∀ k, T k → ¬ (B k ∨ R k ∧ base ≤ k ∧ ¬ V k) := fun k hk hx => by
      have h8 := h.tb k hk
      rcases hx with hx | hx
      · have := (h.lt k hx).1; omega
      · omega
    rcases hne i hi with hi | rfl
    · rw [ng_left _ hi, ug_left _ (by omega)]
      exact (h5 i hi).kept hw hT
    · rw [ng_last, ← h1, ug_last]
      exact hu.kept hw hT
  · rcases hne i hi with hi | rfl
    · rw [ng_left _ hi, ug_left _ (by omega)]
      exact ((h6 i hi).kept hw (fun k hk hx => by
        rcases hx with hx | hx
        · exact (h7 k hk).2.2.1 hx
        · exact (h7 k hk).2.2.2 hx.1)).weaken (fun k hk => .inl hk)
    · rw [ng_last, ← h2, ug_last]
      exact (hv.kept hw (fun k hk hx => by
        rcases hx with hx | hx
        · exact (h.lt k hx).2.2 (hV k hk).1
        · exact hx.2.2 hk)).weaken (fun k hk => .inr hk)
  · have hlt : base ≤ k ∧ k < w.heap.size ∧ ¬ B k ∧ (R k → V k) := by
      rcases hk with hk | hk
      · exact ⟨(h7 k hk).1, (h7 k hk).2.1, (h7 k hk).2.2.1, fun hr => absurd hr (h7 k hk).2.2.2⟩
      · exact ⟨(hV k hk).2.1, (hV k hk).2.2, fun hx => (h.lt k hx).2.2 (hV k hk).1, fun _ => hk⟩
    refine ⟨hlt.1, Nat.lt_of_lt_of_le hlt.2.1 hw.size, fun hx => ?_, fun hx => (hR0 k hx).2.2 (hlt.2.2.2 (hR0 k hx).1)⟩
    rcases hx with hx | hx
    · exact hlt.2.2.1 hx
    · omega
  · rcases hbl k hk with h8 | h8
    · exact .inl h8
    · exact .inr ⟨h8.1, .inl hk⟩
  · rcases hbk k hk with h8 | h8
    · exact .inl h8
    · exact .inr ⟨h8.1, .inr hk⟩
  · rcases hk with hk | ⟨hk, hk2⟩
    · exact ⟨(h.lt k hk).1, Nat.lt_of_lt_of_le (h.lt k hk).2.1 hw.size, fun hx => (h.lt k hk).2.2 (hR0 k hx).1⟩
    · refine ⟨by omega, ?_, fun hx => by have := (hR0 k hx).2.1; omega⟩
      rcases hk2 with h8 | h8
      · rcases hbl k h8 with h9 | h9
        · have := (h.lt k h9).2.1; omega
        · exact h9.2
      · rcases hbk k h8 with h9 | h9
        · have := (h.lt k h9).2.1; omega
        · exact h9.2
end

end Go.Proofs.YtjjaknmnhhfjeaaGreatDoor
