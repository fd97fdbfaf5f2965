/- The texts I99 N1 N2 N3 N4 N5 N6 N7 N9 N10, one behind the other. -/
import Derived.Test.YtlkcjmaiahnodaaGreatDoorYAH
import Derived.Test.YtlkcjmaiahnodaaGreatDoorYAJ
import Derived.Test.YtlkcjmaiahnodaaGreatDoorYAD
import Derived.Maps.RangeRun
import Derived.Test.YtlkcjmaiahnodaaGreatDoorYAB
import Derived.Test.YtlkcjmaiahnodaaGreatDoorYAE
import Derived.Deep.DeepCutAuto
import Derived.BigQuiet
import Derived.Test.YtlkcjmaiahnodaaGreatDoorYAI
import Derived.Lib.AppendZeros
import Derived.Lib.SliceRun
/- Vars. -/
namespace Go.Proofs.YtlkcjmaiahnodaaGreatDoor
open Go.RowKit Go.Hw Go
set_option linter.unusedVariables false
set_option linter.unusedSimpArgs false

open Tm Go.Sort Go.Proofs Go.ChangeMaps
abbrev fEnc (f : Vd) : List Value := [.string f.1, .string f.2]
theorem fCells_enc (L : List Vd) : fCells L = L.flatMap fEnc := rfl
set_option maxRecDepth 100000 in
set_option maxHeartbeats 2000000 in
theorem cmpF_x (x y : Vd) (w : World) : Calls Tryz.prog 141 #[.agg (fEnc x).toArray, .agg (fEnc y).toArray] w fun e w' => e = .returned (.int .i64 (cfN (Prod.fst : Vd → By) x y)) ∧ ∃ q os', w' = grow (w.drewN q) os' := by
  have hb0 := allocOld (alloc0 w (.cells #[.string x.1, .string x.2] 116)) (.cells #[.string y.1, .string y.2] 116)
  have hb1 := alloc_at (w.alloc (.cells #[.string x.1, .string x.2] 116)) (.cells #[.string y.1, .string y.2] 116) (n := w.heap.size + 1) (by simp)
  have c0 := cellRow hb0 0 (.string x.1) rfl
  have d0 := cellRow hb1 0 (.string y.1) rfl
  have hc := fun W => Tryz.strings_Compare x.1 y.1 W
  change ∀ W, Calls _ _ _ W fun e w' => e = .returned (.int .i64 (cfN (Prod.fst : Vd → By) x y)) ∧ w' = W at hc
  have HC := Lib.hid hc
  generalize cfN (Prod.fst : Vd → By) x y = r at *
  clear hb0 hb1 hc
  go_enter Tryz.func141, Tryz.ntmps141
  go_wp2_with fail
  refine (HC.out _).mono ?_
  rintro e w4 ⟨rfl, rfl⟩
  go_wp2_with fail
  go_ret
  exact ⟨rfl, 0, _, by rw [alloc_eq_grow, alloc_eq_grow, grow_grow]; rfl⟩
set_option maxRecDepth 100000 in
set_option maxHeartbeats 2000000 in
theorem sortV_x (L : List Vd) (base : Nat) (v : Value) (w : World) (hO : w.ownsRow base 116 2 v L.length (fCells L)) (hd : L.Pairwise fun x y => x.1 ≠ y.1) (hl : L.length ≤ 1000000) :
    Calls Tryz.prog 140 #[v, .func (.func 141) #[] #[]] w fun e w' => e = .returned (.tuple #[]) ∧ ∃ L', AscK (Prod.fst : Vd → By) L' ∧ L'.Perm L ∧ FiR (fun k => v.ownBlock = some k) w' v L' ∧ Upd (fun k => v.ownBlock = some k) w w' := by
  by_cases h0 : 0 < L.length
  · obtain ⟨g, cap, rfl, hb, hgl, hnc, hcell, hfz⟩ := ownAt hO h0
    have hH : HoldsK fEnc 2 w g 0 L.toArray := holdsK_of fEnc 2 (fun _ => rfl) (fun j hj => ⟨by rw [Nat.zero_add]; exact hcell j hj, hfz _⟩)
    have eg : ∀ args w, (callFunc 141 args).run Tryz.prog w = .ok (.enter 141 args) w := enters_of Tryz.func141 (by kernel_rfl) rfl
    have h := Tryz.slices_SortFunc_f140 2 (fun w => Tryz.isAgg116 w) (fun w => Tryz.sizeOf116 w) fEnc (fun _ => rfl) (fun x u hu => by simp [fEnc] at hu; rcases hu with h | h <;> (subst h; rfl)) (cfN (Prod.fst : Vd → By)) (swo_cfN _) 141 #[] g 0 cap L.toArray w eg (fun m os dk _ x y => cmpF_x x y _) hH hgl (by simp; omega)
    rw [show L.toArray.size = L.length by simp] at h
    refine h.mono ?_
    rintro e w' ⟨rfl, d', n, os, hp, hs, rfl⟩
    have hsz : d'.size = L.length := by have := hp.1; simpa using this
    obtain ⟨ha, hperm⟩ := sort_asc (d := L.toArray) (Prod.fst : Vd → By) (by rw [show L.toArray.size = L.length by simp]; exact hp) (by rw [show L.toArray.size = L.length by simp]; exact hs) (by simpa using hd)
    have hl' : d'.toList.length = L.length := by simpa using hsz
    refine ⟨rfl, d'.toList, ha, by simpa using hperm, ?_, (upd_sortK fEnc 2 w g 0 n d' os).mono (fun k _ e => by rw [e]; rfl)⟩
    have hH' := holdsK_sortWorldK_c fEnc 2 w g 0 L.toArray d' n os hH hgl (by simpa using hsz)
    unfold FiR
    rw [hl']
    refine SlR.mk' (by rw [fCells_len, hl']) rfl hnc (fun _ => rfl) (fun j hj => ?_)
    rw [fCells_enc]
    exact (cells_holdsK fEnc 2 (fun _ => rfl) hH' j (by rw [hsz]; exact hj)).1
  · have hl0 : L = [] := List.eq_nil_of_length_eq_zero (by omega)
    subst hl0
    obtain ⟨a, cap, rfl⟩ := own_shape hO
    have h := Tryz.slices_SortFunc_none_f140 (α := Vd) a cap (.func (.func 141) #[] #[]) w
    refine h.mono ?_
    rintro e w' ⟨rfl, rfl⟩
    exact ⟨rfl, [], List.Pairwise.nil, List.Perm.refl _, SlR.of_own hO, Upd.refl _ _⟩
def varsF (t : Tm) : List Vd × Int := if wf nmB t = true then (varsT t, 0) else ([], 1)
theorem sortsT_dist {t : Tm} {m : List Vd} (h : sortsT t = some m) : m.Pairwise (fun p q => p.1 ≠ q.1) := by
  have hnil : Cons [] := fun f hf => by cases hf
  obtain ⟨h1, _⟩ := sFold_spec (vl (sbts t)) [] hnil
  exact (h1 m h).2.2 List.Pairwise.nil
theorem varsT_spec {t : Tm} {m : List Vd} (h : sortsT t = some m) : AscK (Prod.fst : Vd → By) (varsT t) ∧ ∀ f, f ∈ varsT t ↔ f ∈ m := by
  obtain ⟨_, h1⟩ := vFold_spec (vl (sbts t)) [] [] List.Pairwise.nil (fun _ => rfl) (fun _ => Iff.rfl)
  obtain ⟨a, _, b⟩ := h1 m h
  exact ⟨a, b⟩
theorem sFold_len : ∀ (fs m m' : List Vd), sFold m fs = some m' → m'.length ≤ m.length + fs.length
  | [], m, m', h => by injection h with h; rw [← h]; simp
  | f :: fs, m, m', h => by
    unfold sFold at h
    cases hg : fget m f.1 with
    | none =>
      rw [hg] at h
      have := sFold_len fs _ _ h
      simp only [List.length_append, List.length_cons, List.length_nil] at this ⊢
      omega
    | some s =>
      rw [hg] at h
      simp only at h
      split at h
      · have := sFold_len fs _ _ h
        simp only [List.length_cons]
        omega
      · cases h
theorem ent_field {es : List MapEntry} {m : List Vd} (h : es.map (fun e => (e.key, e.val)) = (mVd m).map (fun p => (Value.string p.1, p.2))) {e : MapEntry} (he : e ∈ es) : ∃ f ∈ m, e.key = .string f.1 ∧ e.val = .string f.2 := by
  have h1 : (e.key, e.val) ∈ (mVd m).map (fun p => (Value.string p.1, p.2)) := by
    rw [← h]
    exact List.mem_map.2 ⟨e, he, rfl⟩
  obtain ⟨p, hp, h2⟩ := List.mem_map.1 h1
  obtain ⟨f, hf, rfl⟩ := List.mem_map.1 hp
  injection h2 with h3 h4
  exact ⟨f, hf, h3.symm, h4.symm⟩
theorem field_ent {es : List MapEntry} {m : List Vd} (h : es.map (fun e => (e.key, e.val)) = (mVd m).map (fun p => (Value.string p.1, p.2))) {f : Vd} (hf : f ∈ m) : ∃ e ∈ es, e.key = .string f.1 := by
  have h1 : (Value.string f.1, Value.string f.2) ∈ es.map (fun e => (e.key, e.val)) := by
    rw [h]
    exact List.mem_map.2 ⟨(f.1, .string f.2), List.mem_map.2 ⟨f, hf, rfl⟩, rfl⟩
  obtain ⟨e, he, h2⟩ := List.mem_map.1 h1
  injection h2 with h3 _
  exact ⟨e, he, h3⟩
theorem ent_uniq {es : List MapEntry} {m : List Vd} (h : es.map (fun e => (e.key, e.val)) = (mVd m).map (fun p => (Value.string p.1, p.2))) (hd : m.Pairwise (fun p q => p.1 ≠ q.1)) {x y : MapEntry} (hx : x ∈ es) (hy : y ∈ es) (hk : x.key = y.key) : x = y := by
  obtain ⟨i, hi, rfl⟩ := List.getElem_of_mem hx
  obtain ⟨j, hj, rfl⟩ := List.getElem_of_mem hy
  have hlen : es.length = m.length := by
    have := congrArg List.length h
    simpa using this
  have hat : ∀ i (hi : i < es.length), es[i].key = .string (m[i]'(by omega)).1 := fun i hi => by
    have h1 : (es.map (fun e => (e.key, e.val)))[i]? = ((mVd m).map (fun p => (Value.string p.1, p.2)))[i]? := by rw [h]
    rw [List.getElem?_map, List.getElem?_map, List.getElem?_map, List.getElem?_eq_getElem hi, List.getElem?_eq_getElem (show i < m.length by omega)] at h1
    injection h1 with h1
    injection h1 with h1 _
  rw [hat i hi, hat j hj] at hk
  injection hk with hk
  rw [List.pairwise_iff_getElem] at hd
  rcases Nat.lt_trichotomy i j with h2 | h2 | h2
  · exact absurd hk (hd i j (by omega) (by omega) h2)
  · subst h2; rfl
  · exact absurd hk.symm (hd j i (by omega) (by omega) h2)
structure VIn (es : Array MapEntry) (seen : Array Nat) (m L : List Vd) : Prop where
  sub : ∀ f ∈ L, f ∈ m ∧ ∃ e ∈ es.toList, e.key = .string f.1 ∧ seen.contains e.born = true
  dist : L.Pairwise (fun p q => p.1 ≠ q.1)
  all : ∀ e ∈ es.toList, seen.contains e.born = true → ∀ f ∈ m, e.key = .string f.1 → f ∈ L
theorem VIn.start (es : Array MapEntry) (m : List Vd) : VIn es #[] m [] := ⟨fun f hf => (by cases hf), List.Pairwise.nil, fun e _ h => (by simp at h)⟩
theorem VIn.next {es : Array MapEntry} {seen : Array Nat} {m L : List Vd} (hm : es.toList.map (fun e => (e.key, e.val)) = (mVd m).map (fun p => (Value.string p.1, p.2))) (hd : m.Pairwise (fun p q => p.1 ≠ q.1)) (hn : (es.toList.map (·.born)).Nodup) (h : VIn es seen m L) {e : MapEntry} (he : e ∈ es.toList) (hs : seen.contains e.born = false) {f : Vd} (hf : f ∈ m) (hk : e.key = .string f.1) : VIn es (seen.push e.born) m (L ++ [f]) := by
  refine ⟨fun g hg => ?_, ?_, fun x hx hsx g hg hkx => ?_⟩
  · rcases List.mem_append.1 hg with hg | hg
    · obtain ⟨a, x, hx, b, c⟩ := h.sub g hg
      exact ⟨a, x, hx, b, by rw [contains_push, c]; rfl⟩
    · rw [List.mem_singleton] at hg
      subst hg
      exact ⟨hf, e, he, hk, by rw [contains_push, beq_self_eq_true, Bool.or_true]⟩
  · rw [List.pairwise_append]
    refine ⟨h.dist, List.pairwise_singleton _ _, fun g hg y hy heq => ?_⟩
    rw [List.mem_singleton] at hy
    subst hy
    obtain ⟨_, x, hx, b, c⟩ := h.sub g hg
    have hxe : x = e := ent_uniq hm hd hx he (by rw [b, hk, heq])
    rw [hxe, hs] at c
    cases c
  · rw [contains_push, Bool.or_eq_true, beq_iff_eq] at hsx
    rcases hsx with hsx | hsx
    · exact List.mem_append_left _ (h.all x hx hsx g hg hkx)
    · have hxe : x = e := born_inj hn hx he hsx
      rw [hxe, hk] at hkx
      injection hkx with hkx
      obtain ⟨i, hi, e1⟩ := List.getElem_of_mem hf
      obtain ⟨j, hj, e2⟩ := List.getElem_of_mem hg
      have hgf : g = f := by
        rw [List.pairwise_iff_getElem] at hd
        rcases Nat.lt_trichotomy i j with h2 | h2 | h2
        · exact absurd (by rw [e1, e2]; exact hkx) (hd i j hi hj h2)
        · subst h2; rw [← e1, ← e2]
        · exact absurd (by rw [e1, e2]; exact hkx.symm) (hd j i hj hi h2)
      rw [hgf]
      exact List.mem_append_right _ (List.mem_singleton.2 rfl)
theorem VIn.fin {es : Array MapEntry} {seen : Array Nat} {m L : List Vd} (hm : es.toList.map (fun e => (e.key, e.val)) = (mVd m).map (fun p => (Value.string p.1, p.2))) (h : VIn es seen m L) (h0 : (leftOf es seen).size = 0) : ∀ f, f ∈ L ↔ f ∈ m := fun f =>
  ⟨fun hf => (h.sub f hf).1, fun hf => by
    obtain ⟨e, he, hk⟩ := field_ent hm hf
    exact h.all e he (all_seen es seen h0 e he) f hf hk⟩
theorem upd_setBlock (w : World) (r : Nat) (o : Obj) : Upd (fun j => j = r) w (Go.ChangeMaps.setBlock w r o) := ⟨rfl, rfl, rfl, by simp [Go.ChangeMaps.setBlock], fun i hi hF => by simp [Go.ChangeMaps.setBlock, Ne.symm (show i ≠ r from hF)]⟩
theorem heap_setBlock {w : World} {r : Nat} {o o' : Obj} (h : w.heap[r]? = some o) : (Go.ChangeMaps.setBlock w r o').heap[r]? = some o' := by
  have := (Array.getElem?_eq_some_iff.1 h).1
  simp [Go.ChangeMaps.setBlock, this]
set_option maxRecDepth 100000 in
set_option maxHeartbeats 2000000 in
theorem tvars_x (t : Tm) (v : Value) (w : World) (htab : AscT w) (hR : TmR (fun k => k < w.heap.size) w t v) (hsz : (t.size : Int) ≤ 1000000) : Calls Tryz.prog 70 #[v] w fun e w' => ∃ r, e = .returned (.tuple #[r, .int .i64 (varsF t).2]) ∧ FiR (fun k => w.heap.size ≤ k ∧ k < w'.heap.size) w' r (varsF t).1 ∧ Ext w w' := by
  have HR := Lib.hid hR
  obtain ⟨a, cap, rfl, hT⟩ := hR
  have HTL := Lib.hid hT
  dsimp only [tV]
  have HZ := Lib.hid ((Upd.refl (fun _ => False) w).alloc (.cells #[.string t.name, .string t.sort, .slice a t.kids.length cap] 24))
  have HB := Lib.hid (alloc0 w (.cells #[.string t.name, .string t.sort, .slice a t.kids.length cap] 24))
  have HSZ := Lib.hid hsz
  have HF := Lib.hid (fun W (hW : Ext w W) => formed_x t _ W (asc_ext htab hW) ((HR.out.ext hW).weaken (fun k hk => Nat.lt_of_lt_of_le hk hW.size)) (by omega))
  dsimp only [tV] at HF
  have c0 := cellRow HB.out 0 (.string t.name) rfl
  have c1 := cellRow HB.out 1 (.string t.sort) rfl
  have c2 := cellRow HB.out 2 (.slice a t.kids.length cap) rfl
  clear hT
  obtain ⟨VF, hVF⟩ : ∃ x, varsF t = x := ⟨_, rfl⟩
  have HVF : Hid ((if wf nmB t = true then (varsT t, 0) else ([], 1)) = VF) := Lib.hid hVF
  rw [hVF]
  clear hVF
  cases hfm : formed nmB t
  · rw [hfm] at HF
    have hwf := wf_false hfm
    have hv := HVF.out
    rw [hwf, if_neg (by simp)] at hv
    subst hv
    clear hwf hfm
    go_enter Tryz.func70, Tryz.ntmps70
    go_wp2_with fail
    refine (HF.out _ HZ.out).mono ?_
    rintro e w4 ⟨rfl, hw4⟩
    have H4 := Lib.hid (HZ.out.ext hw4)
    clear hw4 c0 c1 c2
    go_wp2_with fail
    go_ret2
    exact ⟨_, rfl, SlR.nil _ _ _, H4.out⟩
  rw [hfm] at HF
  have HSO : Hid (wf nmB t = (sortsT t).isSome) := Lib.hid (by unfold wf; rw [hfm, Bool.true_and])
  clear hfm
  go_enter Tryz.func70, Tryz.ntmps70
  go_wp2_with fail
  refine (HF.out _ HZ.out).mono ?_
  rintro e w4 ⟨rfl, hw4⟩
  have H4 := Lib.hid (HZ.out.ext hw4)
  have HB4 := Lib.hid (hw4.heap HB.out (fun h => h))
  clear hw4 c0 c1 c2
  have c0 := cellRow HB4.out 0 (.string t.name) rfl
  have c1 := cellRow HB4.out 1 (.string t.sort) rfl
  have c2 := cellRow HB4.out 2 (.slice a t.kids.length cap) rfl
  have HBX := Lib.hid (alloc0 w4 (.cells #[.string t.name, .string t.sort, .slice a t.kids.length cap] 24))
  have HE5 := Lib.hid (H4.out.alloc (.cells #[.string t.name, .string t.sort, .slice a t.kids.length cap] 24))
  go_wp2_with fail
  generalize (w4.alloc (.cells #[.string t.name, .string t.sort, .slice a t.kids.length cap] 24)) = w5 at *
  have x0 := cellRow HBX.out 0 (.string t.name) rfl
  have x1 := cellRow HBX.out 1 (.string t.sort) rfl
  have x2 := cellRow HBX.out 2 (.slice a t.kids.length cap) rfl
  have HSR := Lib.hid (sorts_x t w4.heap.size 0 1 0 cap a w5 ⟨x0, x1, x2⟩ ((HTL.out.ext HE5.out).weaken (fun k hk => Nat.lt_of_lt_of_le hk HE5.out.size)) (by omega))
  clear x0 x1 x2 c0 c1 c2
  refine HSR.out.mono ?_
  rintro e w6 ⟨hp, hw6⟩
  have H6 := Lib.hid (HE5.out.ext hw6)
  have hws := Nat.le_trans HE5.out.size hw6.size
  have hbb : w5.heap.size ≤ w6.heap.size := hw6.size
  unfold SortsP at hp
  clear hw6 HSR
  cases hso : sortsT t with
  | none =>
    rw [hso] at hp
    simp only at hp
    subst hp
    have hv := HVF.out
    rw [HSO.out, hso, if_neg (by simp)] at hv
    subst hv
    go_wp2_with fail
    go_ret2
    exact ⟨_, rfl, SlR.nil _ _ _, H6.out⟩
  | some m =>
    rw [hso] at hp
    simp only at hp
    obtain ⟨b, rfl, hb5, es, clock, hb, hes, hbp, hbc⟩ := hp
    have hv := HVF.out
    rw [HSO.out, hso, if_pos (by simp)] at hv
    subst hv
    have HMD := Lib.hid (sortsT_dist hso)
    have HVS := Lib.hid (varsT_spec hso)
    have hml : m.length ≤ 1000000 := by
      have h1 := sFold_len _ _ _ (show sFold [] (vl (sbts t)) = some m from hso)
      have h2 : (vl (sbts t)).length ≤ t.size := by
        have h1 : (vl (sbts t)).length ≤ (sbts t).length := List.length_filterMap_le _ _
        have h2 : (sbts t).length = t.size := by rw [sbts, List.length_map, nodesD_len]
        omega
      simp only [List.length_nil] at h1
      omega
    have HML := Lib.hid hml
    have HES := Lib.hid hes
    have HND : Hid ((es.toList.map (·.born)).Nodup) := Lib.hid (by
      rw [List.Nodup, List.pairwise_map]
      exact hbp.imp (fun h e => by omega))
    have HBC := Lib.hid hbc
    have hrg := run_range_map (P := Tryz.prog) w6 178 9 9 b es clock Tryz.underlying178 hb
    have hblt : b < w6.heap.size := (Array.getElem?_eq_some_iff.1 hb).1
    have HBL := Lib.hid hblt
    have HB0 := Lib.hid (allocOld hb (.mapIter (some b) clock #[] clock))
    have HR0 := Lib.hid (alloc0 w6 (.mapIter (some b) clock #[] clock))
    have HE0 := Lib.hid (H6.out.alloc (.mapIter (some b) clock #[] clock))
    have HZ0 : Hid (w6.heap.size + 1 ≤ (w6.alloc (.mapIter (some b) clock #[] clock)).heap.size) := Lib.hid (by simp)
    have HWS := Lib.hid hws
    clear hso hes hbp hbc hml HSO HF HBX hb hblt hbb hb5 HVF
    go_wp2_with fail
    try go_frame
    generalize w6.alloc (.mapIter (some b) clock #[] clock) = w7 at *
    clear hrg
    obtain ⟨r, hr⟩ : ∃ r, w6.heap.size = r := ⟨_, rfl⟩
    rw [hr] at HR0 HZ0 HBL HWS ⊢
    clear hr
    go_loopg [6] (leftOf es #[]).size (fun gk ov wr => ∃ (oa : Option Addr) (oc : Nat) (L : List Vd) (seen : Array Nat), ov = .slice oa L.length oc ∧ gk = (leftOf es seen).size ∧ Hid (wr.ownsRow (r + 1) 116 2 (.slice oa L.length oc) L.length (fCells L)) ∧ Hid (wr.heap[r]? = some (.mapIter (some b) clock seen clock)) ∧ Hid (wr.heap[b]? = some (.map es clock)) ∧ Hid (Ext w wr) ∧ Hid (r + 1 ≤ wr.heap.size) ∧ Hid (VIn es seen m L))
    case atStart => exact ⟨none, 0, [], #[], rfl, rfl, Lib.hid ⟨rfl, .inl ⟨rfl, rfl⟩⟩, HR0, HB0, HE0, HZ0, Lib.hid (VIn.start es m)⟩
    case round =>
      clear HR0 HB0 HE0 HZ0
      obtain ⟨oa, oc, L, seen, rfl, rfl, HO, HRR, HBB, HE, HSR, HV⟩ := hrel
      rcases run_next_at (P := Tryz.prog) wr 0 r b clock clock seen es clock HRR.out HBB.out (fun x hx => HBC.out x hx) (Nat.le_refl _) with ⟨h0, hrun⟩ | ⟨e, he, w1, hw1, hrun⟩
      · have hnx : ∀ ty, (Instr.next (.pointer (some ⟨r, 0, none⟩)) false ty).run Tryz.prog wr = _ := fun _ => hrun
        have hfin := HV.out.fin HES.out h0
        have hll : L.length ≤ 1000000 := by
          have hnd : L.Nodup := HV.out.dist.imp (fun h e => h (by rw [e]))
          have := hnd.length_le_of_subset (fun f hf => (hfin f).1 hf)
          have := HML.out
          omega
        have HST := Lib.hid (fun W (hW : Ext wr W) => sortV_x L (r + 1) (.slice oa L.length oc) W (own_kept HO.out hW (fun _ _ h => h)) HV.out.dist hll)
        have HOB : Hid (∀ k, (Value.slice oa L.length oc).ownBlock = some k → r + 1 ≤ k ∧ k < wr.heap.size) := Lib.hid (fun k hk => HO.out.lt k hk)
        have HFN := Lib.hid hfin
        clear hfin hll h0
        go_wp2_with fail
        refine (HST.out _ (Upd.refl _ _)).mono ?_
        rintro e w8 ⟨rfl, L', ha, hperm, hF, hu⟩
        have hLV : L' = varsT t := asc_uniq Prod.fst ha HVS.out.1 (fun f => by rw [hperm.mem_iff, HFN.out f, HVS.out.2 f])
        have hlen : L.length = (varsT t).length := by rw [← hLV, hperm.length_eq]
        have HF8 : Hid (FiR (fun k => w.heap.size ≤ k ∧ k < w8.heap.size) w8 (.slice oa L.length oc) (varsT t)) := Lib.hid (by rw [← hLV]; exact SlR.weaken hF (fun k hk => ⟨by have h1 := (HOB.out k hk).1; have h2 := HWS.out; omega, Nat.lt_of_lt_of_le (HOB.out k hk).2 hu.size⟩))
        have HE8 : Hid (Ext w w8) := Lib.hid (HE.out.trans' hu (fun j hj e => by have h1 := (HOB.out j e).1; have h2 := HWS.out; omega))
        clear hnx hrun hLV hlen ha hperm hF hu HST
        go_wp2_with fail
        go_ret2
        exact ⟨_, rfl, HF8.out, HE8.out⟩
      · have hml := mem_left he
        obtain ⟨f, hf, hk, hvv⟩ := ent_field HES.out hml.1
        have hrw : w1.heap[r]? = some (.mapIter (some b) clock seen clock) := by rcases hw1 with h | h <;> (rw [h]; exact HRR.out)
        have hrb : w1.heap[b]? = some (.map es clock) := by rcases hw1 with h | h <;> (rw [h]; exact HBB.out)
        have hu1 : Upd (fun j => j = r) wr (Go.ChangeMaps.setBlock w1 r (.mapIter (some b) clock (seen.push e.born) clock)) := by
          have := upd_setBlock w1 r (.mapIter (some b) clock (seen.push e.born) clock)
          rcases hw1 with h | h
          · rw [h] at this ⊢; exact this
          · rw [h] at this ⊢; exact this.ofDrew
        have hr2 := heap_setBlock (o' := .mapIter (some b) clock (seen.push e.born) clock) hrw
        rw [hk, hvv] at hrun
        generalize Go.ChangeMaps.setBlock w1 r (.mapIter (some b) clock (seen.push e.born) clock) = wN at *
        have HBN := Lib.hid (hu1.heap HBB.out (by have := HBL.out; omega))
        have HRN := Lib.hid hr2
        have hen := run_entry_at (P := Tryz.prog) wN r b clock seen es clock e hr2 HBN.out hml.1 HND.out
        rw [hk, hvv] at hen
        have hnx : ∀ ty, (Instr.next (.pointer (some ⟨r, 0, none⟩)) false ty).run Tryz.prog wr = _ := fun _ => hrun
        have HON : Hid (wN.ownsRow (r + 1) 116 2 (.slice oa L.length oc) L.length (fCells L)) := Lib.hid (own_kept HO.out hu1 (fun j hj e => by have := (HO.out.lt j hj).1; omega))
        have HEN : Hid (Ext w wN) := Lib.hid (HE.out.trans' hu1 (fun j hj e => by have h2 := HWS.out; omega))
        have HVN := Lib.hid (HV.out.next HES.out HMD.out HND.out hml.1 hml.2 hf hk)
        have HLT := Lib.hid (left_shrinks es seen e he)
        have hll : L.length ≤ 1000000 := by
          have hnd : L.Nodup := HV.out.dist.imp (fun h e => h (by rw [e]))
          have := hnd.length_le_of_subset (fun f hf => (HV.out.sub f hf).1)
          have := HML.out
          omega
        have HSN : Hid (r + 1 ≤ wN.heap.size) := Lib.hid (Nat.le_trans HSR.out hu1.size)
        clear hml hf hk hvv hrw hrb hu1 hr2 he hw1
        obtain ⟨iF, hi, hz0, hz1, hz2⟩ := info_parts infoF
        go_wp2_with (at_builtin; refine wpList_append_at _ rfl (.tmp 27) (.tmp 31) 111 rfl (r + 1) 116 iF (.agg #[.string ⟨#[]⟩, .string ⟨#[]⟩]) 2 32 Tryz.underlying111 hi hz0 hz1 hz2 rfl (by decide) _ _ _ rfl (HON.out.alloc _) _ 1 1 [.string f.1, .string f.2] rfl rfl ?c1 ?c2 ?c3 ?c4 ?c5 ?_)
        case c1 =>
          intro l u hl
          match l, hl with
          | 0, hl => simp only [List.getElem?_cons_zero, Option.some.injEq] at hl; subst hl; simp only [Addr.add]; exact cellRow (alloc0 _ _) 0 _ rfl
          | 1, hl => simp at hl; subst hl; simp only [Addr.add]; exact cellRow (alloc0 _ _) 1 _ rfl
        case c2 => intro u hu; simp at hu; rcases hu with h | h <;> (subst h; rfl)
        case c3 => unfold maxLen; omega
        case c4 => omega
        case c5 => have := HSN.out; simp; omega
        intro v6 w8 hG
        obtain ⟨a6, c6, rfl⟩ := own_shape hG.own
        have hua := (Upd.refl (fun _ => False) wN).alloc (.cells #[.string f.1, .string f.2] 116)
        have HO8 : Hid (w8.ownsRow (r + 1) 116 2 (.slice a6 (L ++ [f]).length c6) (L ++ [f]).length (fCells (L ++ [f]))) := Lib.hid (by
          have h := hG.own
          rw [show (L ++ [f]).length = L.length + 1 by simp, fCells_append]
          exact h)
        have hUU : Upd (fun j => (Value.slice oa L.length oc).ownBlock = some j) wN w8 := (hua.mono (fun _ _ h => h.elim)).trans hG.upd
        have HOO : ∀ j, (Value.slice oa L.length oc).ownBlock = some j → r + 1 ≤ j := fun j hj => (HON.out.lt j hj).1
        have HR8 := Lib.hid (hUU.heap HRN.out (fun e => by have := HOO _ e; omega))
        have HB8 := Lib.hid (hUU.heap HBN.out (fun e => by have := HOO _ e; have := HBL.out; omega))
        have HE8 : Hid (Ext w w8) := Lib.hid (HEN.out.trans' hUU (fun j hj e => by have := HOO _ e; have h2 := HWS.out; omega))
        have HS8 : Hid (r + 1 ≤ w8.heap.size) := Lib.hid (Nat.le_trans HSN.out hUU.size)
        clear hG hua hUU HOO hi hz0 hz1 hz2 hnx hrun hen
        go_wp2_with fail
        have hlt := HLT.out
        go_roundg (leftOf es (seen.push e.born)).size
        case measure => exact hlt
        case rel => exact ⟨a6, c6, L ++ [f], seen.push e.born, by simp, rfl, HO8, HR8, HB8, HE8, HS8, HVN⟩

end Go.Proofs.YtlkcjmaiahnodaaGreatDoor

/- The root of a class. -/
namespace Go.Proofs.YtlkcjmaiahnodaaGreatDoor
open Go.RowKit Go.Hw Go
set_option linter.unusedVariables false
set_option linter.unusedSimpArgs false
set_option maxRecDepth 100000 in
set_option maxHeartbeats 2000000 in
theorem root_x {N : Nat} {ad : Nat → Nat × Nat} {bv bn : Nat} {bk : List Nat} {st : St} {w : World} (F c r : Nat) (hm : UsR N ad 121 bv bn bk st w) (hr : rootF st.cs F c = some r) : Calls Tryz.prog 143 #[blV (blk bk c)] w fun e w' => e = .returned (blV (blk bk r)) ∧ w' = w := by
  have HM := Lib.hid hm
  have HR := Lib.hid hr
  clear hm hr
  go_enter Tryz.func143, Tryz.ntmps143
  go_wp2_with fail
  go_loopg [0] F (fun gk cv wr => ∃ d : Nat, cv = blV (blk bk d) ∧ Hid (rootF st.cs gk d = some r) ∧ wr = w)
  case atStart => exact ⟨c, rfl, HR, rfl⟩
  case round =>
    obtain ⟨d, rfl, HD, rfl⟩ := hrel
    have hd := HD.out
    cases hG : gk with
    | zero => rw [hG] at hd; cases hd
    | succ G =>
    subst hG
    unfold rootF at hd
    cases hx : st.cs[d]? with
    | none => rw [hx] at hd; cases hd
    | some x =>
    rw [hx] at hd
    simp only at hd
    have hrow := HM.out.row d x hx
    cases hu : x.up with
    | none =>
      rw [hu] at hd
      simp only [Option.some.injEq] at hd
      subst hd
      have e0 := cellRow hrow 0 (.pointer none) (by unfold clCells; rw [hu]; rfl)
      clear hrow
      go_wp2_with fail
      go_ret
      exact ⟨rfl, rfl⟩
    | some u =>
      rw [hu] at hd
      simp only at hd
      have HN := Lib.hid hd
      have e0 := cellRow hrow 0 (.pointer (some ⟨blk bk u, 0, none⟩)) (by unfold clCells; rw [hu]; rfl)
      clear hrow hd
      go_wp2_with fail
      go_roundg G
      case measure => omega
      case rel => exact ⟨u, rfl, HN, rfl⟩

end Go.Proofs.YtlkcjmaiahnodaaGreatDoor

/- A node is a variable; its class. -/
namespace Go.Proofs.YtlkcjmaiahnodaaGreatDoor
open Go.RowKit Go.Hw Go
set_option linter.unusedVariables false
set_option linter.unusedSimpArgs false

open Tm
theorem emp_dec (s : By) : (ByteArray.toList s).isEmpty = decide (s = nul) := by
  rw [Bool.eq_iff_iff, decide_eq_true_eq, List.isEmpty_iff, Lib.toList_data]
  constructor
  · intro h
    exact ba_list h
  · intro h
    rw [h]
    rfl
set_option maxRecDepth 100000 in
set_option maxHeartbeats 2000000 in
theorem variable_x (nm so : By) (a : Option Addr) (n cap : Nat) (w : World) : Calls Tryz.prog 91 #[.agg #[.string nm, .string so, .slice a n cap]] w fun e w' => e = .returned (.bool (!decide (so = nul))) ∧ Ext w w' := by
  have s3 := emp_dec so
  have hb := alloc0 w (.cells #[.string nm, .string so, .slice a n cap] 24)
  have e1 := cellRow hb 1 (.string so) rfl
  clear hb
  go_enter Tryz.func91, Tryz.ntmps91
  go_wp2_with fail
  go_ret
  exact ⟨rfl, (Upd.refl _ w).alloc _⟩
set_option maxRecDepth 100000 in
set_option maxHeartbeats 2000000 in
theorem class_var {N : Nat} {ad : Nat → Nat × Nat} {bv bn : Nat} {bk : List Nat} {st st' : St} {w : World} (F r ub pb po : Nat) (nm so : By) (a : Option Addr) (n cap : Nat) (hm : UsR N ad 121 bv bn bk st w) (hu : w.heap[ub]? = some (.cells #[.map (some bv), .map (some bn)] 108 (0, 0))) (hub : ¬ Fb bv bn bk ub)
    (h0 : w.cell? ⟨pb, po, none⟩ = some (.string nm)) (h1 : w.cell? ⟨pb, po + 1, none⟩ = some (.string so)) (h2 : w.cell? ⟨pb, po + 2, none⟩ = some (.slice a n cap)) (hpb : ¬ Fb bv bn bk pb) (hso : so ≠ nul) (hc : varF F st nm so = some (st', r)) :
    Calls Tryz.prog 73 #[blV ub, .pointer (some ⟨pb, po, none⟩)] w fun e w' => ∃ bk', e = .returned (blV (blk bk' r)) ∧ UsR N ad 121 bv bn bk' st' w' ∧ Upd (Fb bv bn bk) w w' ∧ bk <+: bk' ∧ (∀ b ∈ bk', b ∈ bk ∨ w.heap.size ≤ b) ∧ ((fnd st.vs nm).isSome = true → bk' = bk ∧ st' = st ∧ Ext w w') := by
  have HM := Lib.hid hm
  have HVR := Lib.hid (variable_x nm so a n cap w)
  have hdso : decide (so = nul) = false := decide_eq_false hso
  rw [hdso] at HVR
  have HUB := Lib.hid (And.intro hu hub)
  have HP := Lib.hid (And.intro h0 (And.intro h1 (And.intro h2 hpb)))
  have HC := Lib.hid hc
  clear hm hu hub hc hso hdso hpb
  go_enter Tryz.func73, Tryz.ntmps73
  go_wp2_with fail
  refine HVR.out.mono ?_
  rintro e w1 ⟨rfl, hw1⟩
  have hu1 := hw1.heap HUB.out.1 (fun h => h)
  have HE := Lib.hid hw1
  have hm1 := HM.out.ext hw1 (fun _ _ h => h)
  have q0 := hw1.cell h0 (fun h => h)
  have q1 := hw1.cell h1 (fun h => h)
  clear h0 h1 h2 HVR hw1
  have u0 := cellRow hu1 0 (.map (some bv)) rfl
  have u1 := cellRow hu1 1 (.map (some bn)) rfl
  have hl := fun n => MpR.get (P := Tryz.prog) (t := 105) (strKey Tryz.underlying9) Tryz.underlying105 (z := .pointer none) (Tryz.zeroValue118 (w1.drewN n)) (hm1.vs.ext ((Upd.refl _ w1).drewN' n)) nm true
  have hfm := afind_map (fun s : By => s) (fun c => blV (blk bk c)) st.vs nm (fun e _ h => h)
  rw [hfm] at hl
  simp only [if_true] at hl
  have HM1 := Lib.hid hm1
  have hc := HC.out
  unfold varF at hc
  cases hf : fnd st.vs nm with
  | some c =>
    rw [hf] at hl hc
    simp only [Option.map_some, Option.getD_some, Option.isSome_some] at hl hc
    cases hrt : rootF st.cs F c with
    | none => rw [hrt] at hc; cases hc
    | some r' =>
    rw [hrt] at hc
    simp only [Option.map_some, Option.some.injEq, Prod.mk.injEq] at hc
    obtain ⟨rfl, rfl⟩ := hc
    have HFN := Lib.hid hf
    have HRT := Lib.hid (fun W (hW : Ext w1 W) => root_x F c r' (HM1.out.ext hW (fun _ _ h => h)) hrt)
    clear hf hrt hfm hm1
    go_wp2_with fail
    go_quiet (fail)
    go_wp2_with fail
    refine (HRT.out _ ((Upd.refl _ w1).drewN' _)).mono ?_
    rintro e w2 ⟨rfl, rfl⟩
    go_wp2_with fail
    go_ret
    exact ⟨bk, rfl, HM1.out.ext ((Upd.refl (fun _ => False) w1).drewN' _) (fun _ _ h => h), (HE.out.drewN' _).mono (fun _ _ x => x.elim), List.prefix_refl _, fun b hb => .inl hb, fun _ => ⟨rfl, HE.out.drewN' _⟩⟩
  | none =>
    rw [hf] at hl hc
    simp only [Option.map_none, Option.getD_none, Option.isSome_none] at hl hc
    cases hrt : rootF (st.cs ++ [⟨none, nm, so, false, none, 0, 0, 0⟩]) F st.cs.length with
    | none => rw [hrt] at hc; cases hc
    | some r' =>
    rw [hrt] at hc
    simp only [Option.map_some, Option.some.injEq, Prod.mk.injEq] at hc
    obtain ⟨rfl, rfl⟩ := hc
    have HRT := Lib.hid hrt
    have HFN := Lib.hid hf
    have HU1 := Lib.hid hu1
    clear hf hrt hfm hm1
    go_wp2_with fail
    go_quiet (fail)
    go_wp2_with fail
    have HEQ : Hid (Ext w (w1.drewN nq)) := Lib.hid (HE.out.drewN' nq)
    clear HM1 HU1 hl u0 u1 q0 q1
    generalize w1.drewN nq = wq at *
    have HMQ := Lib.hid (HM.out.ext HEQ.out (fun _ _ h => h))
    have HUQ := Lib.hid (HEQ.out.heap HUB.out.1 (fun h => h))
    have u0 := cellRow HUQ.out 0 (.map (some bv)) rfl
    have q0 := HEQ.out.cell HP.out.1 (fun h => h)
    have q1 := HEQ.out.cell HP.out.2.1 (fun h => h)
    go_still_tail 9, (by kernel_rfl)
    change wpList _ _ _ _ _ wq.drew
    go_wp2_with fail
    have hal := alloc0 wq (.cells #[.pointer none, .string nm, .string so, .bool false, .pointer none, .int .i64 0, .int .i64 0, .int .i64 0] 121)
    have HEA : Hid (Ext wq (wq.alloc (.cells #[.pointer none, .string nm, .string so, .bool false, .pointer none, .int .i64 0, .int .i64 0, .int .i64 0] 121)).drew) := Lib.hid ((Upd.refl (fun _ => False) wq).alloc _).drew
    have HRW : Hid ((wq.alloc (.cells #[.pointer none, .string nm, .string so, .bool false, .pointer none, .int .i64 0, .int .i64 0, .int .i64 0] 121)).drew.heap[wq.heap.size]? = some (.cells #[.pointer none, .string nm, .string so, .bool false, .pointer none, .int .i64 0, .int .i64 0, .int .i64 0] 121 (0, 0))) := Lib.hid hal
    have HNB : Hid (w.heap.size ≤ wq.heap.size ∧ ¬ Fb bv bn bk wq.heap.size) := Lib.hid ⟨HEQ.out.size, fun e => Nat.lt_irrefl _ (HMQ.out.lt _ e)⟩
    clear u0 q0 q1 hal
    generalize (wq.alloc (.cells #[.pointer none, .string nm, .string so, .bool false, .pointer none, .int .i64 0, .int .i64 0, .int .i64 0] 121)).drew = wA at *
    generalize wq.heap.size = nb at *
    have HEB := Lib.hid (HEQ.out.trans HEA.out)
    have HMA := Lib.hid (HMQ.out.ext HEA.out (fun _ _ h => h))
    have HUA := Lib.hid (HEA.out.heap HUQ.out (fun h => h))
    have u0 := cellRow HUA.out 0 (.map (some bv)) rfl
    have q0 := HEB.out.cell HP.out.1 (fun h => h)
    obtain ⟨W2, hput, hmp2, hu2⟩ := MpR.put (P := Tryz.prog) (t := 105) (strKey Tryz.underlying9) Tryz.underlying105 (show MpR (fun s : ByteArray => Value.string s) wA.drew bv _ from HMA.out.vs.ext (Upd.refl _ wA).drew) nm (blV nb)
    have HU2 : Hid (Upd (fun j => j = bv) wA W2) := Lib.hid (Upd.ofDrew hu2)
    have HM2 := Lib.hid (HMA.out.newv HFN.out HNB.out.2 HRW.out hmp2 HU2.out)
    have HR2 := Lib.hid (root_x F _ r' HM2.out HRT.out)
    have hbl : blk (bk ++ [nb]) st.cs.length = nb := by rw [← HM.out.len]; exact blk_last nb
    rw [hbl] at HR2
    clear hu2 hmp2 hbl HMQ HUQ HEA
    go_still_tail 9, (by kernel_rfl)
    change wpList _ _ _ _ _ wA.drew
    go_wp2_with fail
    refine HR2.out.mono ?_
    rintro e w3 ⟨rfl, rfl⟩
    go_wp2_with fail
    go_ret
    refine ⟨bk ++ [nb], rfl, HM2.out, ((HEB.out.mono (fun _ _ x => x.elim)).trans (HU2.out.mono (fun j _ hj => .inl hj))), List.prefix_append _ _, fun b hb => ?_, fun h => by rw [HFN.out] at h; cases h⟩
    rcases List.mem_append.1 hb with hb | hb
    · exact .inl hb
    · rw [List.mem_singleton] at hb; rw [hb]; exact .inr HNB.out.1

end Go.Proofs.YtlkcjmaiahnodaaGreatDoor

/- The class of an operation. -/
namespace Go.Proofs.YtlkcjmaiahnodaaGreatDoor
open Go.RowKit Go.Hw Go
set_option linter.unusedVariables false
set_option linter.unusedSimpArgs false

open Tm
theorem infoT3 : (Tryz.prog.info? 24).map (fun i => i.size) = some 3 := by kernel_rfl
set_option maxRecDepth 100000 in
set_option maxHeartbeats 2000000 in
theorem class_op {N : Nat} {ad : Nat → Nat × Nat} {bv bn : Nat} {bk : List Nat} {st st' : St} {w : World} (F r ub i pb po : Nat) (nm so : By) (a : Option Addr) (n cap : Nat) (hm : UsR N ad 121 bv bn bk st w) (hu : w.heap[ub]? = some (.cells #[.map (some bv), .map (some bn)] 108 (0, 0))) (hub : ¬ Fb bv bn bk ub)
    (h0 : w.cell? ⟨pb, po, none⟩ = some (.string nm)) (h1 : w.cell? ⟨pb, po + 1, none⟩ = some (.string so)) (h2 : w.cell? ⟨pb, po + 2, none⟩ = some (.slice a n cap)) (hso : so = nul) (had : ad i = (pb, po)) (hi : i < N) (hinj : ∀ j, j < N → ad j = ad i → j = i) (hpl : ∀ j, j < N → Plain w (ad j).1) (hc : opF F st i = some (st', r)) :
    Calls Tryz.prog 73 #[blV ub, .pointer (some ⟨pb, po, none⟩)] w fun e w' => ∃ bk', e = .returned (blV (blk bk' r)) ∧ UsR N ad 121 bv bn bk' st' w' ∧ Upd (Fb bv bn bk) w w' ∧ bk <+: bk' ∧ (∀ b ∈ bk', b ∈ bk ∨ w.heap.size ≤ b) ∧ ((fnd st.ns i).isSome = true → bk' = bk ∧ st' = st ∧ Ext w w') := by
  have HM := Lib.hid hm
  have HVR := Lib.hid (variable_x nm so a n cap w)
  have hdso : decide (so = nul) = true := decide_eq_true hso
  rw [hdso] at HVR
  have HUB := Lib.hid (And.intro hu hub)
  have HC := Lib.hid hc
  have HI := Lib.hid (And.intro had (And.intro hi (And.intro hinj hpl)))
  clear hm hu hub hc hso hdso hi hinj hpl had
  go_enter Tryz.func73, Tryz.ntmps73
  go_wp2_with fail
  refine HVR.out.mono ?_
  rintro e w1 ⟨rfl, hw1⟩
  have hu1 := hw1.heap HUB.out.1 (fun h => h)
  have HE := Lib.hid hw1
  have hm1 := HM.out.ext hw1 (fun _ _ h => h)
  clear h0 h1 h2 HVR hw1
  have u0 := cellRow hu1 0 (.map (some bv)) rfl
  have u1 := cellRow hu1 1 (.map (some bn)) rfl
  have hpw : ∀ W, Ext w W → (∀ j, j < N → Plain W (ad j).1) := fun W hW j hj => (HI.out.2.2.2 j hj).ext hW
  have HPW := Lib.hid hpw
  have HPL : Hid (∀ W, Ext w W → ∀ p ∈ (st.ns.map fun e => (ad e.1, blV (blk bk e.2))), Plain W p.1.1) := Lib.hid (fun W hW p hp => by
    obtain ⟨e, he, rfl⟩ := List.mem_map.1 hp
    exact HPW.out W hW _ (HM.out.nlt e he).2)
  obtain ⟨iT, hiT, hsT⟩ : ∃ i, Tryz.prog.info? 24 = some i ∧ i.size = 3 := by
    have := infoT3
    cases hx : Tryz.prog.info? 24 with
    | none => rw [hx] at this; cases this
    | some i => rw [hx] at this; injection this with this; exact ⟨i, rfl, this⟩
  have hz3 : iT.size ≠ 0 := by omega
  have HIT := Lib.hid (And.intro hiT hz3)
  have hl := MpR.getP (P := Tryz.prog) (t := 106) Tryz.underlying110 hiT hz3 Tryz.underlying106 (z := .pointer none) (Tryz.zeroValue118 w1) hm1.ns (ad i) (HPW.out _ HE.out i HI.out.2.1) (HPL.out _ HE.out) true
  have hfm := afind_map ad (fun c => blV (blk bk c)) st.ns i (fun e he h => HI.out.2.2.1 e.1 (HM.out.nlt e he).2 h)
  rw [hfm] at hl
  have hadv : adV (ad i) = .pointer (some ⟨pb, po, none⟩) := by rw [HI.out.1]
  rw [hadv] at hl
  simp only [if_true] at hl
  have HM1 := Lib.hid hm1
  have hc := HC.out
  unfold opF at hc
  clear hpw hiT hsT hz3 hadv
  cases hf : fnd st.ns i with
  | some c =>
    rw [hf] at hl hc
    simp only [Option.map_some, Option.getD_some, Option.isSome_some] at hl hc
    cases hrt : rootF st.cs F c with
    | none => rw [hrt] at hc; cases hc
    | some r' =>
    rw [hrt] at hc
    simp only [Option.map_some, Option.some.injEq, Prod.mk.injEq] at hc
    obtain ⟨rfl, rfl⟩ := hc
    have HRT := Lib.hid (fun W (hW : Ext w1 W) => root_x F c r' (HM1.out.ext hW (fun _ _ h => h)) hrt)
    clear hf hrt hfm hm1
    go_wp2_with fail
    refine (HRT.out _ (Upd.refl _ w1)).mono ?_
    rintro e w2 ⟨rfl, rfl⟩
    go_wp2_with fail
    go_ret
    exact ⟨bk, rfl, HM1.out, HE.out.mono (fun _ _ x => x.elim), List.prefix_refl _, fun b hb => .inl hb, fun _ => ⟨rfl, HE.out⟩⟩
  | none =>
    rw [hf] at hl hc
    simp only [Option.map_none, Option.getD_none, Option.isSome_none] at hl hc
    cases hrt : rootF (st.cs ++ [⟨none, nul, nul, false, some i, 0, 0, 0⟩]) F st.cs.length with
    | none => rw [hrt] at hc; cases hc
    | some r' =>
    rw [hrt] at hc
    simp only [Option.map_some, Option.some.injEq, Prod.mk.injEq] at hc
    obtain ⟨rfl, rfl⟩ := hc
    have HRT := Lib.hid hrt
    have HFN := Lib.hid hf
    have HFM := Lib.hid hfm
    clear hf hrt hfm hm1
    have HNB : Hid (w.heap.size ≤ w1.heap.size ∧ ¬ Fb bv bn bk w1.heap.size) := Lib.hid ⟨HE.out.size, fun e => Nat.lt_irrefl _ (HM1.out.lt _ e)⟩
    have hal := alloc0 w1 (.cells #[.pointer none, .string ⟨#[]⟩, .string ⟨#[]⟩, .bool false, .pointer (some ⟨pb, po, none⟩), .int .i64 0, .int .i64 0, .int .i64 0] 121)
    have HEA : Hid (Ext w1 (w1.alloc (.cells #[.pointer none, .string ⟨#[]⟩, .string ⟨#[]⟩, .bool false, .pointer (some ⟨pb, po, none⟩), .int .i64 0, .int .i64 0, .int .i64 0] 121))) := Lib.hid ((Upd.refl (fun _ => False) w1).alloc _)
    have HEB := Lib.hid (HE.out.trans HEA.out)
    have HMA := Lib.hid (HM1.out.ext HEA.out (fun _ _ h => h))
    have hwp := HPL.out _ HEB.out
    have HRW : Hid ((w1.alloc (.cells #[.pointer none, .string ⟨#[]⟩, .string ⟨#[]⟩, .bool false, .pointer (some ⟨pb, po, none⟩), .int .i64 0, .int .i64 0, .int .i64 0] 121)).heap[w1.heap.size]? = some (.cells (clCells ad bk ⟨none, nul, nul, false, some i, 0, 0, 0⟩) 121 (0, 0))) := Lib.hid (by
      have e : clCells ad bk ⟨none, nul, nul, false, some i, 0, 0, 0⟩ = #[.pointer none, .string ⟨#[]⟩, .string ⟨#[]⟩, .bool false, .pointer (some ⟨pb, po, none⟩), .int .i64 0, .int .i64 0, .int .i64 0] := by
        unfold clCells
        simp only [Option.map_some, Option.map_none, HI.out.1]
        rfl
      rw [e]
      exact hal)
    obtain ⟨W2, hput, hmp2, hu2⟩ := MpR.newP (P := Tryz.prog) (t := 106) (et := 118) Tryz.underlying110 HIT.out.1 HIT.out.2 Tryz.underlying106 HMA.out.ns (ad i) (blV w1.heap.size) (HPW.out _ HEB.out i HI.out.2.1) hwp (by rw [HFM.out, HFN.out]; rfl)
    have HU2 : Hid (Upd (fun j => j = bn) (w1.alloc (.cells #[.pointer none, .string ⟨#[]⟩, .string ⟨#[]⟩, .bool false, .pointer (some ⟨pb, po, none⟩), .int .i64 0, .int .i64 0, .int .i64 0] 121)) W2) := Lib.hid hu2
    have HM2 := Lib.hid (HMA.out.newo HI.out.2.1 HNB.out.2 HRW.out hmp2 HU2.out)
    have HR2 := Lib.hid (root_x F _ r' HM2.out HRT.out)
    have hbl : blk (bk ++ [w1.heap.size]) st.cs.length = w1.heap.size := by rw [← HM.out.len]; exact blk_last _
    rw [hbl] at HR2
    have hadv : adV (ad i) = .pointer (some ⟨pb, po, none⟩) := by rw [HI.out.1]
    rw [hadv] at hput
    have u2 := cellRow (HEA.out.heap hu1 (fun h => h)) 1 (.map (some bn)) rfl
    clear hu2 hmp2 hbl hadv hwp hal
    go_wp2_with fail
    refine HR2.out.mono ?_
    rintro e w3 ⟨rfl, rfl⟩
    go_wp2_with fail
    go_ret
    refine ⟨bk ++ [w1.heap.size], rfl, HM2.out, ((HEB.out.mono (fun _ _ x => x.elim)).trans (HU2.out.mono (fun j _ hj => .inr (.inl hj)))), List.prefix_append _ _, fun b hb => ?_, fun h => by rw [HFN.out] at h; cases h⟩
    rcases List.mem_append.1 hb with hb | hb
    · exact .inl hb
    · rw [List.mem_singleton] at hb; rw [hb]; exact .inr HNB.out.1

end Go.Proofs.YtlkcjmaiahnodaaGreatDoor

/- The class of a node. -/
namespace Go.Proofs.YtlkcjmaiahnodaaGreatDoor
open Go.RowKit Go.Hw Go
set_option linter.unusedVariables false
set_option linter.unusedSimpArgs false

open Tm
theorem cls_x {T : List Nr} {ad : Nat → Nat × Nat} {S : Nat → Prop} {bv bn ub : Nat} {bk : List Nat} {st st' : St} {w : World} (F i r : Nat) (hm : Ur T ad S 121 108 bv bn ub bk st w) (hc : classF T F st i = some (st', r)) :
    Calls Tryz.prog 73 #[blV ub, adV (ad i)] w fun e w' => ∃ bk', e = .returned (blV (blk bk' r)) ∧ Us' T ad S 121 108 bv bn ub bk bk' st' w w' := by
  unfold classF at hc
  cases ht : T[i]? with
  | none => rw [ht] at hc; cases hc
  | some q =>
    rw [ht] at hc
    simp only at hc
    obtain ⟨h0, h1, a, cap, h2, _⟩ := hm.nd.row i q ht
    have hi : i < T.length := (List.getElem?_eq_some_iff.1 ht).1
    by_cases hs : q.so = nul
    · rw [if_pos hs] at hc
      refine (class_op F r ub i (ad i).1 (ad i).2 q.nm q.so a _ cap hm.us hm.u hm.un h0 h1 h2 hs rfl hi (fun j hj e => hm.nd.inj j i hj hi e) (fun j hj => (hm.nd.low j hj).1) hc).mono ?_
      rintro e w' ⟨bk', h3, h4, h5, h6, h7, h8⟩
      exact ⟨bk', h3, hm.step h4 h5 h6 h7⟩
    · rw [if_neg hs] at hc
      refine (class_var F r ub (ad i).1 (ad i).2 q.nm q.so a _ cap hm.us hm.u hm.un h0 h1 h2 (hm.sn _ (hm.nd.low i hi).2).2 hs hc).mono ?_
      rintro e w' ⟨bk', h3, h4, h5, h6, h7, h8⟩
      exact ⟨bk', h3, hm.step h4 h5 h6 h7⟩
theorem clsv_x {T : List Nr} {ad : Nat → Nat × Nat} {S : Nat → Prop} {bv bn ub : Nat} {bk : List Nat} {st st' : St} {w : World} (F r pb po : Nat) (nm so : By) (a : Option Addr) (n cap : Nat) (hm : Ur T ad S 121 108 bv bn ub bk st w) (h0 : w.cell? ⟨pb, po, none⟩ = some (.string nm)) (h1 : w.cell? ⟨pb, po + 1, none⟩ = some (.string so)) (h2 : w.cell? ⟨pb, po + 2, none⟩ = some (.slice a n cap)) (hpb : ¬ Fb bv bn bk pb) (hso : so ≠ nul) (hc : varF F st nm so = some (st', r)) :
    Calls Tryz.prog 73 #[blV ub, .pointer (some ⟨pb, po, none⟩)] w fun e w' => ∃ bk', e = .returned (blV (blk bk' r)) ∧ Us' T ad S 121 108 bv bn ub bk bk' st' w w' :=
  (class_var F r ub pb po nm so a n cap hm.us hm.u hm.un h0 h1 h2 hpb hso hc).mono fun e w' ⟨bk', h3, h4, h5, h6, h7, h8⟩ => ⟨bk', h3, hm.step h4 h5 h6 h7⟩

theorem cls_same {T : List Nr} {ad : Nat → Nat × Nat} {S : Nat → Prop} {bv bn ub : Nat} {bk : List Nat} {st st' : St} {w : World} (F i r : Nat) (hm : Ur T ad S 121 108 bv bn ub bk st w) (hf : fndC T st i = true) (hc : classF T F st i = some (st', r)) :
    st' = st ∧ Calls Tryz.prog 73 #[blV ub, adV (ad i)] w fun e w' => e = .returned (blV (blk bk r)) ∧ Ext w w' := by
  unfold classF at hc
  unfold fndC at hf
  cases ht : T[i]? with
  | none => rw [ht] at hc; cases hc
  | some q =>
    rw [ht] at hc hf
    simp only at hc hf
    obtain ⟨h0, h1, a, cap, h2, _⟩ := hm.nd.row i q ht
    have hi : i < T.length := (List.getElem?_eq_some_iff.1 ht).1
    by_cases hs : q.so = nul
    · rw [if_pos hs] at hc hf
      refine ⟨opF_same hf hc, (class_op F r ub i (ad i).1 (ad i).2 q.nm q.so a _ cap hm.us hm.u hm.un h0 h1 h2 hs rfl hi (fun j hj e => hm.nd.inj j i hj hi e) (fun j hj => (hm.nd.low j hj).1) hc).mono ?_⟩
      rintro e w' ⟨bk', h3, h4, h5, h6, h7, h8⟩
      obtain ⟨rfl, _, h9⟩ := h8 hf
      exact ⟨h3, h9⟩
    · rw [if_neg hs] at hc hf
      refine ⟨varF_same hf hc, (class_var F r ub (ad i).1 (ad i).2 q.nm q.so a _ cap hm.us hm.u hm.un h0 h1 h2 (hm.sn _ (hm.nd.low i hi).2).2 hs hc).mono ?_⟩
      rintro e w' ⟨bk', h3, h4, h5, h6, h7, h8⟩
      obtain ⟨rfl, _, h9⟩ := h8 hf
      exact ⟨h3, h9⟩
theorem clsv_same {T : List Nr} {ad : Nat → Nat × Nat} {S : Nat → Prop} {bv bn ub : Nat} {bk : List Nat} {st st' : St} {w : World} (F r pb po : Nat) (nm so : By) (a : Option Addr) (n cap : Nat) (hm : Ur T ad S 121 108 bv bn ub bk st w) (h0 : w.cell? ⟨pb, po, none⟩ = some (.string nm)) (h1 : w.cell? ⟨pb, po + 1, none⟩ = some (.string so)) (h2 : w.cell? ⟨pb, po + 2, none⟩ = some (.slice a n cap)) (hpb : ¬ Fb bv bn bk pb) (hso : so ≠ nul) (hf : (fnd st.vs nm).isSome = true) (hc : varF F st nm so = some (st', r)) :
    st' = st ∧ Calls Tryz.prog 73 #[blV ub, .pointer (some ⟨pb, po, none⟩)] w fun e w' => e = .returned (blV (blk bk r)) ∧ Ext w w' :=
  ⟨varF_same hf hc, (class_var F r ub pb po nm so a n cap hm.us hm.u hm.un h0 h1 h2 hpb hso hc).mono fun e w' ⟨bk', h3, h4, h5, h6, h7, h8⟩ => by
    obtain ⟨rfl, _, h9⟩ := h8 hf
    exact ⟨h3, h9⟩⟩

end Go.Proofs.YtlkcjmaiahnodaaGreatDoor

/- Unify. -/
namespace Go.Proofs.YtlkcjmaiahnodaaGreatDoor
open Go.RowKit Go.Hw Go
set_option linter.unusedVariables false
set_option linter.unusedSimpArgs false

open Tm
theorem str_dc (a b : By) : (a.toList == b.toList) = decide (a = b) := by
  by_cases h : a = b
  · rw [decide_eq_true h, h]; simp
  · rw [decide_eq_false h]
    exact beq_eq_false_iff_ne.2 (fun e => h (ba_list (by rw [Lib.toList_data, Lib.toList_data] at e; exact e)))
theorem infoC' : (Tryz.prog.info? 121).map (fun i => i.size) = some 8 := by kernel_rfl
theorem infoC : Tryz.prog.info? 121 = some ((Tryz.prog.info? 121).getD default) ∧ ((Tryz.prog.info? 121).getD default).size ≠ 0 := by
  have h := infoC'
  cases hx : Tryz.prog.info? 121 with
  | none => rw [hx] at h; cases h
  | some i =>
    rw [hx] at h
    have h8 : i.size = 8 := by injection h
    exact ⟨rfl, fun e => by have e' : i.size = 0 := e; rw [h8] at e'; cases e'⟩
set_option maxRecDepth 100000 in
set_option maxHeartbeats 2000000 in
theorem unify_x {T : List Nr} {ad : Nat → Nat × Nat} {S : Nat → Prop} {bv bn ub : Nat} (hTB : ∀ (i : Nat) (r : Nr), T[i]? = some r → r.ks.length ≤ 1000000) (F : Nat) : ∀ (bk : List Nat) (st st' : St) (w : World) (s t : Nat) (ok : Bool), Ur T ad S 121 108 bv bn ub bk st w → unF T F st s t = some (st', ok) →
    Calls Tryz.prog 69 #[blV ub, adV (ad s), adV (ad t)] w fun e w' => e = .returned (.bool ok) ∧ ∃ bk', Us' T ad S 121 108 bv bn ub bk bk' st' w w' := by
  induction F with
  | zero => intro bk st st' w s t ok _ h; cases h
  | succ F ih =>
  intro bk st st' w s t ok hm hc
  have HIH := Lib.hid ih
  unfold unF at hc
  cases hc1 : classF T F st s with
  | none => rw [hc1] at hc; cases hc
  | some q1 =>
  obtain ⟨st1, a⟩ := q1
  rw [hc1] at hc
  simp only at hc
  cases hc2 : classF T F st1 t with
  | none => rw [hc2] at hc; cases hc
  | some q2 =>
  obtain ⟨st2, b⟩ := q2
  rw [hc2] at hc
  simp only at hc
  have H1 := Lib.hid (cls_x F s a hm hc1)
  have HC1 := Lib.hid hc1
  have HC2 := Lib.hid hc2
  have HC := Lib.hid hc
  clear ih hm hc1 hc2 hc
  go_enter Tryz.func69, Tryz.ntmps69
  go_wp2_with fail
  refine H1.out.mono ?_
  rintro e w1 ⟨bk1, rfl, hu1⟩
  have HU1 := Lib.hid hu1
  have H2 := Lib.hid (cls_x F t b hu1.ur HC2.out)
  clear hu1 H1
  go_wp2_with fail
  refine H2.out.mono ?_
  rintro e w2 ⟨bk2, rfl, hu2⟩
  have hab : blk bk1 a = blk bk2 a := by
    obtain ⟨x, hx, _⟩ := classF_some HC1.out
    exact (pre_blk hu2.pre (by rw [HU1.out.ur.us.len]; exact (List.getElem?_eq_some_iff.1 hx).1)).symm
  rw [hab]
  have HU2 := Lib.hid (HU1.out.trans hu2)
  have HL1 := Lib.hid HU1.out.ur.us.len
  have HPR := Lib.hid hu2.pre
  clear hu2 hab H2 HU1
  have ha2 : a < bk2.length := by
    obtain ⟨x, hx, _⟩ := classF_some HC1.out
    have h1 : a < bk1.length := by rw [HL1.out]; exact (List.getElem?_eq_some_iff.1 hx).1
    exact Nat.lt_of_lt_of_le h1 HPR.out.length_le
  have hb2 : b < bk2.length := by
    obtain ⟨x, hx, _⟩ := classF_some HC2.out
    rw [HU2.out.ur.us.len]; exact (List.getElem?_eq_some_iff.1 hx).1
  have hrowp : ∀ c, c < bk2.length → Plain w2 (blk bk2 c) := fun c hc => ⟨_, _, HU2.out.ur.us.row c _ (List.getElem?_eq_getElem (by rw [← HU2.out.ur.us.len]; exact hc))⟩
  have heq := ptr_bin (P := Tryz.prog) Tryz.underlying118 infoC.1 infoC.2 (blk bk2 a, 0) (blk bk2 b, 0) w2 (hrowp a ha2) (hrowp b hb2)
  have HAB := Lib.hid (And.intro ha2 hb2)
  have hc := HC.out
  by_cases e : a = b
  · subst e
    rw [if_pos rfl] at hc
    simp only [Option.some.injEq, Prod.mk.injEq] at hc
    obtain ⟨rfl, rfl⟩ := hc
    rw [decide_eq_true rfl] at heq
    clear ha2 hb2 hrowp
    go_wp2_with fail
    go_ret
    exact ⟨rfl, bk2, HU2.out⟩
  · rw [if_neg e] at hc
    have hne : ¬ (blk bk2 a, 0) = (blk bk2 b, 0) := fun h => e (blk_inj (by have := HU2.out.ur.us.nd; rw [List.nodup_cons, List.nodup_cons] at this; exact this.2.2) ha2 hb2 (Prod.mk.inj h).1)
    rw [decide_eq_false hne] at heq
    cases hA : st2.cs[a]? with
    | none => rw [hA] at hc; cases hc
    | some A =>
    cases hB : st2.cs[b]? with
    | none => rw [hA, hB] at hc; cases hc
    | some B =>
    rw [hA, hB] at hc
    simp only at hc
    have HC' := Lib.hid hc
    have HNE := Lib.hid (fun h : blk bk2 a = blk bk2 b => hne (by rw [h]))
    have hra := HU2.out.ur.us.row a A hA
    have hrb := HU2.out.ur.us.row b B hB
    have HCS := Lib.hid (And.intro hA hB)
    have a4 := cellRow hra 4 (pV (A.tm.map ad)) rfl
    have b4 := cellRow hrb 4 (pV (B.tm.map ad)) rfl
    have HRA := Lib.hid hra
    have HRB := Lib.hid hrb
    clear ha2 hb2 hrowp hc hne hA hB hra hrb
    go_wp2_with fail
    go_quiet (fail)
    have HUQ := Lib.hid (HU2.out.ext ((Upd.refl _ w2).drewN' nq))
    clear HRA HRB HU2 heq a4 b4
    generalize w2.drewN nq = wq at *
    have hrb := HUQ.out.ur.us.row b B HCS.out.2
    have b0 := cellRow hrb 0 (pV (B.up.map fun c => (blk bk2 c, 0))) rfl
    have fb := fun i => frozenRow hrb i
    have HA' : Hid (a < st2.cs.length ∧ b < st2.cs.length) := Lib.hid (by have := HAB.out; rw [HUQ.out.ur.us.len] at this; exact this)
    have HU3 : Hid (Us' T ad S 121 108 bv bn ub bk bk2 (setC st2 b { B with up := some a }) w (wq.setCell ⟨blk bk2 b, 0, none⟩ (blV (blk bk2 a)))) := Lib.hid (HUQ.out.put HA'.out.2 { B with up := some a } ⟨fun d h => by injection h with h; rw [← h]; exact HA'.out.1, fun i h => (HUQ.out.ur.us.clt B (List.mem_of_getElem? HCS.out.2)).2 i h⟩
      ((Upd.refl (fun k => k = blk bk2 b) wq).setCell (p := ⟨blk bk2 b, 0, none⟩) (.inl rfl) _) (by
        have := setBlock hrb 0 (blV (blk bk2 a))
        exact this))
    clear hrb
    go_wp2_with fail
    generalize wq.setCell ⟨blk bk2 b, 0, none⟩ (blV (blk bk2 a)) = w3 at *
    clear b0 fb HUQ
    have hA3 : (setC st2 b { B with up := some a }).cs[a]? = some A := by
      show (st2.cs.set b _)[a]? = some A
      rw [List.getElem?_set, if_neg (fun h => e h.symm)]
      exact HCS.out.1
    have hB3 : (setC st2 b { B with up := some a }).cs[b]? = some { B with up := some a } := by
      show (st2.cs.set b _)[b]? = some _
      rw [List.getElem?_set, if_pos rfl, if_pos HA'.out.2]
    have hl3 : (setC st2 b { B with up := some a }).cs.length = st2.cs.length := List.length_set ..
    obtain ⟨st3, hst3⟩ : ∃ x, setC st2 b { B with up := some a } = x := ⟨_, rfl⟩
    rw [hst3] at HU3 hA3 hB3 hl3
    have H3 := Lib.hid (And.intro hst3 (And.intro hA3 (And.intro hB3 hl3)))
    clear hst3 hA3 hB3 hl3
    go_cut [7] (fun x7 ww => x7 = blV (blk bk2 a) ∧ Hid (Us' T ad S 121 108 bv bn ub bk bk2 (setC st3 a { A with mx := (joinC A B).mx }) w ww))
    case first =>
      have hra := HU3.out.ur.us.row a A H3.out.2.1
      have hrb := HU3.out.ur.us.row b _ H3.out.2.2.1
      have HP0 : ∀ v, (joinC A B).mx = v → Hid (Us' T ad S 121 108 bv bn ub bk bk2 (setC st3 a { A with mx := (joinC A B).mx }) w (w3.drew.setCell ⟨blk bk2 a, 3, none⟩ (.bool v))) := fun v hv => Lib.hid ((HU3.out.ext (Upd.refl _ w3).drew).put (by rw [H3.out.2.2.2]; exact HA'.out.1) { A with mx := (joinC A B).mx } ((HU3.out.ur.us.clt A (List.mem_of_getElem? H3.out.2.1)))
        ((Upd.refl (fun k => k = blk bk2 a) w3.drew).setCell (p := ⟨blk bk2 a, 3, none⟩) (.inl rfl) _) (by
          have := setBlock (w := w3.drew) hra 3 (.bool v)
          rw [hv]
          exact this))
      have a2 := cellRow hra 2 (.string A.so) rfl
      have a3 := cellRow hra 3 (.bool A.mx) rfl
      have b2 := cellRow hrb 2 (.string B.so) rfl
      have b3 := cellRow hrb 3 (.bool B.mx) rfl
      have fa := fun i => frozenRow hra i
      have s1 := emp_dec A.so
      have s2 := emp_dec B.so
      have s3 := str_dc A.so B.so
      clear hra hrb
      cases hA : A.mx with
      | true =>
        rw [hA] at a3
        have HP := HP0 true (by unfold joinC; simp [hA])
        clear HP0 hA
        go_wp2_with fail
        refine region_quiet_tail 38 (by kernel_rfl) (by kernel_rfl) ?_
        simp only [List.take_succ_cons, List.take_zero, List.drop_succ_cons, List.drop_zero]
        repeat (go_big_quiet_step (fail))
        refine wpQuiet_nil ?_
        change wpList _ _ _ _ _ w3.drew
        go_wp2_with fail
        go_meet
        case rel => exact ⟨rfl, HP⟩
      | false =>
      rw [hA] at a3
      cases hB : B.mx with
      | true =>
        rw [hB] at b3
        have HP := HP0 true (by unfold joinC; simp [hA, hB])
        clear HP0 hA hB
        go_wp2_with fail
        refine region_quiet_tail 38 (by kernel_rfl) (by kernel_rfl) ?_
        simp only [List.take_succ_cons, List.take_zero, List.drop_succ_cons, List.drop_zero]
        repeat (go_big_quiet_step (fail))
        refine wpQuiet_nil ?_
        change wpList _ _ _ _ _ w3.drew
        go_wp2_with fail
        go_meet
        case rel => exact ⟨rfl, HP⟩
      | false =>
      rw [hB] at b3
      by_cases h1 : A.so = nul
      · rw [decide_eq_true h1] at s1
        have HP := HP0 false (by unfold joinC; simp [hA, hB, h1])
        clear HP0 hA hB h1
        go_wp2_with fail
        refine region_quiet_tail 38 (by kernel_rfl) (by kernel_rfl) ?_
        simp only [List.take_succ_cons, List.take_zero, List.drop_succ_cons, List.drop_zero]
        repeat (go_big_quiet_step (fail))
        refine wpQuiet_nil ?_
        change wpList _ _ _ _ _ w3.drew
        go_wp2_with fail
        go_meet
        case rel => exact ⟨rfl, HP⟩
      · rw [decide_eq_false h1] at s1
        by_cases h2 : B.so = nul
        · rw [decide_eq_true h2] at s2
          have HP := HP0 false (by unfold joinC; simp [hA, hB, h1, h2])
          clear HP0 hA hB h1 h2
          go_wp2_with fail
          refine region_quiet_tail 38 (by kernel_rfl) (by kernel_rfl) ?_
          simp only [List.take_succ_cons, List.take_zero, List.drop_succ_cons, List.drop_zero]
          repeat (go_big_quiet_step (fail))
          refine wpQuiet_nil ?_
          change wpList _ _ _ _ _ w3.drew
          go_wp2_with fail
          go_meet
          case rel => exact ⟨rfl, HP⟩
        · rw [decide_eq_false h2] at s2
          by_cases h3 : A.so = B.so
          · rw [decide_eq_true h3] at s3
            have HP := HP0 false (by unfold joinC; simp [hA, hB, h1, h2, h3])
            clear HP0 hA hB h1 h2 h3
            go_wp2_with fail
            refine region_quiet_tail 38 (by kernel_rfl) (by kernel_rfl) ?_
            simp only [List.take_succ_cons, List.take_zero, List.drop_succ_cons, List.drop_zero]
            repeat (go_big_quiet_step (fail))
            refine wpQuiet_nil ?_
            change wpList _ _ _ _ _ w3.drew
            go_wp2_with fail
            go_meet
            case rel => exact ⟨rfl, HP⟩
          · rw [decide_eq_false h3] at s3
            have HP := HP0 true (by unfold joinC; simp [hA, hB, h1, h2, h3])
            clear HP0 hA hB h1 h2 h3
            go_wp2_with fail
            refine region_quiet_tail 38 (by kernel_rfl) (by kernel_rfl) ?_
            simp only [List.take_succ_cons, List.take_zero, List.drop_succ_cons, List.drop_zero]
            repeat (go_big_quiet_step (fail))
            refine wpQuiet_nil ?_
            change wpList _ _ _ _ _ w3.drew
            go_wp2_with fail
            go_meet
            case rel => exact ⟨rfl, HP⟩
    case rest =>
      obtain ⟨rfl, HU6⟩ := hcut
      have HL6 : Hid ((setC st3 a { A with mx := (joinC A B).mx }).cs[a]? = some { A with mx := (joinC A B).mx } ∧ (setC st3 a { A with mx := (joinC A B).mx }).cs[b]? = some { B with up := some a } ∧ a < (setC st3 a { A with mx := (joinC A B).mx }).cs.length ∧ (∀ X, setC (setC st3 a { A with mx := (joinC A B).mx }) a X = setC st3 a X)) := Lib.hid (by
        refine ⟨?_, ?_, ?_, fun X => setC_setC _ _ _ _⟩
        · show (st3.cs.set a _)[a]? = _
          rw [List.getElem?_set, if_pos rfl, if_pos (by rw [H3.out.2.2.2]; exact HA'.out.1)]
        · show (st3.cs.set a _)[b]? = _
          rw [List.getElem?_set, if_neg e]
          exact H3.out.2.2.1
        · show a < (st3.cs.set a _).length
          rw [List.length_set, H3.out.2.2.2]
          exact HA'.out.1)
      obtain ⟨st6, hst6⟩ : ∃ x, setC st3 a { A with mx := (joinC A B).mx } = x := ⟨_, rfl⟩
      have HS6 := Lib.hid hst6
      rw [hst6] at HU6 HL6
      clear hst6 HU3
      rename_i K0 hK0
      refine hK0 _ _ ?_
      clear hK0
      apply wp_seq_k
      intro _ _
      go_cut [] (fun ww => Hid (Us' T ad S 121 108 bv bn ub bk bk2 (setC st3 a { joinC A B with tm := A.tm }) w ww))
      case first =>
        have hra := HU6.out.ur.us.row a _ HL6.out.1
        have hrb := HU6.out.ur.us.row b _ HL6.out.2.1
        have a1 := cellRow hra 1 (.string A.nm) rfl
        have a2 := cellRow hra 2 (.string A.so) rfl
        have b1 := cellRow hrb 1 (.string B.nm) rfl
        have b2 := cellRow hrb 2 (.string B.so) rfl
        have fa := fun i => frozenRow hra i
        have s1 := emp_dec A.nm
        have s2 := emp_dec B.nm
        have s3 := bless B.nm A.nm
        have HP8 : Hid ((A.nm = nul ∨ (B.nm ≠ nul ∧ blt B.nm A.nm = true)) → ∀ W, Ext wc W → Us' T ad S 121 108 bv bn ub bk bk2 (setC st3 a { joinC A B with tm := A.tm }) w ((W.setCell ⟨blk bk2 a, 1, none⟩ (.string B.nm)).setCell ⟨blk bk2 a, 2, none⟩ (.string B.so))) := Lib.hid (fun hj W hW => by
          have h1 := (HU6.out.ext hW).put HL6.out.2.2.1 { joinC A B with tm := A.tm } (show (∀ d, A.up = some d → d < st6.cs.length) ∧ (∀ i, A.tm = some i → i < T.length) from HU6.out.ur.us.clt { A with mx := (joinC A B).mx } (List.mem_of_getElem? HL6.out.1))
            (((Upd.refl (fun k => k = blk bk2 a) W).setCell (p := ⟨blk bk2 a, 1, none⟩) (.inl rfl) (.string B.nm)).setCell (p := ⟨blk bk2 a, 2, none⟩) (.inl rfl) (.string B.so)) (by
              have := setBlock (setBlock (hW.heap hra (fun h => h)) 1 (.string B.nm)) 2 (.string B.so)
              have e2 : clCells ad bk2 { joinC A B with tm := A.tm } = ((clCells ad bk2 { A with mx := (joinC A B).mx }).set! 1 (.string B.nm)).set! 2 (.string B.so) := by
                unfold joinC clCells
                rw [if_pos hj, if_pos hj]
                rfl
              rw [e2]
              simpa using this)
          rw [HL6.out.2.2.2] at h1
          exact h1)
        have HP9 : Hid (¬ (A.nm = nul ∨ (B.nm ≠ nul ∧ blt B.nm A.nm = true)) → setC st3 a { joinC A B with tm := A.tm } = st6) := Lib.hid (fun hj => by
          rw [← HS6.out]
          unfold joinC
          rw [if_neg hj, if_neg hj])
        clear hra hrb
        by_cases h1 : A.nm = nul
        · rw [decide_eq_true h1] at s1
          have HQ := Lib.hid (HP8.out (.inl h1))
          clear HP8 HP9 s2 s3 h1
          go_wp2_with fail
          go_quiet (fail)
          go_wp2_with fail
          go_region
          go_wp2_with fail
          go_meet
          case rel => exact Lib.hid (HQ.out _ ((Upd.refl _ wc).drewN' _))
        · rw [decide_eq_false h1] at s1
          by_cases h2 : B.nm = nul
          · rw [decide_eq_true h2] at s2
            have HQ := Lib.hid (HP9.out (fun h => h.elim h1 (fun h => h.1 h2)))
            clear HP8 HP9 s3 h1 h2
            go_wp2_with fail
            go_quiet (fail)
            go_wp2_with fail
            go_meet
            case rel =>
              rw [HQ.out]
              exact Lib.hid (HU6.out.ext ((Upd.refl _ wc).drewN' nq))
          · rw [decide_eq_false h2] at s2
            cases h3 : blt B.nm A.nm with
            | true =>
              rw [h3] at s3
              have HQ := Lib.hid (HP8.out (.inr ⟨h2, h3⟩))
              clear HP8 HP9 h1 h2 h3
              go_wp2_with fail
              go_quiet (fail)
              go_wp2_with fail
              go_region
              go_wp2_with fail
              go_meet
              case rel => exact Lib.hid (HQ.out _ ((Upd.refl _ wc).drewN' _))
            | false =>
              rw [h3] at s3
              have HQ := Lib.hid (HP9.out (fun h => h.elim h1 (fun h => by rw [h3] at h; cases h.2)))
              clear HP8 HP9 h1 h2 h3
              go_wp2_with fail
              go_quiet (fail)
              go_wp2_with fail
              go_meet
              case rel =>
                rw [HQ.out]
                exact Lib.hid (HU6.out.ext ((Upd.refl _ wc).drewN' nq))
      case rest =>
        have HU8 := hcut
        clear hcut HU6
        have HFIN : Hid (({ st2 with cs := (st2.cs.set b { B with up := some a }).set a (joinC A B) } : St) = setC st3 a (joinC A B)) := Lib.hid (by rw [← H3.out.1]; rfl)
        have hc := HC'.out
        rw [HFIN.out] at hc
        have HL8 : Hid ((setC st3 a { joinC A B with tm := A.tm }).cs[a]? = some { joinC A B with tm := A.tm } ∧ a < (setC st3 a { joinC A B with tm := A.tm }).cs.length ∧ (setC st3 a { joinC A B with tm := A.tm }).cs[b]? = some { B with up := some a } ∧ (∀ X, setC (setC st3 a { joinC A B with tm := A.tm }) a X = setC st3 a X)) := Lib.hid (by
          have hlen : a < st3.cs.length := by rw [H3.out.2.2.2]; exact HA'.out.1
          refine ⟨?_, ?_, ?_, fun X => setC_setC _ _ _ _⟩
          · show (st3.cs.set a _)[a]? = _
            rw [List.getElem?_set, if_pos rfl, if_pos hlen]
          · show a < (st3.cs.set a _).length
            rw [List.length_set]
            exact hlen
          · show (st3.cs.set a _)[b]? = _
            rw [List.getElem?_set, if_neg e]
            exact H3.out.2.2.1)
        obtain ⟨oa, hoa⟩ : ∃ o, A.tm = o := ⟨_, rfl⟩
        obtain ⟨ob, hob⟩ : ∃ o, B.tm = o := ⟨_, rfl⟩
        clear HC' HL6 HS6
        cases oa with
        | none =>
          cases ob with
          | none =>
            rw [hoa, hob] at hc
            simp only [Option.some.injEq, Prod.mk.injEq] at hc
            obtain ⟨rfl, rfl⟩ := hc
            have hra := HU8.out.ur.us.row a _ HL8.out.1
            have a4 := cellRow hra 4 (.pointer none) (by show some (pV (Option.map ad A.tm)) = _; rw [hoa]; rfl)
            have fa := fun i => frozenRow hra i
            have e9 : pV (Option.map ad A.tm) = .pointer none := by rw [hoa]; rfl
            have e10 : pV (Option.map ad B.tm) = .pointer none := by rw [hob]; rfl
            have HP : Hid (Us' T ad S 121 108 bv bn ub bk bk2 (setC st3 a (joinC A B)) w (wc.setCell ⟨blk bk2 a, 4, none⟩ (.pointer none))) := Lib.hid (by
              have h1 := HU8.out.put HL8.out.2.1 (joinC A B) ⟨(HU8.out.ur.us.clt _ (List.mem_of_getElem? HL8.out.1)).1, fun i hi => (HU8.out.ur.us.clt _ (List.mem_of_getElem? HL8.out.2.2.1)).2 i (by unfold joinC at hi; simp only [hoa] at hi; exact hi)⟩
                ((Upd.refl (fun k => k = blk bk2 a) wc).setCell (p := ⟨blk bk2 a, 4, none⟩) (.inl rfl) (.pointer none)) (by
                  have := setBlock hra 4 (.pointer none)
                  have e2 : clCells ad bk2 (joinC A B) = (clCells ad bk2 { joinC A B with tm := A.tm }).set! 4 (.pointer none) := by
                    have e3 : (joinC A B).tm = B.tm := by unfold joinC; simp only [hoa]
                    unfold clCells
                    rw [e3, e10]
                    rfl
                  rw [e2]
                  simpa using this)
              rw [HL8.out.2.2.2] at h1
              exact h1)
            rw [e9, e10]
            clear hra e9 e10 hoa hob
            go_wp2_with fail
            go_ret
            exact ⟨rfl, bk2, HP.out⟩
          | some y =>
            rw [hoa, hob] at hc
            simp only [Option.some.injEq, Prod.mk.injEq] at hc
            obtain ⟨rfl, rfl⟩ := hc
            have hra := HU8.out.ur.us.row a _ HL8.out.1
            have a4 := cellRow hra 4 (.pointer none) (by show some (pV (Option.map ad A.tm)) = _; rw [hoa]; rfl)
            have fa := fun i => frozenRow hra i
            have e9 : pV (Option.map ad A.tm) = .pointer none := by rw [hoa]; rfl
            have e10 : pV (Option.map ad B.tm) = adV (ad y) := by rw [hob]; rfl
            have HP : Hid (Us' T ad S 121 108 bv bn ub bk bk2 (setC st3 a (joinC A B)) w (wc.setCell ⟨blk bk2 a, 4, none⟩ (adV (ad y)))) := Lib.hid (by
              have h1 := HU8.out.put HL8.out.2.1 (joinC A B) ⟨(HU8.out.ur.us.clt _ (List.mem_of_getElem? HL8.out.1)).1, fun i hi => (HU8.out.ur.us.clt _ (List.mem_of_getElem? HL8.out.2.2.1)).2 i (by unfold joinC at hi; simp only [hoa] at hi; exact hi)⟩
                ((Upd.refl (fun k => k = blk bk2 a) wc).setCell (p := ⟨blk bk2 a, 4, none⟩) (.inl rfl) (adV (ad y))) (by
                  have := setBlock hra 4 (adV (ad y))
                  have e2 : clCells ad bk2 (joinC A B) = (clCells ad bk2 { joinC A B with tm := A.tm }).set! 4 (adV (ad y)) := by
                    have e3 : (joinC A B).tm = B.tm := by unfold joinC; simp only [hoa]
                    unfold clCells
                    rw [e3, e10]
                    rfl
                  rw [e2]
                  simpa using this)
              rw [HL8.out.2.2.2] at h1
              exact h1)
            rw [e9, e10]
            clear hra e9 e10 hoa hob
            go_wp2_with fail
            go_ret
            exact ⟨rfl, bk2, HP.out⟩
        | some x =>
          have hjt : ({ joinC A B with tm := A.tm } : Cl) = joinC A B := by unfold joinC; simp only [hoa]
          rw [hjt] at HU8
          have e9 : pV (Option.map ad A.tm) = .pointer (some ⟨(ad x).1, (ad x).2, none⟩) := by rw [hoa]; rfl
          have hxl : x < T.length := (HU8.out.ur.us.clt _ (List.mem_of_getElem? (show (setC st3 a (joinC A B)).cs[a]? = some (joinC A B) from by rw [← hjt]; exact HL8.out.1))).2 x (by rw [← hjt]; exact hoa)
          have hyl : ∀ y, ob = some y → y < T.length := fun y hy => (HU8.out.ur.us.clt _ (List.mem_of_getElem? (show (setC st3 a (joinC A B)).cs[b]? = some { B with up := some a } from by rw [← hjt]; exact HL8.out.2.2.1))).2 y (by show B.tm = some y; rw [hob, hy])
          clear hjt HL8
          cases ob with
          | none =>
            rw [hoa, hob] at hc
            simp only [Option.some.injEq, Prod.mk.injEq] at hc
            obtain ⟨rfl, rfl⟩ := hc
            have e10 : pV (Option.map ad B.tm) = .pointer none := by rw [hob]; rfl
            rw [e9, e10]
            clear e9 e10 hoa hob
            go_wp2_with fail
            go_ret
            exact ⟨rfl, bk2, HU8.out⟩
          | some y =>
            rw [hoa, hob] at hc
            simp only at hc
            have hyl := hyl y rfl
            have e10 : pV (Option.map ad B.tm) = .pointer (some ⟨(ad y).1, (ad y).2, none⟩) := by rw [hob]; rfl
            rw [e9, e10]
            clear e9 e10 hoa hob
            cases hX : T[x]? with
            | none => rw [List.getElem?_eq_getElem hxl] at hX; cases hX
            | some X =>
            cases hY : T[y]? with
            | none => rw [List.getElem?_eq_getElem hyl] at hY; cases hY
            | some Y =>
            rw [hX, hY] at hc
            simp only at hc
            have HXY := Lib.hid (And.intro hX hY)
            have hXB := hTB x X hX
            obtain ⟨x0, _, xa, xc, x2, _⟩ := HU8.out.ur.nd.row x X hX
            obtain ⟨y0, _, ya, yc, y2, _⟩ := HU8.out.ur.nd.row y Y hY
            have s3 := str_dc X.nm Y.nm
            clear hX hY hxl hyl
            by_cases h1 : X.nm = Y.nm
            · rw [decide_eq_true h1] at s3
              by_cases h2 : X.ks.length = Y.ks.length
              · rw [if_neg (by rintro (h | h); exact h h1; exact h h2)] at hc
                have z1 : decide (X.ks.length = Y.ks.length) = true := decide_eq_true h2
                have z2 : ((X.ks.length : Int) != (Y.ks.length : Int)) = false := by rw [h2]; simp
                have HC0 := Lib.hid hc
                have HLE := Lib.hid h2
                clear h1 hc h2
                go_wp2_with fail
                go_quiet (fail)
                have HU9 : Hid (Us' T ad S 121 108 bv bn ub bk bk2 (setC st3 a (joinC A B)) w (wc.drewN nq)) := Lib.hid (HU8.out.ext ((Upd.refl _ wc).drewN' nq))
                go_wp2_with fail
                clear s3 z1 z2 x0 x2 y0 y2
                generalize wc.drewN nq = w9 at *
                go_loopg [147] X.ks.length (fun gk iv wr => ∃ (k : Nat) (stk : St) (bkk : List Nat), iv = .int .i64 (k : Int) ∧ gk = X.ks.length - k ∧ k ≤ X.ks.length ∧ Hid (Us' T ad S 121 108 bv bn ub bk bkk stk w wr) ∧ Hid (unL (unF T F) stk (X.ks.drop k) (Y.ks.drop k) = some (st', ok)))
                case atStart => exact ⟨0, _, _, rfl, rfl, Nat.zero_le _, HU9, HC0⟩
                case round =>
                  clear HU9 HC0 HU8 HFIN H3
                  obtain ⟨k, stk, bkk, rfl, rfl, hk, HU, HCk⟩ := hrel
                  have hc := HCk.out
                  by_cases hlt : k < X.ks.length
                  · have hlt2 : k < Y.ks.length := by rw [← HLE.out]; exact hlt
                    obtain ⟨_, _, xa', xc', x2, hxk⟩ := HU.out.ur.nd.row x X HXY.out.1
                    obtain ⟨_, _, ya', yc', y2, hyk⟩ := HU.out.ur.nd.row y Y HXY.out.2
                    obtain ⟨xg, xo, rfl, hxk2⟩ := hxk (by omega)
                    obtain ⟨yg, yo, rfl, hyk2⟩ := hyk (by omega)
                    have hxa := (hxk2 k _ (List.getElem?_eq_getElem hlt)).2
                    have hya := (hyk2 k _ (List.getElem?_eq_getElem hlt2)).2
                    rw [List.drop_eq_getElem_cons hlt, List.drop_eq_getElem_cons hlt2] at hc
                    unfold unL at hc
                    cases hun : unF T F stk X.ks[k] Y.ks[k] with
                    | none => rw [hun] at hc; cases hc
                    | some q =>
                    obtain ⟨st1', ok1⟩ := q
                    rw [hun] at hc
                    have HI := Lib.hid (fun W (hW : Ext wr W) => HIH.out bkk stk st1' W X.ks[k] Y.ks[k] ok1 (HU.out.ur.ext hW) hun)
                    rw [hxa, hya] at HI
                    have z0 : (0 : Int) ≤ (k : Int) := by omega
                    have z1 : (k : Int) < (X.ks.length : Int) := by omega
                    have z1' : (k : Int) < (Y.ks.length : Int) := by omega
                    have z2 : decide ((k : Int) < (X.ks.length : Int)) = true := decide_eq_true z1
                    have z2' : decide (k < X.ks.length) = true := decide_eq_true hlt
                    have HC2 := Lib.hid hc
                    clear hxk hyk hxk2 hyk2 hxa hya hun hc
                    go_wp2_with fail
                    refine region_quiet_tail 13 (by kernel_rfl) (by kernel_rfl) ?_
                    simp only [List.take_succ_cons, List.take_zero, List.drop_succ_cons, List.drop_zero]
                    repeat (go_big_quiet_step (fail))
                    refine wpQuiet_nil ?_
                    change wpList _ _ _ _ _ wr.drew
                    go_wp2_with fail
                    refine (HI.out wr.drew (Upd.refl _ wr).drew).mono ?_
                    rintro e w5 ⟨rfl, bk5, hu5⟩
                    have HU5 := Lib.hid ((HU.out.ext (Upd.refl _ wr).drew).trans hu5)
                    have hc := HC2.out
                    clear hu5 HI HC2 x2 y2
                    cases ok1 with
                    | false =>
                      simp only [Option.some.injEq, Prod.mk.injEq] at hc
                      obtain ⟨rfl, rfl⟩ := hc
                      go_wp2_with fail
                      go_ret
                      exact ⟨rfl, bk5, HU5.out⟩
                    | true =>
                      simp only at hc
                      have HC3 := Lib.hid hc
                      clear hc
                      go_wp2_with fail
                      go_roundg (X.ks.length - (k + 1))
                      case measure => omega
                      case rel => exact ⟨k + 1, _, _, by go_num, rfl, by omega, HU5, HC3⟩
                  · obtain rfl : k = X.ks.length := by omega
                    have z2 : decide ((X.ks.length : Int) < (X.ks.length : Int)) = false := decide_eq_false (by omega)
                    rw [List.drop_length] at hc
                    have hun : ∀ ys, unL (unF T F) stk [] ys = some (stk, true) := fun ys => by unfold unL; rfl
                    rw [hun] at hc
                    simp only [Option.some.injEq, Prod.mk.injEq] at hc
                    obtain ⟨rfl, rfl⟩ := hc
                    clear hun
                    go_wp2_with fail
                    go_ret
                    exact ⟨rfl, bkk, HU.out⟩
              · rw [if_pos (.inr h2)] at hc
                have z1 : decide (X.ks.length = Y.ks.length) = false := decide_eq_false h2
                have z2 : ((X.ks.length : Int) != (Y.ks.length : Int)) = true := by rw [bne_iff_ne]; intro h; exact h2 (by omega)
                clear h1 h2
                simp only [Option.some.injEq, Prod.mk.injEq] at hc
                obtain ⟨rfl, rfl⟩ := hc
                go_wp2_with fail
                go_quiet (fail)
                go_wp2_with fail
                go_ret
                exact ⟨rfl, bk2, HU8.out.ext ((Upd.refl _ wc).drewN' nq)⟩
            · rw [decide_eq_false h1] at s3
              rw [if_pos (.inl h1)] at hc
              clear h1
              simp only [Option.some.injEq, Prod.mk.injEq] at hc
              obtain ⟨rfl, rfl⟩ := hc
              go_wp2_with fail
              go_quiet (fail)
              go_wp2_with fail
              go_ret
              exact ⟨rfl, bk2, HU8.out.ext ((Upd.refl _ wc).drewN' nq)⟩

end Go.Proofs.YtlkcjmaiahnodaaGreatDoor

/- The search for cycles. -/
namespace Go.Proofs.YtlkcjmaiahnodaaGreatDoor
open Go.RowKit Go.Hw Go
set_option linter.unusedVariables false
set_option linter.unusedSimpArgs false

open Tm
set_option maxRecDepth 100000 in
set_option maxHeartbeats 2000000 in
theorem acy_x {T : List Nr} {ad : Nat → Nat × Nat} {S : Nat → Prop} {bv bn ub : Nat} (hTB : ∀ (i : Nat) (r : Nr), T[i]? = some r → r.ks.length ≤ 1000000) (F : Nat) : ∀ (bk : List Nat) (st st' : St) (w : World) (c : Nat) (ok : Bool), Ur T ad S 121 108 bv bn ub bk st w → acG T F st c = some (st', ok) →
    Calls Tryz.prog 72 #[blV ub, blV (blk bk c)] w fun e w' => e = .returned (.bool ok) ∧ ∃ bk', Us' T ad S 121 108 bv bn ub bk bk' st' w w' := by
  induction F with
  | zero => intro bk st st' w c ok _ h; cases h
  | succ F ih =>
  intro bk st st' w c ok hm hc
  have HIH := Lib.hid ih
  unfold acG at hc
  cases hx : st.cs[c]? with
  | none => rw [hx] at hc; cases hc
  | some C =>
  rw [hx] at hc
  simp only at hc
  have HM := Lib.hid hm
  have HX := Lib.hid hx
  have hr := hm.us.row c C hx
  have HCL : Hid (c < st.cs.length) := Lib.hid (List.getElem?_eq_some_iff.1 hx).1
  have c3 := cellRow hr 3 (.bool C.mx) rfl
  have c5 := cellRow hr 5 (.int .i64 (C.ma : Int)) rfl
  have c6 := cellRow hr 6 (.int .i64 (C.sz : Int)) rfl
  have c7 := cellRow hr 7 (.int .i64 (C.dp : Int)) rfl
  have fc := fun i => frozenRow hr i
  clear ih hm
  by_cases m1 : C.ma = 1
  · rw [if_pos m1] at hc
    have z1 : ((C.ma : Int) == 1) = true := by rw [m1]; rfl
    clear hr hx c6 c7 m1
    go_enter Tryz.func72, Tryz.ntmps72
    simp only [Option.some.injEq, Prod.mk.injEq] at hc
    obtain ⟨rfl, rfl⟩ := hc
    go_wp2_with fail
    go_ret
    exact ⟨rfl, bk, Us'.refl HM.out⟩
  · rw [if_neg m1] at hc
    have z1 : ((C.ma : Int) == 1) = false := by rw [beq_eq_false_iff_ne]; omega
    obtain ⟨ot, hot⟩ : ∃ o, C.tm = o := ⟨_, rfl⟩
    obtain ⟨D0, hD0⟩ : ∃ D, D = ({ C with ma := 1, sz := 1, dp := 1 } : Cl) := ⟨_, rfl⟩
    obtain ⟨D2, hD2⟩ : ∃ D, D = ({ C with ma := 2, sz := 1, dp := 1 } : Cl) := ⟨_, rfl⟩
    rw [← hD0, ← hD2, hot] at hc
    rw [hD0, hD2] at hc
    clear hD0 hD2
    cases ot with
    | none =>
      simp only at hc
      have c4 := cellRow hr 4 (.pointer none) (by show some (pV (Option.map ad C.tm)) = _; rw [hot]; rfl)
      by_cases hmx : C.mx = true
      · rw [if_pos hmx] at hc
        rw [hmx] at c3
        clear hr hx c6 c7 m1 hot hmx
        go_enter Tryz.func72, Tryz.ntmps72
        simp only [Option.some.injEq, Prod.mk.injEq] at hc
        obtain ⟨rfl, rfl⟩ := hc
        go_wp2_with fail
        go_ret
        exact ⟨rfl, bk, Us'.refl HM.out⟩
      · rw [if_neg hmx] at hc
        have hmx' : C.mx = false := by cases h : C.mx with | true => exact absurd h hmx | false => rfl
        rw [hmx'] at c3
        by_cases m2 : C.ma = 2
        · rw [if_pos m2] at hc
          have z2 : ((C.ma : Int) == 2) = true := by rw [m2]; rfl
          clear hr hx c6 c7 m1 hot m2 hmx hmx'
          go_enter Tryz.func72, Tryz.ntmps72
          simp only [Option.some.injEq, Prod.mk.injEq] at hc
          obtain ⟨rfl, rfl⟩ := hc
          go_wp2_with fail
          go_ret
          exact ⟨rfl, bk, Us'.refl HM.out⟩
        · rw [if_neg m2] at hc
          have z2 : ((C.ma : Int) == 2) = false := by rw [beq_eq_false_iff_ne]; omega
          simp only [Option.some.injEq, Prod.mk.injEq] at hc
          obtain ⟨rfl, rfl⟩ := hc
          have HU0 : Hid (Us' T ad S 121 108 bv bn ub bk bk (setC st c { C with ma := 1, sz := 1, dp := 1 }) w (((w.setCell ⟨blk bk c, 5, none⟩ (.int .i64 1)).setCell ⟨blk bk c, 6, none⟩ (.int .i64 1)).setCell ⟨blk bk c, 7, none⟩ (.int .i64 1))) := Lib.hid ((Us'.refl HM.out).put HCL.out { C with ma := 1, sz := 1, dp := 1 } (HM.out.us.clt C (List.mem_of_getElem? HX.out))
            ((((Upd.refl (fun k => k = blk bk c) w).setCell (p := ⟨blk bk c, 5, none⟩) (.inl rfl) (.int .i64 1)).setCell (p := ⟨blk bk c, 6, none⟩) (.inl rfl) (.int .i64 1)).setCell (p := ⟨blk bk c, 7, none⟩) (.inl rfl) (.int .i64 1)) (by
              have := setBlock (setBlock (setBlock (HM.out.us.row c C HX.out) 5 (.int .i64 1)) 6 (.int .i64 1)) 7 (.int .i64 1)
              simpa [clCells] using this))
          have HL0 := Lib.hid (setC_at st HCL.out { C with ma := 1, sz := 1, dp := 1 })
          have HU1 : Hid (Us' T ad S 121 108 bv bn ub bk bk (setC st c { C with ma := 2, sz := 1, dp := 1 }) w ((((w.setCell ⟨blk bk c, 5, none⟩ (.int .i64 1)).setCell ⟨blk bk c, 6, none⟩ (.int .i64 1)).setCell ⟨blk bk c, 7, none⟩ (.int .i64 1)).setCell ⟨blk bk c, 5, none⟩ (.int .i64 2))) := Lib.hid (by
            have h1 := HU0.out.put (by rw [setC_len]; exact HCL.out) { C with ma := 2, sz := 1, dp := 1 } (HU0.out.ur.us.clt { C with ma := 1, sz := 1, dp := 1 } (List.mem_of_getElem? HL0.out))
              ((Upd.refl (fun k => k = blk bk c) _).setCell (p := ⟨blk bk c, 5, none⟩) (.inl rfl) (.int .i64 2)) (by
                have := setBlock (HU0.out.ur.us.row c _ HL0.out) 5 (.int .i64 2)
                simpa [clCells] using this)
            rw [setC_setC] at h1
            exact h1)
          clear hr hx m1 hot m2 hmx hmx' HU0 HL0
          go_enter Tryz.func72, Tryz.ntmps72
          go_wp2_with fail
          go_ret
          exact ⟨rfl, bk, HU1.out⟩
    | some x =>
      simp only at hc
      have c4 := cellRow hr 4 (.pointer (some ⟨(ad x).1, (ad x).2, none⟩)) (by show some (pV (Option.map ad C.tm)) = _; rw [hot]; rfl)
      by_cases m2 : C.ma = 2
      · rw [if_pos m2] at hc
        have z2 : ((C.ma : Int) == 2) = true := by rw [m2]; rfl
        clear hr hx c6 c7 m1 hot m2
        go_enter Tryz.func72, Tryz.ntmps72
        simp only [Option.some.injEq, Prod.mk.injEq] at hc
        obtain ⟨rfl, rfl⟩ := hc
        go_wp2_with fail
        go_ret
        exact ⟨rfl, bk, Us'.refl HM.out⟩
      · rw [if_neg m2] at hc
        have z2 : ((C.ma : Int) == 2) = false := by rw [beq_eq_false_iff_ne]; omega
        cases hX : T[x]? with
        | none => rw [hX] at hc; cases hc
        | some X =>
        rw [hX] at hc
        simp only at hc
        cases hK : acK T F (acG T F) c x (setC st c { C with ma := 1, sz := 1, dp := 1 }) X.ks with
        | none => rw [hK] at hc; cases hc
        | some q =>
        obtain ⟨s1, b1⟩ := q
        rw [hK] at hc
        have HC0 := Lib.hid hc
        have HK0 := Lib.hid hK
        have HXX := Lib.hid hX
        have hXB := hTB x X hX
        have HU0 : Hid (Us' T ad S 121 108 bv bn ub bk bk (setC st c { C with ma := 1, sz := 1, dp := 1 }) w (((w.setCell ⟨blk bk c, 5, none⟩ (.int .i64 1)).setCell ⟨blk bk c, 6, none⟩ (.int .i64 1)).setCell ⟨blk bk c, 7, none⟩ (.int .i64 1))) := Lib.hid ((Us'.refl HM.out).put HCL.out { C with ma := 1, sz := 1, dp := 1 } (HM.out.us.clt C (List.mem_of_getElem? HX.out))
          ((((Upd.refl (fun k => k = blk bk c) w).setCell (p := ⟨blk bk c, 5, none⟩) (.inl rfl) (.int .i64 1)).setCell (p := ⟨blk bk c, 6, none⟩) (.inl rfl) (.int .i64 1)).setCell (p := ⟨blk bk c, 7, none⟩) (.inl rfl) (.int .i64 1)) (by
            have := setBlock (setBlock (setBlock (HM.out.us.row c C HX.out) 5 (.int .i64 1)) 6 (.int .i64 1)) 7 (.int .i64 1)
            simpa [clCells] using this))
        obtain ⟨x0, _, xa, xc, x2, _⟩ := HU0.out.ur.nd.row x X hX
        have c4' : (((w.setCell ⟨blk bk c, 5, none⟩ (.int .i64 1)).setCell ⟨blk bk c, 6, none⟩ (.int .i64 1)).setCell ⟨blk bk c, 7, none⟩ (.int .i64 1)).cell? ⟨blk bk c, 4, none⟩ = some (.pointer (some ⟨(ad x).1, (ad x).2, none⟩)) := cellRow (HU0.out.ur.us.row c _ (setC_at st HCL.out { C with ma := 1, sz := 1, dp := 1 })) 4 _ (by show some (pV (Option.map ad C.tm)) = _; rw [hot]; rfl)
        clear hr hx m1 hot m2 hX hK hc x0
        go_enter Tryz.func72, Tryz.ntmps72
        go_upto_region 6 with fail
        generalize (((w.setCell ⟨blk bk c, 5, none⟩ (.int .i64 1)).setCell ⟨blk bk c, 6, none⟩ (.int .i64 1)).setCell ⟨blk bk c, 7, none⟩ (.int .i64 1)) = w3 at *
        clear c3 c4 c5 c6 c7 fc z1 z2
        go_wp2_with fail
        clear c4' x2
        go_loopg [54] X.ks.length (fun gk iv wr => ∃ (k : Nat) (stk : St) (bkk : List Nat), iv = .int .i64 (k : Int) ∧ gk = X.ks.length - k ∧ k ≤ X.ks.length ∧ Hid (Us' T ad S 121 108 bv bn ub bk bkk stk w wr) ∧ Hid (acK T F (acG T F) c x stk (X.ks.drop k) = some (s1, b1)))
        case atStart => exact ⟨0, _, _, rfl, rfl, Nat.zero_le _, HU0, HK0⟩
        case round =>
          clear HU0 HK0
          obtain ⟨k, stk, bkk, rfl, rfl, hk, HU, HCk⟩ := hrel
          have hc := HCk.out
          have hcb : c < bk.length := by rw [HM.out.us.len]; exact HCL.out
          have hbc := pre_blk HU.out.pre hcb
          by_cases hlt : k < X.ks.length
          · rw [List.drop_eq_getElem_cons hlt] at hc
            unfold acK at hc
            by_cases hg : (stk.cs[c]?.map (·.tm)) = some (some x)
            rotate_left
            · rw [if_neg hg] at hc; cases hc
            rw [if_pos hg] at hc
            obtain ⟨Ck, hCk, hCt⟩ := Option.map_eq_some_iff.1 hg
            cases hcl : classF T F stk X.ks[k] with
            | none => rw [hcl] at hc; cases hc
            | some q =>
            obtain ⟨st1, y⟩ := q
            rw [hcl] at hc
            simp only at hc
            cases hac : acG T F st1 y with
            | none => rw [hac] at hc; cases hc
            | some q =>
            obtain ⟨st2, b2⟩ := q
            rw [hac] at hc
            have HC2 := Lib.hid hc
            have HCLF := Lib.hid hcl
            have HAC := Lib.hid hac
            have hr := HU.out.ur.us.row c Ck hCk
            rw [hbc] at hr
            have c4 := cellRow hr 4 (.pointer (some ⟨(ad x).1, (ad x).2, none⟩)) (by show some (pV (Option.map ad Ck.tm)) = _; rw [hCt]; rfl)
            obtain ⟨_, _, xa', xc', x2, hxk⟩ := HU.out.ur.nd.row x X HXX.out
            obtain ⟨xg, xo, rfl, hxk2⟩ := hxk (by omega)
            have hxa := (hxk2 k _ (List.getElem?_eq_getElem hlt)).2
            have HCLS := Lib.hid (cls_x F X.ks[k] y HU.out.ur hcl)
            rw [hxa] at HCLS
            have z0 : (0 : Int) ≤ (k : Int) := by omega
            have z1 : (k : Int) < (X.ks.length : Int) := by omega
            have z2 : decide ((k : Int) < (X.ks.length : Int)) = true := decide_eq_true z1
            have z2' : decide (k < X.ks.length) = true := decide_eq_true hlt
            clear hxk hxk2 hxa hcl hac hc hg hCk hCt hr hbc
            go_wp2_with fail
            refine HCLS.out.mono ?_
            rintro e w5 ⟨bk5, rfl, hu5⟩
            have HU5 := Lib.hid (HU.out.trans hu5)
            have HI := Lib.hid (HIH.out bk5 st1 st2 w5 y b2 HU5.out.ur HAC.out)
            clear hu5 c4 x2 HCLS
            go_wp2_with fail
            refine HI.out.mono ?_
            rintro e w6 ⟨rfl, bk6, hu6⟩
            have HU6 := Lib.hid (HU5.out.trans hu6)
            have hc := HC2.out
            cases b2 with
            | false =>
              simp only [Option.some.injEq, Prod.mk.injEq] at hc
              obtain ⟨rfl, rfl⟩ := hc
              have hc := HC0.out
              simp only [Option.some.injEq, Prod.mk.injEq] at hc
              obtain ⟨rfl, rfl⟩ := hc
              clear hu6 HI
              go_wp2_with fail
              go_ret
              exact ⟨rfl, bk6, HU6.out⟩
            | true =>
              simp only at hc
              cases hq1 : st2.cs[c]? with
              | none => rw [hq1] at hc; cases hc
              | some C2 =>
              cases hq2 : st2.cs[y]? with
              | none => rw [hq1, hq2] at hc; cases hc
              | some Y2 =>
              rw [hq1, hq2] at hc
              simp only at hc
              by_cases hg : C2.sz ≤ 2000 ∧ Y2.sz ≤ 2000 ∧ C2.dp ≤ 2000 ∧ Y2.dp ≤ 2000
              rotate_left
              · rw [if_neg hg] at hc; cases hc
              rw [if_pos hg] at hc
              obtain ⟨g1, g2, g3, g4⟩ := hg
              have HC3 := Lib.hid hc
              have hy5 : y < bk5.length := by
                obtain ⟨z, hz, _⟩ := classF_some HCLF.out
                rw [HU5.out.ur.us.len]
                exact (List.getElem?_eq_some_iff.1 hz).1
              have hby := pre_blk hu6.pre hy5
              have hbc := pre_blk HU6.out.pre hcb
              have hr := HU6.out.ur.us.row c C2 hq1
              have hy := HU6.out.ur.us.row y Y2 hq2
              have HR6 := Lib.hid hr
              rw [hbc] at hr
              rw [hby] at hy
              have c6 := cellRow hr 6 (.int .i64 (C2.sz : Int)) rfl
              have c7 := cellRow hr 7 (.int .i64 (C2.dp : Int)) rfl
              have fc := fun i => frozenRow hr i
              have y6 := cellRow hy 6 (.int .i64 (Y2.sz : Int)) rfl
              have y7 := cellRow hy 7 (.int .i64 (Y2.dp : Int)) rfl
              have e1 : ((min (C2.sz + Y2.sz) 1001 : Nat) : Int) = min ((C2.sz : Int) + (Y2.sz : Int)) 1001 := by omega
              have e2 : ((min (max C2.dp (Y2.dp + 1)) 61 : Nat) : Int) = min (max (C2.dp : Int) ((Y2.dp : Int) + 1)) 61 := by omega
              have HP : Hid (∀ W, Ext w6 W → Us' T ad S 121 108 bv bn ub bk bk6 (setC st2 c { C2 with sz := min (C2.sz + Y2.sz) 1001, dp := min (max C2.dp (Y2.dp + 1)) 61 }) w ((W.setCell ⟨blk bk c, 6, none⟩ (.int .i64 (min ((C2.sz : Int) + (Y2.sz : Int)) 1001))).setCell ⟨blk bk c, 7, none⟩ (.int .i64 (min (max (C2.dp : Int) ((Y2.dp : Int) + 1)) 61)))) := Lib.hid (fun W hW => by
                rw [← hbc]
                exact (HU6.out.ext hW).put (List.getElem?_eq_some_iff.1 hq1).1 { C2 with sz := min (C2.sz + Y2.sz) 1001, dp := min (max C2.dp (Y2.dp + 1)) 61 } (HU6.out.ur.us.clt C2 (List.mem_of_getElem? hq1))
                  (((Upd.refl (fun k => k = blk bk6 c) W).setCell (p := ⟨blk bk6 c, 6, none⟩) (.inl rfl) (.int .i64 (min ((C2.sz : Int) + (Y2.sz : Int)) 1001))).setCell (p := ⟨blk bk6 c, 7, none⟩) (.inl rfl) (.int .i64 (min (max (C2.dp : Int) ((Y2.dp : Int) + 1)) 61))) (by
                    have := setBlock (setBlock (hW.heap HR6.out (fun h => h)) 6 (.int .i64 (min ((C2.sz : Int) + (Y2.sz : Int)) 1001))) 7 (.int .i64 (min (max (C2.dp : Int) ((Y2.dp : Int) + 1)) 61))
                    unfold clCells at this ⊢
                    rw [e1, e2]
                    simpa using this))
              clear hu6 HI hr hy hc hq1 hq2 hy5 hby hbc e1 e2
              go_wp2_with fail
              go_region
              go_wp2_with fail
              go_roundg (X.ks.length - (k + 1))
              case measure => omega
              case rel => exact ⟨k + 1, _, _, by go_num, rfl, by omega, Lib.hid ((HP.out _ (Upd.refl _ w6)).ext (Upd.refl _ _).drew), HC3⟩
          · obtain rfl : k = X.ks.length := by omega
            have z2 : decide ((X.ks.length : Int) < (X.ks.length : Int)) = false := decide_eq_false (by omega)
            rw [List.drop_length] at hc
            unfold acK at hc
            simp only [Option.some.injEq, Prod.mk.injEq] at hc
            obtain ⟨rfl, rfl⟩ := hc
            have hc := HC0.out
            simp only at hc
            cases hq1 : stk.cs[c]? with
            | none => rw [hq1] at hc; cases hc
            | some C2 =>
            rw [hq1] at hc
            simp only [Option.some.injEq, Prod.mk.injEq] at hc
            obtain ⟨rfl, rfl⟩ := hc
            have hr := HU.out.ur.us.row c C2 hq1
            have HR6 := Lib.hid hr
            rw [hbc] at hr
            have c5 := cellRow hr 5 (.int .i64 (C2.ma : Int)) rfl
            have fc := fun i => frozenRow hr i
            have HP : Hid (Us' T ad S 121 108 bv bn ub bk bkk (setC stk c { C2 with ma := 2 }) w (wr.setCell ⟨blk bk c, 5, none⟩ (.int .i64 2))) := Lib.hid (by
              rw [← hbc]
              exact HU.out.put (List.getElem?_eq_some_iff.1 hq1).1 { C2 with ma := 2 } (HU.out.ur.us.clt C2 (List.mem_of_getElem? hq1))
                ((Upd.refl (fun k => k = blk bkk c) wr).setCell (p := ⟨blk bkk c, 5, none⟩) (.inl rfl) (.int .i64 2)) (by
                  have := setBlock HR6.out 5 (.int .i64 2)
                  simpa [clCells] using this))
            clear hr hq1 hbc
            go_wp2_with fail
            go_ret
            exact ⟨rfl, bkk, HP.out⟩

end Go.Proofs.YtlkcjmaiahnodaaGreatDoor

/- The value of a class. -/
namespace Go.Proofs.YtlkcjmaiahnodaaGreatDoor
open Go.RowKit Go.Hw Go
set_option linter.unusedVariables false
set_option linter.unusedSimpArgs false

open Tm
set_option maxRecDepth 100000 in
set_option maxHeartbeats 2000000 in
theorem val_x {T : List Nr} {ad : Nat → Nat × Nat} {S : Nat → Prop} {bv bn ub : Nat} {st : St} {bk : List Nat} (hTB : ∀ (i : Nat) (r : Nr), T[i]? = some r → r.ks.length ≤ 1000000) (F : Nat) : ∀ (w : World) (c : Nat) (t : Tm), Ur T ad S 121 108 bv bn ub bk st w → vaG T st F c = some t →
    Calls Tryz.prog 74 #[blV ub, blV (blk bk c)] w fun e w' => ∃ r B, e = .returned (tV t r) ∧ TlO 24 w' B t.kids r ∧ (∀ j, B j → w.heap.size ≤ j ∧ j < w'.heap.size) ∧ Ext w w' := by
  induction F with
  | zero => intro w c t _ h; cases h
  | succ F ih =>
  intro w c t hm hc
  have HIH := Lib.hid ih
  unfold vaG at hc
  cases hx : st.cs[c]? with
  | none => rw [hx] at hc; cases hc
  | some C =>
  rw [hx] at hc
  simp only at hc
  have HM := Lib.hid hm
  have hm2 := hm
  have HX := Lib.hid hx
  have hr := hm.us.row c C hx
  obtain ⟨ot, hot⟩ : ∃ o, C.tm = o := ⟨_, rfl⟩
  rw [hot] at hc
  have hE0 := ((Upd.refl (fun _ => False) w).alloc (.cells #[.string ⟨#[]⟩, .string ⟨#[]⟩, .slice none 0 0] 24))
  have hb2 := alloc0 w (.cells #[.string ⟨#[]⟩, .string ⟨#[]⟩, .slice none 0 0] 24)
  clear ih hm
  cases ot with
  | none =>
    simp only [Option.some.injEq] at hc
    subst hc
    have hr := hE0.heap hr (fun h => h)
    have c1 := cellRow hr 1 (.string C.nm) rfl
    have c2 := cellRow hr 2 (.string C.so) rfl
    have c4 := cellRow hr 4 (.pointer none) (by show some (pV (Option.map ad C.tm)) = _; rw [hot]; rfl)
    have d0 := cellRow hb2 0 (.string ⟨#[]⟩) rfl
    have d1 := cellRow hb2 1 (.string ⟨#[]⟩) rfl
    have d2 := cellRow hb2 2 (.slice none 0 0) rfl
    have f2 := fun i => frozenRow hb2 i
    have HE0 := Lib.hid hE0
    have HB2 := Lib.hid hb2
    clear hr hx hot hE0 hb2 hm2
    go_enter Tryz.func74, Tryz.ntmps74
    go_upto_region 1 with fail
    generalize w.alloc (.cells #[.string ⟨#[]⟩, .string ⟨#[]⟩, .slice none 0 0] 24) = w1 at *
    go_wp2_with fail
    go_region
    go_wp2_with fail
    have hr3 := st3_heap HB2.out (.string C.nm) (.string C.so) (.slice none 0 0)
    have hu := st3_upd' w1 w.heap.size (.string C.nm) (.string C.so) (.slice none 0 0)
    have e0 := cellRow hr3 0 _ rfl
    have e1 := cellRow hr3 1 _ rfl
    have e2 := cellRow hr3 2 _ rfl
    refine bodyPost_ret (v := .agg #[.string C.nm, .string C.so, .slice none 0 0]) (by simp [results, Tryz.results74, go_sem, e0, e1, e2]) rfl ⟨.slice none 0 0, fun _ => False, rfl, TlO.nil _ _ _, fun j hj => hj.elim, (HE0.out.trans' hu (fun j hj e => by omega)).drew⟩
  | some x =>
    simp only at hc
    cases hX : T[x]? with
    | none => rw [hX] at hc; cases hc
    | some X =>
    rw [hX] at hc
    simp only at hc
    cases hK : vaK T F st (vaG T st F) c x X.ks with
    | none => rw [hK] at hc; cases hc
    | some L =>
    rw [hK] at hc
    simp only [Option.map_some, Option.some.injEq] at hc
    subst hc
    have HK := Lib.hid hK
    have HXX := Lib.hid hX
    have hXB := hTB x X hX
    have hLL := vaK_len hK
    have HCT := Lib.hid hot
    have hr := hE0.heap hr (fun h => h)
    obtain ⟨x0, _, xa, xc, x2, _⟩ := (hm2.ext hE0).nd.row x X hX
    have c4 := cellRow hr 4 (.pointer (some ⟨(ad x).1, (ad x).2, none⟩)) (by show some (pV (Option.map ad C.tm)) = _; rw [hot]; rfl)
    have HE0 := Lib.hid hE0
    have HB2 := Lib.hid hb2
    clear hr hx hot hE0 hb2 hK hX hm2
    go_enter Tryz.func74, Tryz.ntmps74
    go_upto_region 3 with fail
    generalize hw1 : w.alloc (.cells #[.string ⟨#[]⟩, .string ⟨#[]⟩, .slice none 0 0] 24) = w1 at *
    obtain ⟨n3, hn3⟩ : ∃ n3, w1.heap.size = n3 := ⟨_, rfl⟩
    have HN3 : Hid (w.heap.size + 1 = n3) := Lib.hid (by rw [← hn3, ← hw1]; simp)
    have hx3 := (Upd.refl (fun _ => False) w1).alloc (.cells #[.string X.nm, .string ⟨#[]⟩, .slice none 0 0] 24)
    have hb3 := alloc0 w1 (.cells #[.string X.nm, .string ⟨#[]⟩, .slice none 0 0] 24)
    have hb2' := allocOld HB2.out (.cells #[.string X.nm, .string ⟨#[]⟩, .slice none 0 0] 24)
    have x2' := hx3.cell x2 (fun h => h)
    have c4' := hx3.cell c4 (fun h => h)
    have HX3 := Lib.hid (HE0.out.trans hx3)
    clear hw1
    go_wp2_with fail
    generalize hW0 : w1.alloc (.cells #[.string X.nm, .string ⟨#[]⟩, .slice none 0 0] 24) = W0 at *
    have HSW0 : Hid (w.heap.size + 2 ≤ W0.heap.size) := Lib.hid (by have h1 := HN3.out; rw [← hW0, World.size_alloc]; omega)
    have HJ0 : Hid (CpJ 24 (w.heap.size + 2) W0 L (.slice none 0 0) [] (fun _ _ => False) 0) := Lib.hid ⟨rfl, ⟨rfl, .inl ⟨rfl, rfl⟩⟩, fun i hi => absurd hi (Nat.not_lt_zero _), fun i j hi => absurd hi (Nat.not_lt_zero _), fun i i' j hi => absurd hi (Nat.not_lt_zero _)⟩
    rw [hn3] at hb3
    have HB20 := Lib.hid hb2'
    have HB30 := Lib.hid hb3
    have HLL := Lib.hid hLL
    clear hW0 hb3 hb2' x2' c4' hn3 hx3 HB2 HE0 x2 c4 hLL x0
    go_loopg [37] X.ks.length (fun gk iv wr => ∃ (k : Nat) (lv : Value) (us : List Value) (Bk : Nat → Nat → Prop), iv = .int .i64 (k : Int) ∧ gk = X.ks.length - k ∧ k ≤ X.ks.length ∧ Hid (CpJ 24 (w.heap.size + 2) wr L lv us Bk k) ∧ Hid (wr.heap[w.heap.size]? = some (.cells #[.string ⟨#[]⟩, .string ⟨#[]⟩, .slice none 0 0] 24 (0, 0))) ∧ Hid (wr.heap[n3]? = some (.cells #[.string X.nm, .string ⟨#[]⟩, lv] 24 (0, 0))) ∧ Hid (Ext w wr) ∧ Hid (w.heap.size + 2 ≤ wr.heap.size))
    case atStart => exact ⟨0, _, _, _, rfl, rfl, Nat.zero_le _, HJ0, HB20, HB30, HX3, HSW0⟩
    case round =>
      clear HJ0 HB20 HB30 HX3 HSW0
      obtain ⟨k, lv, us, Bk, rfl, rfl, hk, HJ, HB2, HB3, HE, HSZ⟩ := hrel
      obtain ⟨la, lc, hlv⟩ := own_shape HJ.out.own
      subst hlv
      by_cases hlt : k < X.ks.length
      · obtain ⟨hf, s1, y, hcl, hva⟩ := vaK_at HK.out k hlt
        have hr := HE.out.heap (HM.out.us.row c C HX.out) (fun h => h)
        have c4 := cellRow hr 4 (.pointer (some ⟨(ad x).1, (ad x).2, none⟩)) (by show some (pV (Option.map ad C.tm)) = _; rw [HCT.out]; rfl)
        obtain ⟨_, _, xa', xc', x2, hxk⟩ := (HM.out.ext HE.out).nd.row x X HXX.out
        obtain ⟨xg, xo, rfl, hxk2⟩ := hxk (by omega)
        have hxa := (hxk2 k _ (List.getElem?_eq_getElem hlt)).2
        have HCLS := Lib.hid (cls_same F X.ks[k] y (HM.out.ext HE.out.drew) hf hcl).2
        rw [hxa] at HCLS
        have HI := Lib.hid (fun W (hW : Ext wr W) => HIH.out W y (tg L k) (HM.out.ext (HE.out.trans hW)) hva)
        obtain ⟨z, hz⟩ : ∃ z, tg L k = z := ⟨_, rfl⟩
        have HZ := Lib.hid hz
        rw [hz] at HI
        have z0 : (0 : Int) ≤ (k : Int) := by omega
        have z1 : (k : Int) < (X.ks.length : Int) := by omega
        have z2 : decide ((k : Int) < (X.ks.length : Int)) = true := decide_eq_true z1
        have z2' : decide (k < X.ks.length) = true := decide_eq_true hlt
        have c2 := cellRow HB3.out 2 (.slice la k lc) rfl
        have HRN : Hid (¬ (Value.slice la k lc).ownBlock = some n3) := Lib.hid (fun e => by have h1 := (HJ.out.own.lt n3 e).1; have := HN3.out; omega)
        have HKB : Hid (k ≤ 1000000) := Lib.hid (by omega)
        have HWR : Hid (Ext wr wr) := Lib.hid (Upd.refl _ _)
        obtain ⟨iT, hi, hz0, hz1, hz2⟩ := info_parts infoT
        clear hxk hxk2 hxa hf hcl hva hr hz
        go_wp2_with fail
        go_region_law (first
          | (refine step_append_at _ (.tmp 41) (.tmp 55) 22 rfl (w.heap.size + 2) 24 iT (.agg #[.string ⟨#[]⟩, .string ⟨#[]⟩, .slice none 0 0]) 3 56 Tryz.underlying22 hi hz0 hz1 hz2 rfl (by decide) _ _ _ rfl HOW6.out _ 1 1 [.string z.name, .string z.sort, .slice ya z.kids.length yc] rfl rfl HNEW.out HONE.out HLM.out.1 HLM.out.2.1 HLM.out.2.2 ?_; intro v7 w7 hG7; obtain ⟨a7, c7, hv7⟩ := own_shape hG7.own; subst hv7; have hB7 := hG7.upd.heap (allocOld HB6.out (.cells #[.string z.name, .string z.sort, .slice ya z.kids.length yc] 24)) HRN.out; have f7 := fun i => frozenRow hB7 i; have c2 := cellRow hB7 2 (.slice la k lc) rfl; have HB7 := Lib.hid hB7; have HG7 := Lib.hid hG7; clear hG7 hB7)
          | (go_simp; refine HCLS.out.mono ?_; rintro e w5 ⟨rfl, hw5⟩; have HW5 : Hid (Ext wr w5) := Lib.hid (((Upd.refl (fun _ => False) wr).drewN' 1).trans hw5); have c5 := HW5.out.cell c2 (fun h => h); have HI5 := Lib.hid (HI.out w5 HW5.out); clear hw5 HCLS HI)
          | (go_simp; refine HI5.out.mono ?_; rintro e w6 ⟨r, Bx, rfl, hT6, hb6, hw6⟩; obtain ⟨ya, yc, hry⟩ := TlO.shape hT6; subst hry; have HW6 : Hid (Ext wr w6) := Lib.hid (HW5.out.trans hw6); have HT6 := Lib.hid hT6; have HBX6 : Hid (∀ j, Bx j → wr.heap.size ≤ j ∧ j < w6.heap.size) := Lib.hid (fun j hj => ⟨Nat.le_trans HW5.out.size (hb6 j hj).1, (hb6 j hj).2⟩); have HB6 := Lib.hid (HW6.out.heap HB3.out (fun h => h)); have HOW6 : Hid ((w6.alloc (.cells #[.string z.name, .string z.sort, .slice ya z.kids.length yc] 24)).ownsRow (w.heap.size + 2) 24 3 (.slice la k lc) k (tCells (L.take k) us)) := Lib.hid ((own_kept HJ.out.own HW6.out (fun _ _ h => h)).alloc _); have HNEW : Hid (∀ (j : Nat) (u : Value), [Value.string z.name, .string z.sort, .slice ya z.kids.length yc][j]? = some u → (w6.alloc (.cells #[.string z.name, .string z.sort, .slice ya z.kids.length yc] 24)).cell? ((⟨w6.heap.size, 0, none⟩ : Addr).add j) = some u) := Lib.hid (new3 w6 _ _ _ 24); have HONE : Hid (∀ u ∈ [Value.string z.name, .string z.sort, .slice ya z.kids.length yc], u.oneCell' = true) := Lib.hid (fun u hu => by simp at hu; rcases hu with h | h | h <;> (subst h; rfl)); have HLM : Hid (k + 1 ≤ maxLen ∧ (k + 1) * 56 ≤ 140737488355328 ∧ w.heap.size + 2 ≤ (w6.alloc (.cells #[.string z.name, .string z.sort, .slice ya z.kids.length yc] 24)).heap.size) := Lib.hid ⟨by unfold maxLen; have := HKB.out; omega, by have := HKB.out; omega, by have h1 := HW6.out.size; have h2 := HSZ.out; simp; omega⟩; have c6 := HW6.out.cell c2 (fun h => h); have c7 := ((Upd.refl (fun _ => False) w6).alloc (.cells #[.string z.name, .string z.sort, .slice ya z.kids.length yc] 24)).cell c6 (fun h => h); clear hT6 hb6 hw6 HI5))
        all_goals
          go_wp2_with fail
          have HS8 := Lib.hid ((Upd.refl (fun j => j = n3) w7).setCell (p := ⟨n3, 2, none⟩) (.inl rfl) (.slice a7 (k + 1) c7))
          have HU8 : Hid (Upd (fun j => (Value.slice la k lc).ownBlock = some j ∨ j = n3) wr (w7.setCell ⟨n3, 2, none⟩ (.slice a7 (k + 1) c7))) := Lib.hid (((((HW6.out.alloc (.cells #[.string z.name, .string z.sort, .slice ya z.kids.length yc] 24)).mono (fun _ _ x => x.elim)).trans (HG7.out.upd.mono (fun _ _ e => .inl e)))).trans (HS8.out.mono (fun _ _ e => .inr e)))
          have HJ8 := Lib.hid (HJ.out.grow (by rw [HLL.out]; exact hlt) HZ.out (by have := HN3.out; omega) HSZ.out HWR.out HW6.out HT6.out HBX6.out ((Upd.refl (fun _ => False) w6).alloc (.cells #[.string z.name, .string z.sort, .slice ya z.kids.length yc] 24)) HG7.out HS8.out)
          have HE8 : Hid (Ext w (w7.setCell ⟨n3, 2, none⟩ (.slice a7 (k + 1) c7))) := Lib.hid (HE.out.trans' HU8.out (fun j hj e => by
            rcases e with e | e
            · have h1 := (HJ.out.own.lt j e).1; omega
            · have := HN3.out; omega))
          have HB28 := Lib.hid (HU8.out.heap HB2.out (fun e => by
            rcases e with e | e
            · have h1 := (HJ.out.own.lt _ e).1; omega
            · have := HN3.out; omega))
          have hb38 := setBlock HB7.out 2 (.slice a7 (k + 1) c7)
          have HB38 : Hid ((w7.setCell ⟨n3, 2, none⟩ (.slice a7 (k + 1) c7)).heap[n3]? = some (.cells #[.string X.nm, .string ⟨#[]⟩, .slice a7 (k + 1) c7] 24 (0, 0))) := Lib.hid (by simpa using hb38)
          have HS9 : Hid (w.heap.size + 2 ≤ (w7.setCell ⟨n3, 2, none⟩ (.slice a7 (k + 1) c7)).heap.size) := Lib.hid (Nat.le_trans HSZ.out HU8.out.size)
          clear hb38 c2 f7
          go_roundg (X.ks.length - (k + 1))
          case measure => omega
          case rel => exact ⟨k + 1, _, _, _, by go_num, rfl, by omega, HJ8, HB28, HB38, HE8, HS9⟩
      · obtain rfl : k = X.ks.length := by omega
        have z2 : decide ((X.ks.length : Int) < (X.ks.length : Int)) = false := decide_eq_false (by omega)
        have hfin := HJ.out
        rw [← HLL.out] at hfin
        have hfin := hfin.fin
        have HFIN := Lib.hid hfin
        rw [HLL.out] at HFIN
        have c0 := cellRow HB3.out 0 (.string X.nm) rfl
        have c1 := cellRow HB3.out 1 (.string ⟨#[]⟩) rfl
        have c2 := cellRow HB3.out 2 (.slice la X.ks.length lc) rfl
        have f2 := fun i => frozenRow HB2.out i
        have d0 := cellRow HB2.out 0 (.string ⟨#[]⟩) rfl
        have d1 := cellRow HB2.out 1 (.string ⟨#[]⟩) rfl
        have d2 := cellRow HB2.out 2 (.slice none 0 0) rfl
        clear hfin
        go_wp2_with fail
        have hr3 := st3_heap HB2.out (.string X.nm) (.string ⟨#[]⟩) (.slice la X.ks.length lc)
        have hu := st3_upd' wr w.heap.size (.string X.nm) (.string ⟨#[]⟩) (.slice la X.ks.length lc)
        have e0 := cellRow hr3 0 _ rfl
        have e1 := cellRow hr3 1 _ rfl
        have e2 := cellRow hr3 2 _ rfl
        refine bodyPost_ret (v := .agg #[.string X.nm, .string ⟨#[]⟩, .slice la X.ks.length lc]) (by simp [results, Tryz.results74, go_sem, e0, e1, e2]) rfl ⟨.slice la X.ks.length lc, _, rfl, HFIN.out.kept hu (fun j hj e => by have h1 := hj.1; omega), fun j hj => ⟨by have h1 := hj.1; omega, Nat.lt_of_lt_of_le hj.2 hu.size⟩, HE.out.trans' hu (fun j hj e => by omega)⟩

end Go.Proofs.YtlkcjmaiahnodaaGreatDoor

/- given. -/
namespace Go.Proofs.YtlkcjmaiahnodaaGreatDoor
open Go.RowKit Go.Hw Go
set_option linter.unusedVariables false
set_option linter.unusedSimpArgs false

open Tm
theorem varsT_len {t : Tm} (h : wf nmB t = true) : (varsT t).length ≤ t.size := by
  have h2 : (sortsT t).isSome = true := by
    unfold wf at h
    rw [Bool.and_eq_true] at h
    exact h.2
  obtain ⟨m, hm⟩ := Option.isSome_iff_exists.1 h2
  have h1 := sFold_len _ _ _ (show sFold [] (vl (sbts t)) = some m from hm)
  have h3 : (vl (sbts t)).length ≤ t.size := by
    have h1 : (vl (sbts t)).length ≤ (sbts t).length := List.length_filterMap_le _ _
    have h2 : (sbts t).length = t.size := by rw [sbts, List.length_map, nodesD_len]
    omega
  have hv := varsT_spec hm
  have hnd : (varsT t).Nodup := hv.1.imp (fun {a b} hab e => by rw [e, blt_irrefl] at hab; cases hab)
  have := hnd.length_le_of_subset (fun f hf => (hv.2 f).1 hf)
  simp only [List.length_nil] at h1
  omega
theorem vg_mem' {l : List Vd} {i : Nat} (h : i < l.length) : vg l i ∈ l := by unfold vg; rw [List.getD_eq_getElem?_getD, List.getElem?_eq_getElem h]; exact List.getElem_mem h
theorem varsF_wf {t : Tm} (h : wf nmB t = true) : varsF t = (varsT t, 0) := if_pos h
set_option maxRecDepth 100000 in
set_option maxHeartbeats 2000000 in
theorem given_ok (a b : Tm) (va vb : Value) (w : World) (htab : AscT w) (hA : TmR (fun k => k < w.heap.size) w a va) (hB : TmR (fun k => k < w.heap.size) w b vb) (hsa : a.size ≤ 1000000) (hsb : b.size ≤ 1000000) (ha : wf nmB a = true) (hb : wf nmB b = true) (hc : ∀ v ∈ varsT a, ∀ u ∈ varsT b, v.1 = u.1 → v.2 = u.2) :
    Calls Tryz.prog 63 #[va, vb] w fun e w' => e = .returned (.int .i64 0) ∧ Ext w w' := by
  have HA := Lib.hid hA
  have HB := Lib.hid hB
  have HWa := Lib.hid (varsT_len ha)
  have HWb := Lib.hid (varsT_len hb)
  have HC := Lib.hid hc
  obtain ⟨aa, ac, rfl, _⟩ := hA
  obtain ⟨ba, bc, rfl, _⟩ := hB
  have HFa := Lib.hid (fun W (hW : Ext w W) => uform_x a _ W (asc_ext htab hW) ((HA.out.ext hW).weaken (fun k hk => Nat.lt_of_lt_of_le hk hW.size)) (by omega))
  have HFb := Lib.hid (fun W (hW : Ext w W) => uform_x b _ W (asc_ext htab hW) ((HB.out.ext hW).weaken (fun k hk => Nat.lt_of_lt_of_le hk hW.size)) (by omega))
  have HVa := Lib.hid (fun W (hW : Ext w W) => tvars_x a _ W (asc_ext htab hW) ((HA.out.ext hW).weaken (fun k hk => Nat.lt_of_lt_of_le hk hW.size)) (by omega))
  have HVb := Lib.hid (fun W (hW : Ext w W) => tvars_x b _ W (asc_ext htab hW) ((HB.out.ext hW).weaken (fun k hk => Nat.lt_of_lt_of_le hk hW.size)) (by omega))
  rw [ha] at HFa
  rw [hb] at HFb
  rw [varsF_wf ha] at HVa
  rw [varsF_wf hb] at HVb
  dsimp only [tV] at HFa HFb HVa HVb ⊢
  have hZ := ((Upd.refl (fun _ => False) w).alloc (.cells #[.string a.name, .string a.sort, .slice aa a.kids.length ac] 24)).alloc (.cells #[.string b.name, .string b.sort, .slice ba b.kids.length bc] 24)
  have hb2 := allocOld (alloc0 w (.cells #[.string a.name, .string a.sort, .slice aa a.kids.length ac] 24)) (.cells #[.string b.name, .string b.sort, .slice ba b.kids.length bc] 24)
  have hb3 := alloc_at (w.alloc (.cells #[.string a.name, .string a.sort, .slice aa a.kids.length ac] 24)) (.cells #[.string b.name, .string b.sort, .slice ba b.kids.length bc] 24) (n := w.heap.size + 1) (by simp)
  have HSA := Lib.hid (And.intro hsa hsb)
  clear hc ha hb hsa hsb
  have x0 := cellRow hb2 0 (.string a.name) rfl
  have x1 := cellRow hb2 1 (.string a.sort) rfl
  have x2 := cellRow hb2 2 (.slice aa a.kids.length ac) rfl
  have HZ := Lib.hid hZ
  have H2 := Lib.hid hb2
  have H3 := Lib.hid hb3
  clear hZ hb2 hb3
  go_enter Tryz.func63, Tryz.ntmps63
  go_wp2_with fail
  refine (HFa.out _ HZ.out).mono ?_
  rintro e w3 ⟨rfl, hw3⟩
  have HE3 := Lib.hid (HZ.out.trans hw3)
  have H23 := Lib.hid (hw3.heap H2.out (fun h => h))
  have H33 := Lib.hid (hw3.heap H3.out (fun h => h))
  clear hw3 x0 x1 x2 H2 H3 HZ HFa
  have y0 := cellRow H33.out 0 (.string b.name) rfl
  have y1 := cellRow H33.out 1 (.string b.sort) rfl
  have y2 := cellRow H33.out 2 (.slice ba b.kids.length bc) rfl
  go_wp2_with fail
  refine (HFb.out _ HE3.out).mono ?_
  rintro e w4 ⟨rfl, hw4⟩
  have HE4 := Lib.hid (HE3.out.trans hw4)
  have H24 := Lib.hid (hw4.heap H23.out (fun h => h))
  have H34 := Lib.hid (hw4.heap H33.out (fun h => h))
  clear hw4 y0 y1 y2 H23 H33 HE3 HFb
  have x0 := cellRow H24.out 0 (.string a.name) rfl
  have x1 := cellRow H24.out 1 (.string a.sort) rfl
  have x2 := cellRow H24.out 2 (.slice aa a.kids.length ac) rfl
  go_wp2_with fail
  refine (HVa.out _ HE4.out).mono ?_
  rintro e w5 ⟨r1, rfl, hr1, hw5⟩
  have HE5 := Lib.hid (HE4.out.trans hw5)
  have H35 := Lib.hid (hw5.heap H34.out (fun h => h))
  have HR1 := Lib.hid hr1
  clear hw5 x0 x1 x2 H24 H34 HE4 HVa hr1
  have y0 := cellRow H35.out 0 (.string b.name) rfl
  have y1 := cellRow H35.out 1 (.string b.sort) rfl
  have y2 := cellRow H35.out 2 (.slice ba b.kids.length bc) rfl
  go_wp2_with fail
  refine (HVb.out _ HE5.out).mono ?_
  rintro e w6 ⟨r2, rfl, hr2, hw6⟩
  have HE6 := Lib.hid (HE5.out.trans hw6)
  have HR16 := Lib.hid (FiR.ext HR1.out hw6)
  have HR26 := Lib.hid hr2
  obtain ⟨a1, c1, rfl⟩ := FiR.shape hr2
  obtain ⟨a0, c0, rfl⟩ := FiR.shape HR1.out
  clear hw6 y0 y1 y2 H35 HE5 HVb hr2 HR1 HA HB htab
  obtain ⟨LA, hLA⟩ : ∃ L, varsT a = L := ⟨_, rfl⟩
  obtain ⟨LB, hLB⟩ : ∃ L, varsT b = L := ⟨_, rfl⟩
  rw [hLA] at HR16 HC HWa ⊢
  rw [hLB] at HR26 HC HWb ⊢
  have hla : LA.length ≤ 1000000 := by have h1 := HWa.out; have h2 := HSA.out.1; omega
  have hlb : LB.length ≤ 1000000 := by have h1 := HWb.out; have h2 := HSA.out.2; omega
  clear hLA hLB HSA HWa HWb
  go_wp2_with fail
  go_loopg [33] LA.length (fun gk iv wr => ∃ k : Nat, iv = .int .i64 (k : Int) ∧ gk = LA.length - k ∧ k ≤ LA.length ∧ Hid (Ext w6 wr))
  case atStart => exact ⟨0, rfl, rfl, Nat.zero_le _, Lib.hid (Upd.refl _ _)⟩
  case round =>
    obtain ⟨k, rfl, rfl, hk, HE⟩ := hrel
    by_cases hlt : k < LA.length
    · obtain ⟨g, off, rfl, hat⟩ := FiR.at_ (FiR.ext HR16.out HE.out) (by omega)
      obtain ⟨q0, q1⟩ := hat k hlt
      have hfm := vg_mem' hlt
      obtain ⟨fa, hfa⟩ : ∃ f, vg LA k = f := ⟨_, rfl⟩
      rw [hfa] at q0 q1 hfm
      have HFM := Lib.hid hfm
      clear hfa hfm
      have z0 : (0 : Int) ≤ (k : Int) := by omega
      have z1 : (k : Int) < (LA.length : Int) := by omega
      have z2 : decide ((k : Int) < (LA.length : Int)) = true := decide_eq_true z1
      have z2' : decide (k < LA.length) = true := decide_eq_true hlt
      have hB7 := alloc0 wr (.cells #[.string fa.1, .string fa.2] 116)
      have HB7 := Lib.hid hB7
      have HE7 := Lib.hid (HE.out.alloc (.cells #[.string fa.1, .string fa.2] 116))
      clear hat hB7
      go_wp2_with fail
      generalize wr.alloc (.cells #[.string fa.1, .string fa.2] 116) = w7 at *
      clear q0 q1 z0 z1 z2 z2'
      go_loopg [39] LB.length (fun gk iv wr2 => ∃ j : Nat, iv = .int .i64 (j : Int) ∧ gk = LB.length - j ∧ j ≤ LB.length ∧ Hid (Ext w7 wr2))
      case atStart => exact ⟨0, rfl, rfl, Nat.zero_le _, Lib.hid (Upd.refl _ _)⟩
      case round =>
        obtain ⟨j, rfl, rfl, hj, HEJ⟩ := hrel
        by_cases hlj : j < LB.length
        · obtain ⟨g2, off2, rfl, hat⟩ := FiR.at_ (FiR.ext HR26.out (HE7.out.trans HEJ.out)) (by omega)
          obtain ⟨q0, q1⟩ := hat j hlj
          have hfm := vg_mem' hlj
          obtain ⟨fb, hfb⟩ : ∃ f, vg LB j = f := ⟨_, rfl⟩
          rw [hfb] at q0 q1 hfm
          have HGM := Lib.hid hfm
          clear hfb hfm
          have z0 : (0 : Int) ≤ (j : Int) := by omega
          have z1 : (j : Int) < (LB.length : Int) := by omega
          have z2 : decide ((j : Int) < (LB.length : Int)) = true := decide_eq_true z1
          have z2' : decide (j < LB.length) = true := decide_eq_true hlj
          have HB8 := HEJ.out.heap HB7.out (fun h => h)
          have HB8 := allocOld HB8 (.cells #[.string fb.1, .string fb.2] 116)
          have HB9 := alloc0 wr (.cells #[.string fb.1, .string fb.2] 116)
          have e0 := cellRow HB8 0 (.string fa.1) rfl
          have e1 := cellRow HB8 1 (.string fa.2) rfl
          have d0 := cellRow HB9 0 (.string fb.1) rfl
          have d1 := cellRow HB9 1 (.string fb.2) rfl
          have HE9 := Lib.hid (HEJ.out.alloc (.cells #[.string fb.1, .string fb.2] 116))
          have s1 := str_dc fa.1 fb.1
          have s2 := str_dc fa.2 fb.2
          have hcc := HC.out fa HFM.out fb HGM.out
          clear hat HB8 HB9
          by_cases h1 : fa.1 = fb.1
          · rw [decide_eq_true h1] at s1
            rw [decide_eq_true (hcc h1)] at s2
            clear hcc h1
            go_wp2_with fail
            go_roundg (LB.length - (j + 1))
            case measure => omega
            case rel => exact ⟨j + 1, by go_num, rfl, by omega, HE9⟩
          · rw [decide_eq_false h1] at s1
            clear hcc h1 s2
            go_wp2_with fail
            go_roundg (LB.length - (j + 1))
            case measure => omega
            case rel => exact ⟨j + 1, by go_num, rfl, by omega, HE9⟩
        · obtain rfl : j = LB.length := by omega
          have z2 : decide ((LB.length : Int) < (LB.length : Int)) = false := decide_eq_false (by omega)
          go_wp2_with fail
          go_roundg (LA.length - (k + 1))
          case measure => omega
          case rel => exact ⟨k + 1, by go_num, rfl, by omega, Lib.hid (HE7.out.trans HEJ.out)⟩
    · obtain rfl : k = LA.length := by omega
      have z2 : decide ((LA.length : Int) < (LA.length : Int)) = false := decide_eq_false (by omega)
      go_wp2_with fail
      go_ret
      exact ⟨rfl, HE6.out.trans HE.out⟩

end Go.Proofs.YtlkcjmaiahnodaaGreatDoor

/- Grow and Concat. -/
namespace Go.Proofs.YtlkcjmaiahnodaaGreatDoor
open Go.RowKit Go.Hw Go
set_option linter.unusedVariables false
set_option linter.unusedSimpArgs false

open Tm
set_option maxRecDepth 100000 in
set_option maxHeartbeats 2000000 in
theorem grow_x (n : Nat) (w : World) (hn : n ≤ 10000000) : Calls Tryz.prog 142 #[.slice none 0 0, .int .i64 (n : Int)] w fun e w' => ∃ v, e = .returned v ∧ w'.ownsRow w.heap.size 116 2 v 0 [] ∧ Ext w w' := by
  obtain ⟨iF, hi, hz0, hz1, hz2⟩ := info_parts infoF
  by_cases h0 : 0 < n
  · have h1 : ¬ ((n : Int) < 0) := by omega
    have h2 : (0 : Int) < (n : Int) := by omega
    have hrz : ∀ ty, (Builtin.append_ #[111, 3] ty #[.slice none 0 0, .int .i64 (n : Int)]).run Tryz.prog w = .ok (.slice (some ⟨w.heap.size, 0, none⟩) n (grownCap w n 0 116)) (w.drew.alloc (.cells (Builtin.zeroCells (Value.agg #[.string ⟨#[]⟩, .string ⟨#[]⟩]).cells n ++ Builtin.zeroCells (Value.agg #[.string ⟨#[]⟩, .string ⟨#[]⟩]).cells (grownCap w n 0 116 - n)) 116)) := fun ty =>
      Lib.run_append_nil_zeros w 111 3 ty 116 iF _ .i64 .i64 Tryz.underlying111 Tryz.underlying3 hi hz0 n h0 (by omega) (by omega) (by rw [hz2]; omega)
    have hge := grownCap_ge w n 0 116
    have hle := grownCap_le_maxLen w n 0 116 (by unfold maxLen; omega)
    have hown : Hid ((w.drew.alloc (.cells (Builtin.zeroCells (Value.agg #[.string ⟨#[]⟩, .string ⟨#[]⟩]).cells n ++ Builtin.zeroCells (Value.agg #[.string ⟨#[]⟩, .string ⟨#[]⟩]).cells (grownCap w n 0 116 - n)) 116)).ownsRow w.heap.size 116 2 (.slice (some ⟨w.heap.size, 0, none⟩) 0 (grownCap w n 0 116)) 0 []) := Lib.hid
      (World.ownsRow_made w.drew _ _ (Nat.le_refl _) hle (by rw [Array.size_append, size_zeroCells, size_zeroCells]; show n * 2 + (grownCap w n 0 116 - n) * 2 = grownCap w n 0 116 * 2; omega))
    have HE : Hid (Ext w (w.drew.alloc (.cells (Builtin.zeroCells (Value.agg #[.string ⟨#[]⟩, .string ⟨#[]⟩]).cells n ++ Builtin.zeroCells (Value.agg #[.string ⟨#[]⟩, .string ⟨#[]⟩]).cells (grownCap w n 0 116 - n)) 116))) := Lib.hid ((Upd.refl _ w).drew.alloc _)
    obtain ⟨G, hG⟩ : ∃ G, grownCap w n 0 116 = G := ⟨_, rfl⟩
    obtain ⟨w2, hw2⟩ : ∃ x, w.drew.alloc (.cells (Builtin.zeroCells (Value.agg #[.string ⟨#[]⟩, .string ⟨#[]⟩]).cells n ++ Builtin.zeroCells (Value.agg #[.string ⟨#[]⟩, .string ⟨#[]⟩]).cells (grownCap w n 0 116 - n)) 116) = x := ⟨_, rfl⟩
    rw [hw2, hG] at hrz hown
    rw [hw2] at HE
    rw [hG] at hge hle
    have hG2 : G ≤ 9223372036854775807 := by unfold maxLen at hle; omega
    clear hw2 hG hi hz0 hz1 hz2
    go_enter Tryz.func142, Tryz.ntmps142
    go_wp2_with (at_builtin; refine Lib.wpList_append_run _ rfl _ _ _ _ rfl _ _ rfl rfl _ _ (hrz _) ?_)
    go_ret
    exact ⟨_, rfl, hown.out, HE.out⟩
  · obtain rfl : n = 0 := by omega
    go_enter Tryz.func142, Tryz.ntmps142
    go_wp2_with fail
    go_ret
    exact ⟨_, rfl, World.ownsRow_nil .., Upd.refl _ _⟩

abbrev ccn (L1 L2 : List Vd) (k : Nat) : List Vd := if k = 0 then [] else if k = 1 then L1 else L1 ++ L2
set_option maxRecDepth 100000 in
set_option maxHeartbeats 2000000 in
theorem concat_x (L1 L2 : List Vd) (v1 v2 : Value) (S : Nat → Prop) (g : Nat) (w : World) (h1 : FiR S w v1 L1) (h2 : FiR S w v2 L2) (hv1 : w.cell? ⟨g, 0, none⟩ = some v1) (hv2 : w.cell? ⟨g, 1, none⟩ = some v2) (hl1 : L1.length ≤ 1000000) (hl2 : L2.length ≤ 1000000) :
    Calls Tryz.prog 71 #[.slice (some ⟨g, 0, none⟩) 2 2] w fun e w' => ∃ r, e = .returned r ∧ FiR (fun k => w.heap.size ≤ k ∧ k < w'.heap.size) w' r (L1 ++ L2) ∧ Ext w w' := by
  have H1 := Lib.hid h1
  have H2 := Lib.hid h2
  obtain ⟨a1, c1, rfl⟩ := FiR.shape h1
  obtain ⟨a2, c2, rfl⟩ := FiR.shape h2
  have HV := Lib.hid (And.intro hv1 hv2)
  have HGR := Lib.hid (grow_x (L1.length + L2.length) w (by omega))
  clear h1 h2
  go_enter Tryz.func71, Tryz.ntmps71
  go_wp2_with fail
  go_loopg [3, 11] 2 (fun gk sv iv wr => ∃ k : Nat, iv = .int .i64 (k : Int) ∧ sv = .int .i64 ((ccn L1 L2 k).length : Int) ∧ gk = 2 - k ∧ k ≤ 2 ∧ w = wr)
  case atStart => exact ⟨0, rfl, rfl, rfl, Nat.zero_le _, rfl⟩
  case round =>
    obtain ⟨k, rfl, rfl, rfl, hk, rfl⟩ := hrel
    rcases (by omega : k = 0 ∨ k = 1 ∨ k = 2) with rfl | rfl | rfl
    · have z3 : ¬ ((L1.length : Int) < 0) := by omega
      simp only [ccn, if_true, List.length_nil] at *
      go_wp2_with fail
      go_roundg 1
      case measure => omega
      case rel => exact ⟨1, rfl, by simp [ccn], rfl, by omega, rfl⟩
    · have z3 : ¬ ((L1.length : Int) + (L2.length : Int) < 0) := by omega
      simp only [ccn] at *
      go_wp2_with fail
      go_roundg 0
      case measure => omega
      case rel => exact ⟨2, rfl, by simp [ccn], rfl, by omega, rfl⟩
    · have hcc : ((ccn L1 L2 2).length : Int) = ((L1.length + L2.length : Nat) : Int) := by simp [ccn]
      rw [hcc]
      clear hcc
      go_wp2_with fail
      refine HGR.out.mono ?_
      rintro e w2 ⟨v, rfl, ho2, hw2⟩
      have HO2 := Lib.hid ho2
      have HE2 := Lib.hid hw2
      clear ho2 hw2 HGR hv1 hv2
      go_wp2_with fail
      go_loopg [6, 27] 2 (fun gk lv iv wr => ∃ k : Nat, iv = .int .i64 (k : Int) ∧ Hid (wr.ownsRow w.heap.size 116 2 lv (ccn L1 L2 k).length (fCells (ccn L1 L2 k))) ∧ gk = 2 - k ∧ k ≤ 2 ∧ Hid (Ext w wr))
      case atStart => exact ⟨0, rfl, HO2, rfl, Nat.zero_le _, HE2⟩
      case round =>
        obtain ⟨k, rfl, HO, rfl, hk, HE⟩ := hrel
        obtain ⟨la, lc, hlv⟩ := own_shape HO.out
        subst hlv
        have hlt : ∀ j, (Value.slice la (ccn L1 L2 k).length lc).ownBlock = some j → w.heap.size ≤ j := fun j hj => (HO.out.lt j hj).1
        have hv1 := HE.out.cell HV.out.1 (fun h => h)
        have hv2 := HE.out.cell HV.out.2 (fun h => h)
        obtain ⟨iF, hi, hz0, hz1, hz2⟩ := info_parts infoF
        have hbs := HE.out.size
        rcases (by omega : k = 0 ∨ k = 1 ∨ k = 2) with rfl | rfl | rfl
        · go_wp2_with (at_builtin; refine wpList_append_sl _ rfl (.tmp 31) (.tmp 32) 111 rfl w.heap.size 116 iF (.agg #[.string ⟨#[]⟩, .string ⟨#[]⟩]) 2 32 Tryz.underlying111 hi hz0 hz1 hz2 rfl (by decide) (.slice la (ccn L1 L2 0).length lc) _ _ rfl HO.out S (.slice a1 L1.length c1) L1.length (fCells L1) rfl (FiR.ext H1.out HE.out) (fCells_one _) ?c3 ?c4 hbs ?_)
          case c3 => unfold maxLen; simp [ccn]; omega
          case c4 => simp [ccn]; omega
          intro v7 w7 hG
          have HO7 : Hid (w7.ownsRow w.heap.size 116 2 v7 (ccn L1 L2 1).length (fCells (ccn L1 L2 1))) := Lib.hid (by
            have h := hG.own
            simp only [ccn, if_true, List.length_nil, Nat.zero_add] at h
            exact h)
          have HE7 : Hid (Ext w w7) := Lib.hid (HE.out.trans' hG.upd (fun j hj e => by have := hlt j e; omega))
          obtain ⟨a7, c7, hv7⟩ := own_shape HO7.out
          subst hv7
          clear hG hi hz0 hz1 hz2 hbs hlt hv1 hv2
          go_wp2_with fail
          go_roundg 1
          case measure => omega
          case rel => exact ⟨1, rfl, HO7, rfl, by omega, HE7⟩
        · go_wp2_with (at_builtin; refine wpList_append_sl _ rfl (.tmp 31) (.tmp 32) 111 rfl w.heap.size 116 iF (.agg #[.string ⟨#[]⟩, .string ⟨#[]⟩]) 2 32 Tryz.underlying111 hi hz0 hz1 hz2 rfl (by decide) (.slice la (ccn L1 L2 1).length lc) _ _ rfl HO.out S (.slice a2 L2.length c2) L2.length (fCells L2) rfl (FiR.ext H2.out HE.out) (fCells_one _) ?c3 ?c4 hbs ?_)
          case c3 => unfold maxLen; simp [ccn]; omega
          case c4 => simp [ccn]; omega
          intro v7 w7 hG
          have HO7 : Hid (w7.ownsRow w.heap.size 116 2 v7 (ccn L1 L2 2).length (fCells (ccn L1 L2 2))) := Lib.hid (by
            have h := hG.own
            have e1 : ccn L1 L2 1 = L1 := rfl
            have e2 : ccn L1 L2 2 = L1 ++ L2 := rfl
            rw [e1, ← fCells_append] at h
            rw [e2, List.length_append]
            exact h)
          have HE7 : Hid (Ext w w7) := Lib.hid (HE.out.trans' hG.upd (fun j hj e => by have := hlt j e; omega))
          obtain ⟨a7, c7, hv7⟩ := own_shape HO7.out
          subst hv7
          clear hG hi hz0 hz1 hz2 hbs hlt hv1 hv2
          go_wp2_with fail
          go_roundg 0
          case measure => omega
          case rel => exact ⟨2, rfl, HO7, rfl, by omega, HE7⟩
        · clear hi hz0 hz1 hz2 hbs hv1 hv2
          go_wp2_with fail
          go_ret
          have e2 : ccn L1 L2 2 = L1 ++ L2 := rfl
          have ho := HO.out
          rw [e2] at ho
          exact ⟨_, rfl, SlR.weaken (SlR.of_own ho) (fun j hj => ⟨hlt j hj, (ho.lt j hj).2⟩), HE.out⟩

end Go.Proofs.YtlkcjmaiahnodaaGreatDoor
