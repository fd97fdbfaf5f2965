/- The texts ShelfS I99 TQ I70, one behind the other. -/
import Derived.Test.YtiimccogojkldaaGreatDoorYAC
import Derived.Ground.SlsfProg
import Derived.Shelf.SlSortCmp.InsertionK
import Derived.Shelf.SlSortCmp.SiftDownK
import Derived.Shelf.SlSortCmp.HeapSortK
import Derived.Shelf.SlSortCmp.MedianK
import Derived.Shelf.SlSortCmp.PivotK
import Derived.Shelf.SlSortCmp.ReverseRangeK
import Derived.Shelf.SlSortCmp.PartialInsertionK
import Derived.Shelf.SlSortCmp.PartitionEqualK
import Derived.Shelf.SlSortCmp.PartitionK
import Derived.Shelf.SlSortCmp.PdqK
import Derived.Shelf.SlSortCmp.WholeK
import Derived.Shelf.SlSortCmp.NoneTotal
import Derived.Test.YtiimccogojkldaaGreatDoorYAD
import Derived.Test.YtiimccogojkldaaGreatDoorYAF
import Derived.Test.YtiimccogojkldaaGreatDoorYAK
import Derived.Maps.RangeRun
import Derived.Test.YtiimccogojkldaaGreatDoorYAB
import Derived.Test.YtiimccogojkldaaGreatDoorYAA
import Derived.Test.YtiimccogojkldaaGreatDoorYAH
import Derived.Deep.RegionHeld3
/- Further contracts of the library, laid. -/
namespace Go.Proofs
open Go.Shelf
def Tryz.laysSlF06_f129_ren : Go.Shelf.Ren := ⟨fun | 6 => 129 | 15 => 141 | 14 => 140 | 28 => 158 | 29 => 159 | 20 => 150 | 21 => 151 | 22 => 152 | 23 => 153 | 24 => 154 | 25 => 155 | 26 => 156 | 27 => 157 | 46 => 167 | 47 => 168 | 48 => 169 | 49 => 170 | 50 => 171 | 57 => 176 | n => n, fun | 22 => 66 | 24 => 131 | 25 => 165 | 3 => 3 | 39 => 148 | 0 => 0 | 53 => 195 | 55 => 181 | 4 => 4 | 46 => 189 | 45 => 188 | 50 => 123 | 5 => 5 | 9 => 9 | 66 => 206 | 70 => 210 | 76 => 223 | 77 => 141 | n => n, fun | n => n⟩
theorem Tryz.laysSlF06_f129 : Go.Proofs.SlLaysF0.n6 Tryz.prog Tryz.laysSlF06_f129_ren := {
  mixed := by kernel_rfl
  f6 := ⟨Tryz.f129.name, by decide, Tryz.func129.trans (congrArg some (by kernel_rfl))⟩
  f14 := ⟨Tryz.f140.name, by decide, Tryz.func140.trans (congrArg some (by kernel_rfl))⟩
  f15 := Tryz.func141.trans (congrArg some (by kernel_rfl))
  f20 := ⟨Tryz.f150.name, by decide, Tryz.func150.trans (congrArg some (by kernel_rfl))⟩
  f21 := ⟨Tryz.f151.name, by decide, Tryz.func151.trans (congrArg some (by kernel_rfl))⟩
  f22 := ⟨Tryz.f152.name, by decide, Tryz.func152.trans (congrArg some (by kernel_rfl))⟩
  f23 := ⟨Tryz.f153.name, by decide, Tryz.func153.trans (congrArg some (by kernel_rfl))⟩
  f24 := ⟨Tryz.f154.name, by decide, Tryz.func154.trans (congrArg some (by kernel_rfl))⟩
  f25 := ⟨Tryz.f155.name, by decide, Tryz.func155.trans (congrArg some (by kernel_rfl))⟩
  f26 := ⟨Tryz.f156.name, by decide, Tryz.func156.trans (congrArg some (by kernel_rfl))⟩
  f27 := ⟨Tryz.f157.name, by decide, Tryz.func157.trans (congrArg some (by kernel_rfl))⟩
  f28 := Tryz.func158.trans (congrArg some (by kernel_rfl))
  f29 := Tryz.func159.trans (congrArg some (by kernel_rfl))
  f46 := ⟨Tryz.f167.name, by decide, Tryz.func167.trans (congrArg some (by kernel_rfl))⟩
  f47 := Tryz.func168.trans (congrArg some (by kernel_rfl))
  f48 := Tryz.func169.trans (congrArg some (by kernel_rfl))
  f49 := ⟨Tryz.f170.name, by decide, Tryz.func170.trans (congrArg some (by kernel_rfl))⟩
  f50 := ⟨Tryz.f171.name, by decide, Tryz.func171.trans (congrArg some (by kernel_rfl))⟩
  f57 := ⟨Tryz.f176.name, by decide, Tryz.func176.trans (congrArg some (by kernel_rfl))⟩
  t0 := Tryz.underlying0
  a0 := Tryz.isAgg0
  z0 := Tryz.sizeOf0
  v0 := Tryz.zeroValue0
  t3 := Tryz.underlying3
  a3 := Tryz.isAgg3
  z3 := Tryz.sizeOf3
  v3 := Tryz.zeroValue3
  t4 := Tryz.underlying4
  a4 := Tryz.isAgg4
  z4 := Tryz.sizeOf4
  v4 := Tryz.zeroValue4
  t5 := Tryz.underlying5
  a5 := Tryz.isAgg5
  z5 := Tryz.sizeOf5
  v5 := Tryz.zeroValue5
  t9 := Tryz.underlying9
  a9 := Tryz.isAgg9
  z9 := Tryz.sizeOf9
  v9 := Tryz.zeroValue9
  t22 := Tryz.underlying66
  a22 := Tryz.isAgg66
  z22 := Tryz.sizeOf66
  v22 := Tryz.zeroValue66
  t25 := Tryz.underlying165
  a25 := Tryz.isAgg165
  z25 := Tryz.sizeOf165
  v25 := Tryz.zeroValue165
  t39 := Tryz.underlying148
  a39 := Tryz.isAgg148
  z39 := Tryz.sizeOf148
  v39 := Tryz.zeroValue148
  t45 := Tryz.underlying188
  a45 := Tryz.isAgg188
  z45 := Tryz.sizeOf188
  v45 := Tryz.zeroValue188
  t46 := Tryz.underlying189
  a46 := Tryz.isAgg189
  z46 := Tryz.sizeOf189
  v46 := Tryz.zeroValue189
  t50 := Tryz.underlying123
  a50 := Tryz.isAgg123
  z50 := Tryz.sizeOf123
  v50 := Tryz.zeroValue123
  t53 := Tryz.underlying195
  a53 := Tryz.isAgg195
  z53 := Tryz.sizeOf195
  v53 := Tryz.zeroValue195
  t55 := Tryz.underlying181
  a55 := Tryz.isAgg181
  z55 := Tryz.sizeOf181
  v55 := Tryz.zeroValue181
  t66 := Tryz.underlying206
  a66 := Tryz.isAgg206
  z66 := Tryz.sizeOf206
  v66 := Tryz.zeroValue206
  t70 := Tryz.underlying210
  a70 := Tryz.isAgg210
  z70 := Tryz.sizeOf210
  v70 := Tryz.zeroValue210
  t76 := Tryz.underlying223
  a76 := Tryz.isAgg223
  z76 := Tryz.sizeOf223
  v76 := Tryz.zeroValue223
  t77 := Tryz.underlying141
  a77 := Tryz.isAgg141
  z77 := Tryz.sizeOf141
  v77 := Tryz.zeroValue141 }
open Go.RowKit Go.Lib Go.Sort in
theorem Tryz.slices_SortFunc {α : Type} [Inhabited α] (k : Nat) (aE : ∀ w, (isAgg (Tryz.laysSlF06_f129_ren.t 24)).run Tryz.prog w = .ok true w) (zE : ∀ w, (Go.sizeOf (Tryz.laysSlF06_f129_ren.t 24)).run Tryz.prog w = .ok k w) (enc : α → List Value) (hk : ∀ x, (enc x).length = k) (h1 : ∀ x, ∀ v ∈ enc x, v.oneCell' = true) (cf : α → α → Int) (hO : SWO (ltOf cf)) (g : Nat) (cb : Array Value) (blk off cap : Nat) (d : Array α) (w : World) (eg : ∀ args w, (callFunc g args).run Tryz.prog w = .ok (.enter g args) w) (hcmp : CmpLays Tryz.prog g cb enc k cf blk off d.size w) (hH : HoldsK enc k w blk off d) (hblk : blk < w.heap.size) (hsz : d.size < 4611686018427387904) :
    Calls Tryz.prog 129 #[.slice (some ⟨blk, off, none⟩) d.size cap, .func (.func g) #[] cb] w fun e w' =>
      e = .returned (.tuple #[]) ∧ ∃ d' n os, PermIn 0 d.size d d' ∧ SortedIn (ltOf cf) 0 d.size d' ∧ w' = sortWorldK enc k w blk off n d' os := AnyQ.slices_SortFunc Tryz.laysSlF06_f129 k aE zE enc hk h1 cf hO g cb blk off cap d w eg hcmp hH hblk hsz
open Go.RowKit Go.Lib Go.Sort in
theorem Tryz.slices_SortFunc_none {α : Type} [Inhabited α] (p : Option Addr) (cap : Nat) (fv : Value) (w : World) :
    Calls Tryz.prog 129 #[.slice p 0 cap, fv] w fun e w' => e = .returned (.tuple #[]) ∧ w' = w := AnyF.slices_SortFunc_none Tryz.laysSlF06_f129 p cap fv w
end Go.Proofs

/- Vars. -/
namespace Go.Proofs.YtiimccogojkldaaGreatDoor
open Go.RowKit Go.Hw Go
set_option linter.unusedVariables false
set_option linter.unusedSimpArgs false

open Tm Go.Sort Go.Proofs Go.ChangeMaps
abbrev fEnc (f : Vd) : List Value := [.string f.1, .string f.2]
theorem fCells_enc (L : List Vd) : fCells L = L.flatMap fEnc := rfl
set_option maxRecDepth 100000 in
set_option maxHeartbeats 2000000 in
theorem cmpF_x (x y : Vd) (w : World) : Calls Tryz.prog 130 #[.agg (fEnc x).toArray, .agg (fEnc y).toArray] w fun e w' => e = .returned (.int .i64 (cfN (Prod.fst : Vd → By) x y)) ∧ ∃ q os', w' = grow (w.drewN q) os' := by
  have hb0 := allocOld (alloc0 w (.cells #[.string x.1, .string x.2] 131)) (.cells #[.string y.1, .string y.2] 131)
  have hb1 := alloc_at (w.alloc (.cells #[.string x.1, .string x.2] 131)) (.cells #[.string y.1, .string y.2] 131) (n := w.heap.size + 1) (by simp)
  have c0 := cellRow hb0 0 (.string x.1) rfl
  have d0 := cellRow hb1 0 (.string y.1) rfl
  have hc := fun W => Tryz.strings_Compare x.1 y.1 W
  change ∀ W, Calls _ _ _ W fun e w' => e = .returned (.int .i64 (cfN (Prod.fst : Vd → By) x y)) ∧ w' = W at hc
  have HC := Lib.hid hc
  generalize cfN (Prod.fst : Vd → By) x y = r at *
  clear hb0 hb1 hc
  go_enter Tryz.func130, Tryz.ntmps130
  go_wp2_with fail
  refine (HC.out _).mono ?_
  rintro e w4 ⟨rfl, rfl⟩
  go_wp2_with fail
  go_ret
  exact ⟨rfl, 0, _, by rw [alloc_eq_grow, alloc_eq_grow, grow_grow]; rfl⟩
set_option maxRecDepth 100000 in
set_option maxHeartbeats 2000000 in
theorem sortV_x (L : List Vd) (base : Nat) (v : Value) (w : World) (hO : w.ownsRow base 131 2 v L.length (fCells L)) (hd : L.Pairwise fun x y => x.1 ≠ y.1) (hl : L.length ≤ 1000000) :
    Calls Tryz.prog 129 #[v, .func (.func 130) #[] #[]] w fun e w' => e = .returned (.tuple #[]) ∧ ∃ L', AscK (Prod.fst : Vd → By) L' ∧ L'.Perm L ∧ FiR (fun k => v.ownBlock = some k) w' v L' ∧ Upd (fun k => v.ownBlock = some k) w w' := by
  by_cases h0 : 0 < L.length
  · obtain ⟨g, cap, rfl, hb, hgl, hnc, hcell, hfz⟩ := ownAt hO h0
    have hH : HoldsK fEnc 2 w g 0 L.toArray := holdsK_of fEnc 2 (fun _ => rfl) (fun j hj => ⟨by rw [Nat.zero_add]; exact hcell j hj, hfz _⟩)
    have eg : ∀ args w, (callFunc 130 args).run Tryz.prog w = .ok (.enter 130 args) w := enters_of Tryz.func130 (by kernel_rfl) rfl
    have h := Tryz.slices_SortFunc 2 (fun w => Tryz.isAgg131 w) (fun w => Tryz.sizeOf131 w) fEnc (fun _ => rfl) (fun x u hu => by simp [fEnc] at hu; rcases hu with h | h <;> (subst h; rfl)) (cfN (Prod.fst : Vd → By)) (swo_cfN _) 130 #[] g 0 cap L.toArray w eg (fun m os dk _ x y => cmpF_x x y _) hH hgl (by simp; omega)
    rw [show L.toArray.size = L.length by simp] at h
    refine h.mono ?_
    rintro e w' ⟨rfl, d', n, os, hp, hs, rfl⟩
    have hsz : d'.size = L.length := by have := hp.1; simpa using this
    obtain ⟨ha, hperm⟩ := sort_asc (d := L.toArray) (Prod.fst : Vd → By) (by rw [show L.toArray.size = L.length by simp]; exact hp) (by rw [show L.toArray.size = L.length by simp]; exact hs) (by simpa using hd)
    have hl' : d'.toList.length = L.length := by simpa using hsz
    refine ⟨rfl, d'.toList, ha, by simpa using hperm, ?_, (upd_sortK fEnc 2 w g 0 n d' os).mono (fun k _ e => by rw [e]; rfl)⟩
    have hH' := holdsK_sortWorldK_c fEnc 2 w g 0 L.toArray d' n os hH hgl (by simpa using hsz)
    unfold FiR
    rw [hl']
    refine SlR.mk' (by rw [fCells_len, hl']) rfl hnc (fun _ => rfl) (fun j hj => ?_)
    rw [fCells_enc]
    exact (cells_holdsK fEnc 2 (fun _ => rfl) hH' j (by rw [hsz]; exact hj)).1
  · have hl0 : L = [] := List.eq_nil_of_length_eq_zero (by omega)
    subst hl0
    obtain ⟨a, cap, rfl⟩ := own_shape hO
    have h := Tryz.slices_SortFunc_none (α := Vd) a cap (.func (.func 130) #[] #[]) w
    refine h.mono ?_
    rintro e w' ⟨rfl, rfl⟩
    exact ⟨rfl, [], List.Pairwise.nil, List.Perm.refl _, SlR.of_own hO, Upd.refl _ _⟩
/-- the variables of a term, by their names -/
def varsF (t : Tm) : List Vd × Int := if wf nmB t = true then (varsT t, 0) else ([], 1)
theorem sortsT_dist {t : Tm} {m : List Vd} (h : sortsT t = some m) : m.Pairwise (fun p q => p.1 ≠ q.1) := by
  have hnil : Cons [] := fun f hf => by cases hf
  obtain ⟨h1, _⟩ := sFold_spec (vl (sbts t)) [] hnil
  exact (h1 m h).2.2 List.Pairwise.nil
theorem varsT_spec {t : Tm} {m : List Vd} (h : sortsT t = some m) : AscK (Prod.fst : Vd → By) (varsT t) ∧ ∀ f, f ∈ varsT t ↔ f ∈ m := by
  obtain ⟨_, h1⟩ := vFold_spec (vl (sbts t)) [] [] List.Pairwise.nil (fun _ => rfl) (fun _ => Iff.rfl)
  obtain ⟨a, _, b⟩ := h1 m h
  exact ⟨a, b⟩
theorem sFold_len : ∀ (fs m m' : List Vd), sFold m fs = some m' → m'.length ≤ m.length + fs.length
  | [], m, m', h => by injection h with h; rw [← h]; simp
  | f :: fs, m, m', h => by
    unfold sFold at h
    cases hg : fget m f.1 with
    | none =>
      rw [hg] at h
      have := sFold_len fs _ _ h
      simp only [List.length_append, List.length_cons, List.length_nil] at this ⊢
      omega
    | some s =>
      rw [hg] at h
      simp only at h
      split at h
      · have := sFold_len fs _ _ h
        simp only [List.length_cons]
        omega
      · cases h
/-- entries of the map and fields -/
theorem ent_field {es : List MapEntry} {m : List Vd} (h : es.map (fun e => (e.key, e.val)) = (mVd m).map (fun p => (Value.string p.1, p.2))) {e : MapEntry} (he : e ∈ es) : ∃ f ∈ m, e.key = .string f.1 ∧ e.val = .string f.2 := by
  have h1 : (e.key, e.val) ∈ (mVd m).map (fun p => (Value.string p.1, p.2)) := by
    rw [← h]
    exact List.mem_map.2 ⟨e, he, rfl⟩
  obtain ⟨p, hp, h2⟩ := List.mem_map.1 h1
  obtain ⟨f, hf, rfl⟩ := List.mem_map.1 hp
  injection h2 with h3 h4
  exact ⟨f, hf, h3.symm, h4.symm⟩
theorem field_ent {es : List MapEntry} {m : List Vd} (h : es.map (fun e => (e.key, e.val)) = (mVd m).map (fun p => (Value.string p.1, p.2))) {f : Vd} (hf : f ∈ m) : ∃ e ∈ es, e.key = .string f.1 := by
  have h1 : (Value.string f.1, Value.string f.2) ∈ es.map (fun e => (e.key, e.val)) := by
    rw [h]
    exact List.mem_map.2 ⟨(f.1, .string f.2), List.mem_map.2 ⟨f, hf, rfl⟩, rfl⟩
  obtain ⟨e, he, h2⟩ := List.mem_map.1 h1
  injection h2 with h3 _
  exact ⟨e, he, h3⟩
theorem ent_uniq {es : List MapEntry} {m : List Vd} (h : es.map (fun e => (e.key, e.val)) = (mVd m).map (fun p => (Value.string p.1, p.2))) (hd : m.Pairwise (fun p q => p.1 ≠ q.1)) {x y : MapEntry} (hx : x ∈ es) (hy : y ∈ es) (hk : x.key = y.key) : x = y := by
  obtain ⟨i, hi, rfl⟩ := List.getElem_of_mem hx
  obtain ⟨j, hj, rfl⟩ := List.getElem_of_mem hy
  have hlen : es.length = m.length := by
    have := congrArg List.length h
    simpa using this
  have hat : ∀ i (hi : i < es.length), es[i].key = .string (m[i]'(by omega)).1 := fun i hi => by
    have h1 : (es.map (fun e => (e.key, e.val)))[i]? = ((mVd m).map (fun p => (Value.string p.1, p.2)))[i]? := by rw [h]
    rw [List.getElem?_map, List.getElem?_map, List.getElem?_map, List.getElem?_eq_getElem hi, List.getElem?_eq_getElem (show i < m.length by omega)] at h1
    injection h1 with h1
    injection h1 with h1 _
  rw [hat i hi, hat j hj] at hk
  injection hk with hk
  rw [List.pairwise_iff_getElem] at hd
  rcases Nat.lt_trichotomy i j with h2 | h2 | h2
  · exact absurd hk (hd i j (by omega) (by omega) h2)
  · subst h2; rfl
  · exact absurd hk.symm (hd j i (by omega) (by omega) h2)
/-- what the round has gathered -/
structure VIn (es : Array MapEntry) (seen : Array Nat) (m L : List Vd) : Prop where
  sub : ∀ f ∈ L, f ∈ m ∧ ∃ e ∈ es.toList, e.key = .string f.1 ∧ seen.contains e.born = true
  dist : L.Pairwise (fun p q => p.1 ≠ q.1)
  all : ∀ e ∈ es.toList, seen.contains e.born = true → ∀ f ∈ m, e.key = .string f.1 → f ∈ L
theorem VIn.start (es : Array MapEntry) (m : List Vd) : VIn es #[] m [] := ⟨fun f hf => (by cases hf), List.Pairwise.nil, fun e _ h => (by simp at h)⟩
theorem VIn.next {es : Array MapEntry} {seen : Array Nat} {m L : List Vd} (hm : es.toList.map (fun e => (e.key, e.val)) = (mVd m).map (fun p => (Value.string p.1, p.2))) (hd : m.Pairwise (fun p q => p.1 ≠ q.1)) (hn : (es.toList.map (·.born)).Nodup) (h : VIn es seen m L) {e : MapEntry} (he : e ∈ es.toList) (hs : seen.contains e.born = false) {f : Vd} (hf : f ∈ m) (hk : e.key = .string f.1) : VIn es (seen.push e.born) m (L ++ [f]) := by
  refine ⟨fun g hg => ?_, ?_, fun x hx hsx g hg hkx => ?_⟩
  · rcases List.mem_append.1 hg with hg | hg
    · obtain ⟨a, x, hx, b, c⟩ := h.sub g hg
      exact ⟨a, x, hx, b, by rw [contains_push, c]; rfl⟩
    · rw [List.mem_singleton] at hg
      subst hg
      exact ⟨hf, e, he, hk, by rw [contains_push, beq_self_eq_true, Bool.or_true]⟩
  · rw [List.pairwise_append]
    refine ⟨h.dist, List.pairwise_singleton _ _, fun g hg y hy heq => ?_⟩
    rw [List.mem_singleton] at hy
    subst hy
    obtain ⟨_, x, hx, b, c⟩ := h.sub g hg
    have hxe : x = e := ent_uniq hm hd hx he (by rw [b, hk, heq])
    rw [hxe, hs] at c
    cases c
  · rw [contains_push, Bool.or_eq_true, beq_iff_eq] at hsx
    rcases hsx with hsx | hsx
    · exact List.mem_append_left _ (h.all x hx hsx g hg hkx)
    · have hxe : x = e := born_inj hn hx he hsx
      rw [hxe, hk] at hkx
      injection hkx with hkx
      obtain ⟨i, hi, e1⟩ := List.getElem_of_mem hf
      obtain ⟨j, hj, e2⟩ := List.getElem_of_mem hg
      have hgf : g = f := by
        rw [List.pairwise_iff_getElem] at hd
        rcases Nat.lt_trichotomy i j with h2 | h2 | h2
        · exact absurd (by rw [e1, e2]; exact hkx) (hd i j hi hj h2)
        · subst h2; rw [← e1, ← e2]
        · exact absurd (by rw [e1, e2]; exact hkx.symm) (hd j i hj hi h2)
      rw [hgf]
      exact List.mem_append_right _ (List.mem_singleton.2 rfl)
theorem VIn.fin {es : Array MapEntry} {seen : Array Nat} {m L : List Vd} (hm : es.toList.map (fun e => (e.key, e.val)) = (mVd m).map (fun p => (Value.string p.1, p.2))) (h : VIn es seen m L) (h0 : (leftOf es seen).size = 0) : ∀ f, f ∈ L ↔ f ∈ m := fun f =>
  ⟨fun hf => (h.sub f hf).1, fun hf => by
    obtain ⟨e, he, hk⟩ := field_ent hm hf
    exact h.all e he (all_seen es seen h0 e he) f hf hk⟩
theorem upd_setBlock (w : World) (r : Nat) (o : Obj) : Upd (fun j => j = r) w (Go.ChangeMaps.setBlock w r o) := ⟨rfl, rfl, rfl, by simp [Go.ChangeMaps.setBlock], fun i hi hF => by simp [Go.ChangeMaps.setBlock, Ne.symm (show i ≠ r from hF)]⟩
theorem heap_setBlock {w : World} {r : Nat} {o o' : Obj} (h : w.heap[r]? = some o) : (Go.ChangeMaps.setBlock w r o').heap[r]? = some o' := by
  have := (Array.getElem?_eq_some_iff.1 h).1
  simp [Go.ChangeMaps.setBlock, this]
set_option maxRecDepth 100000 in
set_option maxHeartbeats 2000000 in
theorem tvars_x (t : Tm) (v : Value) (w : World) (htab : AscT w) (hR : TmR (fun k => k < w.heap.size) w t v) (hsz : (t.size : Int) ≤ 1000000) : Calls Tryz.prog 114 #[v] w fun e w' => ∃ r, e = .returned (.tuple #[r, .int .i64 (varsF t).2]) ∧ FiR (fun k => w.heap.size ≤ k ∧ k < w'.heap.size) w' r (varsF t).1 ∧ Ext w w' := by
  have HR := Lib.hid hR
  obtain ⟨a, cap, rfl, hT⟩ := hR
  have HTL := Lib.hid hT
  dsimp only [tV]
  have HZ := Lib.hid ((Upd.refl (fun _ => False) w).alloc (.cells #[.string t.name, .string t.sort, .slice a t.kids.length cap] 25))
  have HB := Lib.hid (alloc0 w (.cells #[.string t.name, .string t.sort, .slice a t.kids.length cap] 25))
  have HSZ := Lib.hid hsz
  have HF := Lib.hid (fun W (hW : Ext w W) => formed_x t _ W (asc_ext htab hW) ((HR.out.ext hW).weaken (fun k hk => Nat.lt_of_lt_of_le hk hW.size)) (by omega))
  dsimp only [tV] at HF
  have c0 := cellRow HB.out 0 (.string t.name) rfl
  have c1 := cellRow HB.out 1 (.string t.sort) rfl
  have c2 := cellRow HB.out 2 (.slice a t.kids.length cap) rfl
  clear hT
  obtain ⟨VF, hVF⟩ : ∃ x, varsF t = x := ⟨_, rfl⟩
  have HVF : Hid ((if wf nmB t = true then (varsT t, 0) else ([], 1)) = VF) := Lib.hid hVF
  rw [hVF]
  clear hVF
  cases hfm : formed nmB t
  · rw [hfm] at HF
    have hwf := wf_false hfm
    have hv := HVF.out
    rw [hwf, if_neg (by simp)] at hv
    subst hv
    clear hwf hfm
    go_enter Tryz.func114, Tryz.ntmps114
    go_wp2_with fail
    refine (HF.out _ HZ.out).mono ?_
    rintro e w4 ⟨rfl, hw4⟩
    have H4 := Lib.hid (HZ.out.ext hw4)
    clear hw4 c0 c1 c2
    go_wp2_with fail
    go_ret2
    exact ⟨_, rfl, SlR.nil _ _ _, H4.out⟩
  rw [hfm] at HF
  have HSO : Hid (wf nmB t = (sortsT t).isSome) := Lib.hid (by unfold wf; rw [hfm, Bool.true_and])
  clear hfm
  go_enter Tryz.func114, Tryz.ntmps114
  go_wp2_with fail
  refine (HF.out _ HZ.out).mono ?_
  rintro e w4 ⟨rfl, hw4⟩
  have H4 := Lib.hid (HZ.out.ext hw4)
  have HB4 := Lib.hid (hw4.heap HB.out (fun h => h))
  clear hw4 c0 c1 c2
  have c0 := cellRow HB4.out 0 (.string t.name) rfl
  have c1 := cellRow HB4.out 1 (.string t.sort) rfl
  have c2 := cellRow HB4.out 2 (.slice a t.kids.length cap) rfl
  have HBX := Lib.hid (alloc0 w4 (.cells #[.string t.name, .string t.sort, .slice a t.kids.length cap] 25))
  have HE5 := Lib.hid (H4.out.alloc (.cells #[.string t.name, .string t.sort, .slice a t.kids.length cap] 25))
  go_wp2_with fail
  generalize (w4.alloc (.cells #[.string t.name, .string t.sort, .slice a t.kids.length cap] 25)) = w5 at *
  have x0 := cellRow HBX.out 0 (.string t.name) rfl
  have x1 := cellRow HBX.out 1 (.string t.sort) rfl
  have x2 := cellRow HBX.out 2 (.slice a t.kids.length cap) rfl
  have HSR := Lib.hid (sorts_x t w4.heap.size 0 1 0 cap a w5 ⟨x0, x1, x2⟩ ((HTL.out.ext HE5.out).weaken (fun k hk => Nat.lt_of_lt_of_le hk HE5.out.size)) (by omega))
  clear x0 x1 x2 c0 c1 c2
  refine HSR.out.mono ?_
  rintro e w6 ⟨hp, hw6⟩
  have H6 := Lib.hid (HE5.out.ext hw6)
  have hws := Nat.le_trans HE5.out.size hw6.size
  have hbb : w5.heap.size ≤ w6.heap.size := hw6.size
  unfold SortsP at hp
  clear hw6 HSR
  cases hso : sortsT t with
  | none =>
    rw [hso] at hp
    simp only at hp
    subst hp
    have hv := HVF.out
    rw [HSO.out, hso, if_neg (by simp)] at hv
    subst hv
    go_wp2_with fail
    go_ret2
    exact ⟨_, rfl, SlR.nil _ _ _, H6.out⟩
  | some m =>
    rw [hso] at hp
    simp only at hp
    obtain ⟨b, rfl, hb5, es, clock, hb, hes, hbp, hbc⟩ := hp
    have hv := HVF.out
    rw [HSO.out, hso, if_pos (by simp)] at hv
    subst hv
    have HMD := Lib.hid (sortsT_dist hso)
    have HVS := Lib.hid (varsT_spec hso)
    have hml : m.length ≤ 1000000 := by
      have h1 := sFold_len _ _ _ (show sFold [] (vl (sbts t)) = some m from hso)
      have h2 : (vl (sbts t)).length ≤ t.size := by
        have h1 : (vl (sbts t)).length ≤ (sbts t).length := List.length_filterMap_le _ _
        have h2 : (sbts t).length = t.size := by rw [sbts, List.length_map, nodesD_len]
        omega
      simp only [List.length_nil] at h1
      omega
    have HML := Lib.hid hml
    have HES := Lib.hid hes
    have HND : Hid ((es.toList.map (·.born)).Nodup) := Lib.hid (by
      rw [List.Nodup, List.pairwise_map]
      exact hbp.imp (fun h e => by omega))
    have HBC := Lib.hid hbc
    have hrg := run_range_map (P := Tryz.prog) w6 98 9 9 b es clock Tryz.underlying98 hb
    have hblt : b < w6.heap.size := (Array.getElem?_eq_some_iff.1 hb).1
    have HBL := Lib.hid hblt
    have HB0 := Lib.hid (allocOld hb (.mapIter (some b) clock #[] clock))
    have HR0 := Lib.hid (alloc0 w6 (.mapIter (some b) clock #[] clock))
    have HE0 := Lib.hid (H6.out.alloc (.mapIter (some b) clock #[] clock))
    have HZ0 : Hid (w6.heap.size + 1 ≤ (w6.alloc (.mapIter (some b) clock #[] clock)).heap.size) := Lib.hid (by simp)
    have HWS := Lib.hid hws
    clear hso hes hbp hbc hml HSO HF HBX hb hblt hbb hb5 HVF
    go_wp2_with fail
    try go_frame
    generalize w6.alloc (.mapIter (some b) clock #[] clock) = w7 at *
    clear hrg
    obtain ⟨r, hr⟩ : ∃ r, w6.heap.size = r := ⟨_, rfl⟩
    rw [hr] at HR0 HZ0 HBL HWS ⊢
    clear hr
    go_loopg [6] (leftOf es #[]).size (fun gk ov wr => ∃ (oa : Option Addr) (oc : Nat) (L : List Vd) (seen : Array Nat), ov = .slice oa L.length oc ∧ gk = (leftOf es seen).size ∧ Hid (wr.ownsRow (r + 1) 131 2 (.slice oa L.length oc) L.length (fCells L)) ∧ Hid (wr.heap[r]? = some (.mapIter (some b) clock seen clock)) ∧ Hid (wr.heap[b]? = some (.map es clock)) ∧ Hid (Ext w wr) ∧ Hid (r + 1 ≤ wr.heap.size) ∧ Hid (VIn es seen m L))
    case atStart => exact ⟨none, 0, [], #[], rfl, rfl, Lib.hid ⟨rfl, .inl ⟨rfl, rfl⟩⟩, HR0, HB0, HE0, HZ0, Lib.hid (VIn.start es m)⟩
    case round =>
      clear HR0 HB0 HE0 HZ0
      obtain ⟨oa, oc, L, seen, rfl, rfl, HO, HRR, HBB, HE, HSR, HV⟩ := hrel
      rcases run_next_at (P := Tryz.prog) wr 0 r b clock clock seen es clock HRR.out HBB.out (fun x hx => HBC.out x hx) (Nat.le_refl _) with ⟨h0, hrun⟩ | ⟨e, he, w1, hw1, hrun⟩
      · have hnx : ∀ ty, (Instr.next (.pointer (some ⟨r, 0, none⟩)) false ty).run Tryz.prog wr = _ := fun _ => hrun
        have hfin := HV.out.fin HES.out h0
        have hll : L.length ≤ 1000000 := by
          have hnd : L.Nodup := HV.out.dist.imp (fun h e => h (by rw [e]))
          have := hnd.length_le_of_subset (fun f hf => (hfin f).1 hf)
          have := HML.out
          omega
        have HST := Lib.hid (fun W (hW : Ext wr W) => sortV_x L (r + 1) (.slice oa L.length oc) W (own_kept HO.out hW (fun _ _ h => h)) HV.out.dist hll)
        have HOB : Hid (∀ k, (Value.slice oa L.length oc).ownBlock = some k → r + 1 ≤ k ∧ k < wr.heap.size) := Lib.hid (fun k hk => HO.out.lt k hk)
        have HFN := Lib.hid hfin
        clear hfin hll h0
        go_wp2_with fail
        refine (HST.out _ (Upd.refl _ _)).mono ?_
        rintro e w8 ⟨rfl, L', ha, hperm, hF, hu⟩
        have hLV : L' = varsT t := asc_uniq Prod.fst ha HVS.out.1 (fun f => by rw [hperm.mem_iff, HFN.out f, HVS.out.2 f])
        have hlen : L.length = (varsT t).length := by rw [← hLV, hperm.length_eq]
        have HF8 : Hid (FiR (fun k => w.heap.size ≤ k ∧ k < w8.heap.size) w8 (.slice oa L.length oc) (varsT t)) := Lib.hid (by rw [← hLV]; exact SlR.weaken hF (fun k hk => ⟨by have h1 := (HOB.out k hk).1; have h2 := HWS.out; omega, Nat.lt_of_lt_of_le (HOB.out k hk).2 hu.size⟩))
        have HE8 : Hid (Ext w w8) := Lib.hid (HE.out.trans' hu (fun j hj e => by have h1 := (HOB.out j e).1; have h2 := HWS.out; omega))
        clear hnx hrun hLV hlen ha hperm hF hu HST
        go_wp2_with fail
        go_ret2
        exact ⟨_, rfl, HF8.out, HE8.out⟩
      · have hml := mem_left he
        obtain ⟨f, hf, hk, hvv⟩ := ent_field HES.out hml.1
        have hrw : w1.heap[r]? = some (.mapIter (some b) clock seen clock) := by rcases hw1 with h | h <;> (rw [h]; exact HRR.out)
        have hrb : w1.heap[b]? = some (.map es clock) := by rcases hw1 with h | h <;> (rw [h]; exact HBB.out)
        have hu1 : Upd (fun j => j = r) wr (Go.ChangeMaps.setBlock w1 r (.mapIter (some b) clock (seen.push e.born) clock)) := by
          have := upd_setBlock w1 r (.mapIter (some b) clock (seen.push e.born) clock)
          rcases hw1 with h | h
          · rw [h] at this ⊢; exact this
          · rw [h] at this ⊢; exact this.ofDrew
        have hr2 := heap_setBlock (o' := .mapIter (some b) clock (seen.push e.born) clock) hrw
        rw [hk, hvv] at hrun
        generalize Go.ChangeMaps.setBlock w1 r (.mapIter (some b) clock (seen.push e.born) clock) = wN at *
        have HBN := Lib.hid (hu1.heap HBB.out (by have := HBL.out; omega))
        have HRN := Lib.hid hr2
        have hen := run_entry_at (P := Tryz.prog) wN r b clock seen es clock e hr2 HBN.out hml.1 HND.out
        rw [hk, hvv] at hen
        have hnx : ∀ ty, (Instr.next (.pointer (some ⟨r, 0, none⟩)) false ty).run Tryz.prog wr = _ := fun _ => hrun
        have HON : Hid (wN.ownsRow (r + 1) 131 2 (.slice oa L.length oc) L.length (fCells L)) := Lib.hid (own_kept HO.out hu1 (fun j hj e => by have := (HO.out.lt j hj).1; omega))
        have HEN : Hid (Ext w wN) := Lib.hid (HE.out.trans' hu1 (fun j hj e => by have h2 := HWS.out; omega))
        have HVN := Lib.hid (HV.out.next HES.out HMD.out HND.out hml.1 hml.2 hf hk)
        have HLT := Lib.hid (left_shrinks es seen e he)
        have hll : L.length ≤ 1000000 := by
          have hnd : L.Nodup := HV.out.dist.imp (fun h e => h (by rw [e]))
          have := hnd.length_le_of_subset (fun f hf => (HV.out.sub f hf).1)
          have := HML.out
          omega
        have HSN : Hid (r + 1 ≤ wN.heap.size) := Lib.hid (Nat.le_trans HSR.out hu1.size)
        clear hml hf hk hvv hrw hrb hu1 hr2 he hw1
        obtain ⟨iF, hi, hz0, hz1, hz2⟩ := info_parts infoF
        go_wp2_with (at_builtin; refine wpList_append_at _ rfl (.tmp 27) (.tmp 31) 66 rfl (r + 1) 131 iF (.agg #[.string ⟨#[]⟩, .string ⟨#[]⟩]) 2 32 Tryz.underlying66 hi hz0 hz1 hz2 rfl (by decide) _ _ _ rfl (HON.out.alloc _) _ 1 1 [.string f.1, .string f.2] rfl rfl ?c1 ?c2 ?c3 ?c4 ?c5 ?_)
        case c1 =>
          intro l u hl
          match l, hl with
          | 0, hl => simp only [List.getElem?_cons_zero, Option.some.injEq] at hl; subst hl; simp only [Addr.add]; exact cellRow (alloc0 _ _) 0 _ rfl
          | 1, hl => simp at hl; subst hl; simp only [Addr.add]; exact cellRow (alloc0 _ _) 1 _ rfl
        case c2 => intro u hu; simp at hu; rcases hu with h | h <;> (subst h; rfl)
        case c3 => unfold maxLen; omega
        case c4 => omega
        case c5 => have := HSN.out; simp; omega
        intro v6 w8 hG
        obtain ⟨a6, c6, rfl⟩ := own_shape hG.own
        have hua := (Upd.refl (fun _ => False) wN).alloc (.cells #[.string f.1, .string f.2] 131)
        have HO8 : Hid (w8.ownsRow (r + 1) 131 2 (.slice a6 (L ++ [f]).length c6) (L ++ [f]).length (fCells (L ++ [f]))) := Lib.hid (by
          have h := hG.own
          rw [show (L ++ [f]).length = L.length + 1 by simp, fCells_append]
          exact h)
        have hUU : Upd (fun j => (Value.slice oa L.length oc).ownBlock = some j) wN w8 := (hua.mono (fun _ _ h => h.elim)).trans hG.upd
        have HOO : ∀ j, (Value.slice oa L.length oc).ownBlock = some j → r + 1 ≤ j := fun j hj => (HON.out.lt j hj).1
        have HR8 := Lib.hid (hUU.heap HRN.out (fun e => by have := HOO _ e; omega))
        have HB8 := Lib.hid (hUU.heap HBN.out (fun e => by have := HOO _ e; have := HBL.out; omega))
        have HE8 : Hid (Ext w w8) := Lib.hid (HEN.out.trans' hUU (fun j hj e => by have := HOO _ e; have h2 := HWS.out; omega))
        have HS8 : Hid (r + 1 ≤ w8.heap.size) := Lib.hid (Nat.le_trans HSN.out hUU.size)
        clear hG hua hUU HOO hi hz0 hz1 hz2 hnx hrun hen
        go_wp2_with fail
        have hlt := HLT.out
        go_roundg (leftOf es (seen.push e.born)).size
        case measure => exact hlt
        case rel => exact ⟨a6, c6, L ++ [f], seen.push e.born, by simp, rfl, HO8, HR8, HB8, HE8, HS8, HVN⟩

end Go.Proofs.YtiimccogojkldaaGreatDoor

/- Terms in memory of one's own: no block stands twice in one. What a store at a path leaves. -/
namespace Go.Hw
open Go.RowKit Tm
set_option linter.unusedVariables false
set_option linter.unusedSimpArgs false
/-- a list of terms in blocks of its own -/
inductive TlO (te : TypeId) (w : World) : (Nat → Prop) → List Tm → Value → Prop
  | mk (B : Nat → Prop) (L : List Tm) (us : List Value) (v : Value) (Bk : Nat → Nat → Prop)
      (hl : us.length = L.length) (hown : w.ownsRow 0 te 3 v L.length (tCells L us))
      (hb : ∀ k, v.ownBlock = some k → B k) (hkb : ∀ i k, i < L.length → Bk i k → B k)
      (hrow : ∀ i k, i < L.length → Bk i k → v.ownBlock ≠ some k)
      (hdis : ∀ i j k, i < L.length → j < L.length → i ≠ j → Bk i k → ¬ Bk j k)
      (hk : ∀ i, i < L.length → TlO te w (Bk i) (tg L i).kids (ug us i)) : TlO te w B L v
section
variable {te : TypeId} {w w' : World} {B B' F S : Nat → Prop} {L : List Tm} {v : Value}
theorem TlO.nil (te : TypeId) (w : World) (B : Nat → Prop) : TlO te w B [] nilS :=
  ⟨B, [], [], nilS, fun _ _ => False, rfl, ⟨rfl, .inl ⟨rfl, rfl⟩⟩, fun k h => by simp [Value.ownBlock] at h, fun i k h => absurd h (Nat.not_lt_zero _), fun i k h => absurd h (Nat.not_lt_zero _), fun i j k h => absurd h (Nat.not_lt_zero _), fun i h => absurd h (Nat.not_lt_zero _)⟩
theorem TlO.weaken (h : TlO te w B L v) (hB : ∀ k, B k → B' k) : TlO te w B' L v := by
  cases h with
  | mk _ _ us _ Bk hl hown hb hkb hrow hdis hk => exact ⟨B', L, us, v, Bk, hl, hown, fun k h => hB k (hb k h), fun i k hi h => hB k (hkb i k hi h), hrow, hdis, hk⟩
theorem TlO.kept (h : TlO te w B L v) (hu : Upd F w w') (hF : ∀ k, B k → ¬ F k) : TlO te w' B L v := by
  induction h with
  | mk B L us v Bk hl hown hb hkb hrow hdis hk ih =>
    exact ⟨B, L, us, v, Bk, hl, own_kept hown hu (fun k hk => hF k (hb k hk)), hb, hkb, hrow, hdis, fun i hi => ih i hi (fun k hk2 => hF k (hkb i k hi hk2))⟩
theorem TlO.read (h : TlO te w B L v) : TlR B w L v := by
  induction h with
  | mk B L us v Bk hl hown hb hkb hrow hdis hk ih =>
    exact .mk L us v hl ((SlR.of_own hown).weaken hb) (fun i hi => (ih i hi).weaken (fun k hk2 => hkb i k hi hk2))
end
/-- where a path leads -/
def okP : Tm → List Nat → Prop
  | _, [] => True
  | t, i :: p => i < t.kids.length ∧ okP (tg t.kids i) p
def tmAt : Tm → List Nat → Tm
  | t, [] => t
  | t, i :: p => tmAt (tg t.kids i) p
theorem sub_of : ∀ (p : List Nat) (t : Tm), okP t p → subAt t p = some (tmAt t p)
  | [], t, _ => rfl
  | i :: p, t, h => by
    unfold subAt tmAt
    have e : t.kids[i]? = some (tg t.kids i) := by
      unfold tg
      rw [List.getD_eq_getElem?_getD, List.getElem?_eq_getElem h.1]
      rfl
    rw [e, Option.bind_some]
    exact sub_of p _ h.2
/-- the address at a path, from the address of a term -/
def AdrP (w : World) : List Nat → Nat × Nat → Nat × Nat → Prop
  | [], a, a' => a' = a
  | i :: p, a, a' => ∃ g off n c, w.cell? ⟨a.1, a.2 + 2, none⟩ = some (.slice (some ⟨g, off, none⟩) n c) ∧ AdrP w p (g, off + i * 3) a'
/-- a term stored at an address -/
def st3 (w : World) (a : Nat × Nat) (n s : By) (u : Value) : World := ((w.setCell ⟨a.1, a.2, none⟩ (.string n)).setCell ⟨a.1, a.2 + 1, none⟩ (.string s)).setCell ⟨a.1, a.2 + 2, none⟩ u
theorem st3_upd (w : World) (a : Nat × Nat) (n s : By) (u : Value) : Upd (fun k => k = a.1) w (st3 w a n s u) :=
  (((Upd.refl (fun k => k = a.1) w).setCell (p := ⟨a.1, a.2, none⟩) (.inl rfl) _).setCell (p := ⟨a.1, a.2 + 1, none⟩) (.inl rfl) _).setCell (p := ⟨a.1, a.2 + 2, none⟩) (.inl rfl) _
theorem own_setN {w : World} {b : Nat} {e : TypeId} {g cap n size : Nat} {xs : List Value} (h : w.ownsRow b e size (.slice (some ⟨g, 0, none⟩) n cap) n xs) (j : Nat) (u : Value) :
    (w.setCell ⟨g, j, none⟩ u).ownsRow b e size (.slice (some ⟨g, 0, none⟩) n cap) n (xs.set j u) := by
  obtain ⟨h1, ⟨e0, _⟩ | ⟨g', cap', cur, e0, h3, h4, h5, h6, h7, h8⟩⟩ := h
  · cases e0
  · injection e0 with e1 e2 e3
    injection e1 with e1
    injection e1 with e1
    subst e1; subst e3
    refine ⟨by rw [List.length_set]; exact h1, .inr ⟨g, cap, _, rfl, h3, setBlock h4 j u, h5, h6, by rw [Array.size_setIfInBounds]; exact h7, ?_⟩⟩
    rw [← h8, Array.toList_setIfInBounds, List.take_set]
theorem tCells_set : ∀ (L : List Tm) (us : List Value) (i : Nat) (y : Tm) (u : Value), us.length = L.length → i < L.length → (((tCells L us).set (i * 3) (.string y.name)).set (i * 3 + 1) (.string y.sort)).set (i * 3 + 2) u = tCells (L.set i y) (us.set i u)
  | t :: L, a :: us, 0, y, u, _, _ => rfl
  | t :: L, a :: us, i + 1, y, u, hl, hi => by
    have ih := tCells_set L us i y u (by simpa using hl) (by simpa using hi)
    rw [show (i + 1) * 3 = i * 3 + 1 + 1 + 1 by omega]
    simp only [tCells, List.headD_cons, List.tail_cons, List.set_cons_succ, ← ih]
theorem tCells_same : ∀ (L : List Tm) (us : List Value) (i : Nat) (y : Tm), y.name = (tg L i).name → y.sort = (tg L i).sort → tCells (L.set i y) us = tCells L us
  | [], _, _, _, _, _ => rfl
  | t :: L, us, 0, y, h1, h2 => by
    simp only [List.set_cons_zero, tCells]
    rw [show y.name = t.name from h1, show y.sort = t.sort from h2]
  | t :: L, us, i + 1, y, h1, h2 => by
    simp only [List.set_cons_succ, tCells]
    rw [tCells_same L us.tail i y h1 h2]
theorem tg_set (L : List Tm) (i j : Nat) (y : Tm) (hi : i < L.length) : tg (L.set i y) j = if i = j then y else tg L j := by
  unfold tg
  rw [List.getD_eq_getElem?_getD, List.getElem?_set]
  by_cases h : i = j
  · subst h
    rw [if_pos rfl, if_pos rfl, if_pos hi]; rfl
  · rw [if_neg h, if_neg h, List.getD_eq_getElem?_getD]
theorem ug_set (us : List Value) (i j : Nat) (u : Value) (hi : i < us.length) : ug (us.set i u) j = if i = j then u else ug us j := by
  unfold ug
  rw [List.getD_eq_getElem?_getD, List.getElem?_set]
  by_cases h : i = j
  · subst h
    rw [if_pos rfl, if_pos rfl, if_pos hi]; rfl
  · rw [if_neg h, if_neg h, List.getD_eq_getElem?_getD]
theorem own_row0 {w : World} {b : Nat} {e : TypeId} {size n : Nat} {v : Value} {xs : List Value} (h : w.ownsRow b e size v n xs) (hn : 0 < n) : ∃ g cap cur, v = .slice (some ⟨g, 0, none⟩) n cap ∧ w.heap[g]? = some (.cells cur e (0, 0)) ∧ n * size ≤ cur.size := by
  rcases h.2 with ⟨_, h2⟩ | ⟨g, cap, cur, rfl, hb, hg, hc, hm, hs, ht⟩
  · omega
  · exact ⟨g, cap, cur, rfl, hg, by rw [hs]; exact Nat.mul_le_mul_right _ hc⟩
theorem put_list {te : TypeId} {w : World} (y : Tm) (u : Value) (S : Nat → Prop) (hy : TlR S w y.kids u) : ∀ (p : List Nat) (i : Nat) (L : List Tm) (v : Value) (B : Nat → Prop) (g n c : Nat) (a : Nat × Nat), TlO te w B L v → (∀ k, S k → ¬ B k) → v = .slice (some ⟨g, 0, none⟩) n c → i < L.length → okP (tg L i) p → AdrP w p (g, i * 3) a →
    B a.1 ∧ (∃ cur, w.heap[a.1]? = some (.cells cur te (0, 0)) ∧ a.2 + 2 < cur.size) ∧ TlR (fun k => B k ∨ S k) (st3 w a y.name y.sort u) (L.set i (putAt (tg L i) p y)) v
  | [], i, L, v, B, g, n, c, a, h, hS, hv, hi, hp, ha => by
    have ha : a = (g, i * 3) := ha
    subst ha
    cases h with
    | mk _ _ us _ Bk hl hown hb hkb hrow hdis hk =>
      obtain ⟨g', cap, cur, hv', hg, hsz⟩ := own_row0 hown (by omega)
      rw [hv] at hv'
      injection hv' with e1 e2 e3
      injection e1 with e1
      injection e1 with e1
      subst e1
      have hBg : B g := hb g (by rw [hv]; rfl)
      refine ⟨hBg, ⟨cur, hg, by show i * 3 + 2 < _; omega⟩, ?_⟩
      have hU := st3_upd w (g, i * 3) y.name y.sort u
      have hown2 : (st3 w (g, i * 3) y.name y.sort u).ownsRow 0 te 3 v L.length (tCells (L.set i y) (us.set i u)) := by
        rw [← tCells_set L us i y u hl hi]
        rw [hv, e2] at hown ⊢
        exact own_setN (own_setN (own_setN hown _ _) _ _) _ _
      have e4 : putAt (tg L i) [] y = y := by cases tg L i; rfl
      rw [e4]
      refine .mk _ (us.set i u) v (by simp [hl]) (by rw [List.length_set]; exact (SlR.of_own hown2).weaken (fun k hk => .inl (hb k hk))) (fun j hj => ?_)
      rw [List.length_set] at hj
      rw [tg_set L i j y hi, ug_set us i j u (by omega)]
      by_cases hij : i = j
      · rw [if_pos hij, if_pos hij]
        exact (hy.kept hU (fun k hk e => hS k hk (by rw [show k = g from e]; exact hBg))).weaken (fun k hk => .inr hk)
      · rw [if_neg hij, if_neg hij]
        exact ((hk j hj).kept hU (fun k hk e => hrow j k hj hk (by rw [hv, show k = g from e]; rfl))).read.weaken (fun k hk => .inl (hkb j k hj hk))
  | i' :: p, i, L, v, B, g, n, c, a, h, hS, hv, hi, hp, ha => by
    cases h with
    | mk _ _ us _ Bk hl hown hb hkb hrow hdis hk =>
      obtain ⟨g', cap, cur, hv', hg, hsz⟩ := own_row0 hown (by omega)
      have hv2 := hv
      rw [hv] at hv'
      injection hv' with e1 e2 e3
      injection e1 with e1
      injection e1 with e1
      subst e1
      obtain ⟨g2, off2, n2, c2, hc2, ha2⟩ := ha
      have hcell : w.cell? ⟨g, i * 3 + 2, none⟩ = some (ug us i) := by
        have h1 := SlR.cellAt (SlR.of_own hown) (g := g) (off := 0) (by rw [hv]) (j := i * 3 + 2) (by omega)
        rw [Nat.zero_add] at h1
        rw [h1]
        exact (tCells_at L us i hi).2.2
      rw [hcell] at hc2
      injection hc2 with hc2
      have hki := hk i hi
      have hoff : off2 = 0 := by
        have h0 : 0 < (tg L i).kids.length := by have := hp.1; omega
        cases hki with
        | mk _ _ us2 _ _ _ hown2 _ _ _ _ _ =>
          obtain ⟨g3, c3, cur3, hv3, _, _⟩ := own_row0 hown2 h0
          rw [hc2] at hv3
          injection hv3 with e4 _ _
          injection e4 with e4
          injection e4
      subst hoff
      obtain ⟨h1, h2, h3⟩ := put_list y u S hy p i' (tg L i).kids (ug us i) (Bk i) g2 n2 c2 a hki (fun k hk hb2 => hS k hk (hkb i k hi hb2)) hc2 hp.1 hp.2 (by rw [Nat.zero_add] at ha2; exact ha2)
      have hU := st3_upd w a y.name y.sort u
      refine ⟨hkb i _ hi h1, h2, ?_⟩
      obtain ⟨nm, so, K, hK⟩ : ∃ nm so K, tg L i = .mk nm so K := ⟨_, _, _, (eta _).symm⟩
      have e5 : putAt (tg L i) (i' :: p) y = .mk nm so (K.set i' (putAt (tg K i') p y)) := by rw [hK]; rfl
      rw [hK] at h3
      simp only [Tm.kids] at h3
      rw [e5]
      refine .mk _ us v (by simp [hl]) ?_ (fun j hj => ?_)
      · rw [List.length_set, tCells_same L us i _ (by rw [hK]; rfl) (by rw [hK]; rfl)]
        exact (SlR.kept (SlR.of_own hown) hU (fun k hk e => hrow i k hi (by rw [show k = a.1 from e]; exact h1) hk)).weaken (fun k hk => .inl (hb k hk))
      · rw [List.length_set] at hj
        rw [tg_set L i j _ hi]
        by_cases hij : i = j
        · subst hij
          rw [if_pos rfl]
          simp only [Tm.kids]
          exact h3.weaken (fun k hk => hk.elim (fun hk => .inl (hkb i k hi hk)) .inr)
        · rw [if_neg hij]
          exact ((hk j hj).kept hU (fun k hk2 e => hdis i j k hi hj hij (by rw [show k = a.1 from e]; exact h1) hk2)).read.weaken (fun k hk2 => .inl (hkb j k hj hk2))
/-- a term in a box, of one's own: what a store at a path leaves -/
theorem put_box {te : TypeId} {w : World} {b : Nat} {B S : Nat → Prop} {t y : Tm} {u0 u : Value} {p : List Nat} {a : Nat × Nat} (hb : w.heap[b]? = some (.cells #[.string t.name, .string t.sort, u0] te (0, 0))) (h : TlO te w B t.kids u0) (hbb : ¬ B b) (hy : TlR S w y.kids u) (hS : ∀ k, S k → ¬ B k ∧ k ≠ b) (hp : okP t p) (ha : AdrP w p (b, 0) a) :
    (a.1 = b ∨ B a.1) ∧ (∃ cur, w.heap[a.1]? = some (.cells cur te (0, 0)) ∧ a.2 + 2 < cur.size) ∧ ∃ u', (st3 w a y.name y.sort u).heap[b]? = some (.cells #[.string (putAt t p y).name, .string (putAt t p y).sort, u'] te (0, 0)) ∧ TlR (fun k => B k ∨ S k) (st3 w a y.name y.sort u) (putAt t p y).kids u' := by
  cases p with
  | nil =>
    have ha : a = (b, 0) := ha
    subst ha
    have e4 : putAt t [] y = y := by cases t; rfl
    rw [e4]
    refine ⟨.inl rfl, ⟨_, hb, by simp⟩, u, ?_, (hy.kept (st3_upd w (b, 0) y.name y.sort u) (fun k hk e => (hS k hk).2 e)).weaken (fun k hk => .inr hk)⟩
    have := setBlock (setBlock (setBlock hb 0 (.string y.name)) 1 (.string y.sort)) 2 u
    simpa [st3] using this
  | cons i p =>
    obtain ⟨g, off, n, c, hc, ha⟩ := ha
    have hcell : w.cell? ⟨b, 0 + 2, none⟩ = some u0 := cellRow hb 2 u0 rfl
    rw [hcell] at hc
    injection hc with hc
    have hoff : off = 0 := by
      have h0 : 0 < t.kids.length := by have := hp.1; omega
      cases h with
      | mk _ _ us2 _ _ _ hown2 _ _ _ _ _ =>
        obtain ⟨g3, c3, cur3, hv3, _, _⟩ := own_row0 hown2 h0
        rw [hc] at hv3
        injection hv3 with e4 _ _
        injection e4 with e4
        injection e4
    subst hoff
    obtain ⟨h1, h2, h3⟩ := put_list y u S hy p i t.kids u0 B g n c a h (fun k hk => (hS k hk).1) hc hp.1 hp.2 (by rw [Nat.zero_add] at ha; exact ha)
    refine ⟨.inr h1, h2, u0, ?_, ?_⟩
    · have e : (putAt t (i :: p) y).name = t.name ∧ (putAt t (i :: p) y).sort = t.sort := by cases t; exact ⟨rfl, rfl⟩
      rw [e.1, e.2]
      exact (st3_upd w a y.name y.sort u).heap hb (fun e => hbb (by rw [show b = a.1 from e]; exact h1))
    · have e : (putAt t (i :: p) y).kids = t.kids.set i (putAt (tg t.kids i) p y) := by cases t; rfl
      rw [e]
      exact h3
end Go.Hw

/- copied. -/
namespace Go.Proofs.YtiimccogojkldaaGreatDoor
open Go.RowKit Go.Hw Go
set_option linter.unusedVariables false
set_option linter.unusedSimpArgs false

open Tm
theorem TlO.shape {te : TypeId} {w : World} {B : Nat → Prop} {L : List Tm} {v : Value} (h : TlO te w B L v) : ∃ a cap, v = .slice a L.length cap := h.read.shape
theorem new3 (w : World) (u0 u1 u2 : Value) (t : TypeId) : ∀ (j : Nat) (u : Value), [u0, u1, u2][j]? = some u → (w.alloc (.cells #[u0, u1, u2] t)).cell? ((⟨w.heap.size, 0, none⟩ : Addr).add j) = some u := fun j u hj => by
  match j, hj with
  | 0, hj => simp only [List.getElem?_cons_zero, Option.some.injEq] at hj; subst hj; simp only [Addr.add]; exact cellRow (alloc0 _ _) 0 _ rfl
  | 1, hj => simp at hj; subst hj; simp only [Addr.add]; exact cellRow (alloc0 _ _) 1 _ rfl
  | 2, hj => simp at hj; subst hj; simp only [Addr.add]; exact cellRow (alloc0 _ _) 2 _ rfl
/-- what stands copied -/
structure CpJ (te : TypeId) (n0 : Nat) (wr : World) (L : List Tm) (lv : Value) (us : List Value) (Bk : Nat → Nat → Prop) (k : Nat) : Prop where
  len : us.length = k
  own : wr.ownsRow n0 te 3 lv k (tCells (L.take k) us)
  kid : ∀ i, i < k → TlO te wr (Bk i) (tg L i).kids (ug us i)
  blk : ∀ i j, i < k → Bk i j → n0 ≤ j ∧ j < wr.heap.size ∧ lv.ownBlock ≠ some j
  dis : ∀ i i' j, i < k → i' < k → i ≠ i' → Bk i j → ¬ Bk i' j
theorem CpJ.grow {te : TypeId} {n0 n3 k : Nat} {wr wq w5 wA w7 w8 : World} {L : List Tm} {lv lv' u : Value} {us : List Value} {Bk : Nat → Nat → Prop} {Bx : Nat → Prop} {x : Tm} (h : CpJ te n0 wr L lv us Bk k) (hk : k < L.length) (hx : tg L k = x) (hn : n3 < n0) (h0 : n0 ≤ wr.heap.size) (hq : Ext wr wq) (h5 : Ext wq w5)
    (hT : TlO te w5 Bx x.kids u) (hB : ∀ j, Bx j → wq.heap.size ≤ j ∧ j < w5.heap.size) (hA : Ext w5 wA) (hG : Grew n0 te 3 lv (k + 1) (tCells (L.take k) us ++ [.string x.name, .string x.sort, u]) wA w7 lv') (h8 : Upd (fun j => j = n3) w7 w8) :
    CpJ te n0 w8 L lv' (us ++ [u]) (fun i => if i = k then Bx else Bk i) (k + 1) := by
  have hU1 : Upd (fun j => lv.ownBlock = some j) wr w7 := (((hq.trans h5).trans hA).mono (fun _ _ x => x.elim)).trans hG.upd
  have hlt := fun j hj => h.own.lt j hj
  have hF : ∀ (P : Nat → Prop) (Lx : List Tm) (vx : Value), TlO te w7 P Lx vx → (∀ j, P j → n0 ≤ j) → TlO te w8 P Lx vx := fun P Lx vx ht hp => ht.kept h8 (fun j hj e => by have := hp j hj; omega)
  refine ⟨by rw [List.length_append, h.len]; rfl, ?_, fun i hi => ?_, fun i j hi hj => ?_, fun i i' j hi hi' hne hj => ?_⟩
  · rw [tk_snoc L k hk, tCells_snoc _ _ _ _ (by rw [h.len, List.length_take]; omega), hx]
    exact own_kept hG.own h8 (fun j hj e => by have := (hG.own.lt j hj).1; omega)
  · by_cases e : i = k
    · subst e
      rw [if_pos rfl, hx]
      have e2 : ug (us ++ [u]) i = u := by unfold ug; rw [List.getD_eq_getElem?_getD, List.getElem?_append_right (by rw [h.len]; exact Nat.le_refl _), h.len, Nat.sub_self]; rfl
      rw [e2]
      refine hF _ _ _ ((hT.kept hA (fun _ _ x => x)).kept hG.upd (fun j hj e => ?_)) (fun j hj => by have h1 := hB j hj; have := hq.size; omega)
      have h1 := (hB j hj).1
      have h2 := (hlt j e).2
      have := hq.size
      omega
    · rw [if_neg e]
      have e2 : ug (us ++ [u]) i = ug us i := by unfold ug; rw [List.getD_eq_getElem?_getD, List.getD_eq_getElem?_getD, List.getElem?_append_left (by rw [h.len]; omega)]
      rw [e2]
      exact hF _ _ _ ((h.kid i (by omega)).kept hU1 (fun j hj e => (h.blk i j (by omega) hj).2.2 e)) (fun j hj => (h.blk i j (by omega) hj).1)
  · have hs8 := h8.size
    have hs7 := hG.upd.size
    have hsA := hA.size
    have hs5 := h5.size
    have hsq := hq.size
    have hbn : ∀ j, lv'.ownBlock = some j → lv.ownBlock = some j ∨ w5.heap.size ≤ j := fun j e => by
      rcases hG.where_ with h | h
      · rw [h] at e; exact .inl e
      · rw [h] at e; injection e with e; exact .inr (by omega)
    by_cases e : i = k
    · subst e
      rw [if_pos rfl] at hj
      have h1 := hB j hj
      refine ⟨by omega, by omega, fun e => ?_⟩
      rcases hbn j e with h2 | h2
      · have := (hlt j h2).2; omega
      · omega
    · rw [if_neg e] at hj
      obtain ⟨h1, h2, h3⟩ := h.blk i j (by omega) hj
      refine ⟨h1, by omega, fun e => ?_⟩
      rcases hbn j e with h4 | h4
      · exact h3 h4
      · omega
  · have hsq := hq.size
    by_cases e : i = k
    · subst e
      rw [if_pos rfl] at hj
      have h1 := hB j hj
      rw [if_neg (fun e => hne e.symm)]
      intro h2
      have := (h.blk i' j (by omega) h2).2.1
      omega
    · rw [if_neg e] at hj
      by_cases e' : i' = k
      · subst e'
        rw [if_pos rfl]
        intro h2
        have h3 := hB j h2
        have := (h.blk i j (by omega) hj).2.1
        omega
      · rw [if_neg e']
        exact h.dis i i' j (by omega) (by omega) hne hj
theorem CpJ.fin {te : TypeId} {n0 : Nat} {wr : World} {L : List Tm} {lv : Value} {us : List Value} {Bk : Nat → Nat → Prop} (h : CpJ te n0 wr L lv us Bk L.length) : TlO te wr (fun j => n0 ≤ j ∧ j < wr.heap.size) L lv := by
  have ho := h.own
  rw [List.take_length] at ho
  exact ⟨_, L, us, lv, Bk, h.len, ⟨ho.1, ho.2.imp id (fun ⟨g, c, cur, e, _, h2⟩ => ⟨g, c, cur, e, Nat.zero_le _, h2⟩)⟩, fun k hk => ⟨(ho.lt k hk).1, (ho.lt k hk).2⟩, fun i k hi hk => ⟨(h.blk i k hi hk).1, (h.blk i k hi hk).2.1⟩, fun i k hi hk => (h.blk i k hi hk).2.2, fun i j k hi hj => h.dis i j k hi hj, h.kid⟩
theorem st3_heap {W : World} {z : Nat} {t : TypeId} {v0 v1 v2 : Value} (h : W.heap[z]? = some (.cells #[v0, v1, v2] t (0, 0))) (u0 u1 u2 : Value) : (((W.setCell ⟨z, 0, none⟩ u0).setCell ⟨z, 1, none⟩ u1).setCell ⟨z, 2, none⟩ u2).heap[z]? = some (.cells #[u0, u1, u2] t (0, 0)) := by
  have := setBlock (setBlock (setBlock h 0 u0) 1 u1) 2 u2
  simpa using this
theorem st3_upd' (W : World) (z : Nat) (u0 u1 u2 : Value) : Upd (fun k => k = z) W (((W.setCell ⟨z, 0, none⟩ u0).setCell ⟨z, 1, none⟩ u1).setCell ⟨z, 2, none⟩ u2) :=
  (((Upd.refl (fun k => k = z) W).setCell (p := ⟨z, 0, none⟩) (.inl rfl) u0).setCell (p := ⟨z, 1, none⟩) (.inl rfl) u1).setCell (p := ⟨z, 2, none⟩) (.inl rfl) u2
set_option maxRecDepth 100000 in
set_option maxHeartbeats 2000000 in
theorem copied_x : ∀ (t : Tm) (v : Value) (S : Nat → Prop) (w : World), TmR S w t v → (∀ k, S k → k < w.heap.size) → t.size ≤ 100000 →
    Calls Tryz.prog 61 #[v] w fun e w' => ∃ r B, e = .returned (tV t r) ∧ TlO 25 w' B t.kids r ∧ (∀ j, B j → w.heap.size ≤ j ∧ j < w'.heap.size) ∧ Ext w w' := by
  refine Tm.ind (fun nm so L ih => ?_)
  intro v S w hT hS hsz
  obtain ⟨a, cap, rfl, hT⟩ := hT
  dsimp only [tV, Tm.name, Tm.sort, Tm.kids] at hT ⊢
  have HTL := Lib.hid hT
  have HIH := Lib.hid ih
  have HSS := Lib.hid hS
  have hszL : sizes L + 1 ≤ 100000 := by rw [size_eq] at hsz; simp only [Tm.kids] at hsz; omega
  have HSL := Lib.hid hszL
  have hlL : L.length ≤ 100000 := by have h1 := length_le_sizes L; omega
  have hx3 := (((Upd.refl (fun _ => False) w).alloc (.cells #[.string nm, .string so, .slice a L.length cap] 25)).alloc (.cells #[.string ⟨#[]⟩, .string ⟨#[]⟩, .slice none 0 0] 25)).alloc (.cells #[.string nm, .string so, .slice none 0 0] 25)
  have hb2 := allocOld (alloc_at (w.alloc (.cells #[.string nm, .string so, .slice a L.length cap] 25)) (.cells #[.string ⟨#[]⟩, .string ⟨#[]⟩, .slice none 0 0] 25) (n := w.heap.size + 1) (by simp)) (.cells #[.string nm, .string so, .slice none 0 0] 25)
  have hb3 := alloc_at ((w.alloc (.cells #[.string nm, .string so, .slice a L.length cap] 25)).alloc (.cells #[.string ⟨#[]⟩, .string ⟨#[]⟩, .slice none 0 0] 25)) (.cells #[.string nm, .string so, .slice none 0 0] 25) (n := w.heap.size + 1 + 1) (by simp)
  have hz0 : (((w.alloc (.cells #[.string nm, .string so, .slice a L.length cap] 25)).alloc (.cells #[.string ⟨#[]⟩, .string ⟨#[]⟩, .slice none 0 0] 25)).alloc (.cells #[.string nm, .string so, .slice none 0 0] 25)).heap.size = w.heap.size + 3 := by simp
  have HB2 := Lib.hid hb2
  have HB3 := Lib.hid hb3
  have HE0 := Lib.hid hx3
  have HZ0 := Lib.hid hz0
  clear ih hT hS hsz hszL
  clear hb2 hb3 hx3 hz0
  go_enter Tryz.func61, Tryz.ntmps61
  go_wp2_with fail
  generalize (((w.alloc (.cells #[.string nm, .string so, .slice a L.length cap] 25)).alloc (.cells #[.string ⟨#[]⟩, .string ⟨#[]⟩, .slice none 0 0] 25)).alloc (.cells #[.string nm, .string so, .slice none 0 0] 25)) = W0 at *
  obtain ⟨n3, hn3⟩ : ∃ n3, w.heap.size + 1 + 1 = n3 := ⟨_, rfl⟩
  rw [hn3] at HB3 ⊢
  have HN3 := Lib.hid hn3
  clear hn3
  have HJ0 : Hid (CpJ 25 (w.heap.size + 3) W0 L (.slice none 0 0) [] (fun _ _ => False) 0) := Lib.hid ⟨rfl, ⟨rfl, .inl ⟨rfl, rfl⟩⟩, fun i hi => absurd hi (Nat.not_lt_zero _), fun i j hi => absurd hi (Nat.not_lt_zero _), fun i i' j hi => absurd hi (Nat.not_lt_zero _)⟩
  have HSW0 : Hid (w.heap.size + 3 ≤ W0.heap.size) := Lib.hid (by rw [HZ0.out]; exact Nat.le_refl _)
  clear HZ0
  go_loopg [11] L.length (fun gk iv wr => ∃ (k : Nat) (lv : Value) (us : List Value) (Bk : Nat → Nat → Prop), iv = .int .i64 (k : Int) ∧ gk = L.length - k ∧ k ≤ L.length ∧ Hid (CpJ 25 (w.heap.size + 3) wr L lv us Bk k) ∧ Hid (wr.heap[w.heap.size + 1]? = some (.cells #[.string ⟨#[]⟩, .string ⟨#[]⟩, .slice none 0 0] 25 (0, 0))) ∧ Hid (wr.heap[n3]? = some (.cells #[.string nm, .string so, lv] 25 (0, 0))) ∧ Hid (Ext w wr) ∧ Hid (w.heap.size + 3 ≤ wr.heap.size))
  case atStart => exact ⟨0, _, _, _, rfl, rfl, Nat.zero_le _, HJ0, HB2, HB3, HE0, HSW0⟩
  case round =>
    clear HJ0 HB2 HB3 HE0 HSW0
    obtain ⟨k, lv, us, Bk, rfl, rfl, hk, HJ, HB2, HB3, HE, HSZ⟩ := hrel
    obtain ⟨la, lc, hlv⟩ := own_shape HJ.out.own
    subst hlv
    by_cases hlt : k < L.length
    · obtain ⟨g, off, hga, _, hat⟩ := (HTL.out.ext HE.out).at_ (by omega)
      subst hga
      obtain ⟨xa, xc, q0, q1, q2, hkid⟩ := hat k hlt
      rw [← Nat.add_assoc] at q1 q2
      have z0 : (0 : Int) ≤ (k : Int) := by omega
      have z1 : (k : Int) < (L.length : Int) := by omega
      have z2 : decide ((k : Int) < (L.length : Int)) = true := decide_eq_true z1
      have z2' : decide (k < L.length) = true := decide_eq_true hlt
      have HIX := Lib.hid (fun W (hW : Ext (wr.alloc (.cells #[.string (tg L k).name, .string (tg L k).sort, .slice xa (tg L k).kids.length xc] 25)) W) => HIH.out (tg L k) (tg_mem L k hlt) _ S W ⟨xa, xc, rfl, (hkid.ext ((Upd.refl (fun _ => False) wr).alloc _)).ext hW⟩ (fun j hj => Nat.lt_of_lt_of_le (HSS.out j hj) (Nat.le_trans HE.out.size (Nat.le_trans ((Upd.refl (fun _ => False) wr).alloc (.cells #[.string (tg L k).name, .string (tg L k).sort, .slice xa (tg L k).kids.length xc] 25)).size hW.size))) (by have h1 := HSL.out; have h2 := sizes_take L k hlt; have h3 := sizes_take_le L (k + 1); omega))
      dsimp only [tV] at HIX
      obtain ⟨x, hx⟩ : ∃ x, tg L k = x := ⟨_, rfl⟩
      have HX := Lib.hid hx
      rw [hx] at q0 q1 q2 HIX
      have hQ := (Upd.refl (fun _ => False) wr).alloc (.cells #[.string x.name, .string x.sort, .slice xa x.kids.length xc] 25)
      have hB5 := alloc0 wr (.cells #[.string x.name, .string x.sort, .slice xa x.kids.length xc] 25)
      have b0 := cellRow hB5 0 (.string x.name) rfl
      have b1 := cellRow hB5 1 (.string x.sort) rfl
      have b2 := cellRow hB5 2 (.slice xa x.kids.length xc) rfl
      have hB3q := allocOld HB3.out (.cells #[.string x.name, .string x.sort, .slice xa x.kids.length xc] 25)
      have c2 := cellRow hB3q 2 (.slice la k lc) rfl
      have HBQ := Lib.hid hB3q
      have HQ := Lib.hid hQ
      have HB2Q := Lib.hid (allocOld HB2.out (.cells #[.string x.name, .string x.sort, .slice xa x.kids.length xc] 25))
      have HOQ := Lib.hid (HJ.out.own.alloc (.cells #[.string x.name, .string x.sort, .slice xa x.kids.length xc] 25))
      have HRN : Hid (¬ (Value.slice la k lc).ownBlock = some n3) := Lib.hid (fun e => by have h1 := (HJ.out.own.lt n3 e).1; have := HN3.out; omega)
      have HK : Hid (k ≤ 100000) := Lib.hid (by omega)
      obtain ⟨iT, hi, hz0, hz1, hz2⟩ := info_parts infoT
      clear hat hkid hx hQ hB5 hB3q
      go_wp2_with fail
      generalize wr.alloc (.cells #[.string x.name, .string x.sort, .slice xa x.kids.length xc] 25) = wq at *
      have HWQ : Hid (Ext wq wq) := Lib.hid (Upd.refl _ _)
      have HSQ : Hid (w.heap.size + 3 ≤ wq.heap.size) := Lib.hid (Nat.le_trans HSZ.out HQ.out.size)
      clear q0 q1 q2
      go_region_law (first
  | (refine step_append_at _ (.tmp 16) (.tmp 19) 23 rfl (w.heap.size + 3) 25 iT (.agg #[.string ⟨#[]⟩, .string ⟨#[]⟩, .slice none 0 0]) 3 56 Tryz.underlying23 hi hz0 hz1 hz2 rfl (by decide) _ _ _ rfl HOW5.out _ 1 1 [.string x.name, .string x.sort, .slice ya x.kids.length yc] rfl rfl HNEW.out HONE.out HLM.out.1 HLM.out.2.1 HLM.out.2.2 ?_; intro v7 w7 hG7; obtain ⟨a7, c7, hv7⟩ := own_shape hG7.own; subst hv7; have hB7 := hG7.upd.heap (allocOld HB5.out (.cells #[.string x.name, .string x.sort, .slice ya x.kids.length yc] 25)) HRN.out; have f7 := fun i => frozenRow hB7 i; have c2 := cellRow hB7 2 (.slice la k lc) rfl; have HB7 := Lib.hid hB7; have HG7 := Lib.hid hG7; clear hG7 hB7)
  | (go_simp; refine (HIX.out wq.drew HWQ.out.drew).mono ?_; rintro e w5 ⟨r, Bx, rfl, hT5, hb5, hw5⟩; obtain ⟨ya, yc, hry⟩ := TlO.shape hT5; subst hry; have HW5 : Hid (Ext wq w5) := Lib.hid (((Upd.refl (fun _ => False) wq).drewN' 1).trans hw5); have HT5 := Lib.hid hT5; have HBX5 : Hid (∀ j, Bx j → wq.heap.size ≤ j ∧ j < w5.heap.size) := Lib.hid hb5; have HB5 := Lib.hid (HW5.out.heap HBQ.out (fun h => h)); have HOW5 : Hid ((w5.alloc (.cells #[.string x.name, .string x.sort, .slice ya x.kids.length yc] 25)).ownsRow (w.heap.size + 3) 25 3 (.slice la k lc) k (tCells (L.take k) us)) := Lib.hid ((own_kept HOQ.out HW5.out (fun _ _ h => h)).alloc _); have HNEW : Hid (∀ (j : Nat) (u : Value), [Value.string x.name, .string x.sort, .slice ya x.kids.length yc][j]? = some u → (w5.alloc (.cells #[.string x.name, .string x.sort, .slice ya x.kids.length yc] 25)).cell? ((⟨w5.heap.size, 0, none⟩ : Addr).add j) = some u) := Lib.hid (new3 w5 _ _ _ 25); have HONE : Hid (∀ u ∈ [Value.string x.name, .string x.sort, .slice ya x.kids.length yc], u.oneCell' = true) := Lib.hid (fun u hu => by simp at hu; rcases hu with h | h | h <;> (subst h; rfl)); have HLM : Hid (k + 1 ≤ maxLen ∧ (k + 1) * 56 ≤ 140737488355328 ∧ w.heap.size + 3 ≤ (w5.alloc (.cells #[.string x.name, .string x.sort, .slice ya x.kids.length yc] 25)).heap.size) := Lib.hid ⟨by unfold maxLen; have := HK.out; omega, by have := HK.out; omega, by have h1 := HW5.out.size; have h2 := HSQ.out; simp; omega⟩; have c5 := HW5.out.cell c2 (fun h => h); have c6 := ((Upd.refl (fun _ => False) w5).alloc (.cells #[.string x.name, .string x.sort, .slice ya x.kids.length yc] 25)).cell c5 (fun h => h); clear hT5 hb5 hw5))
      all_goals
        go_wp2_with fail
        have HS8 := Lib.hid ((Upd.refl (fun j => j = n3) w7).setCell (p := ⟨n3, 2, none⟩) (.inl rfl) (.slice a7 (k + 1) c7))
        have HU8 : Hid (Upd (fun j => (Value.slice la k lc).ownBlock = some j ∨ j = n3) wq (w7.setCell ⟨n3, 2, none⟩ (.slice a7 (k + 1) c7))) := Lib.hid (((((HW5.out.alloc (.cells #[.string x.name, .string x.sort, .slice ya x.kids.length yc] 25)).mono (fun _ _ x => x.elim)).trans (HG7.out.upd.mono (fun _ _ e => .inl e)))).trans (HS8.out.mono (fun _ _ e => .inr e)))
        have HJ8 := Lib.hid (HJ.out.grow hlt HX.out (by have := HN3.out; omega) HSZ.out HQ.out HW5.out HT5.out HBX5.out ((Upd.refl (fun _ => False) w5).alloc (.cells #[.string x.name, .string x.sort, .slice ya x.kids.length yc] 25)) HG7.out HS8.out)
        have HE8 : Hid (Ext w (w7.setCell ⟨n3, 2, none⟩ (.slice a7 (k + 1) c7))) := Lib.hid ((HE.out.trans HQ.out).trans' HU8.out (fun j hj e => by
          rcases e with e | e
          · have h1 := (HJ.out.own.lt j e).1; omega
          · have := HN3.out; omega))
        have HB28 := Lib.hid (HU8.out.heap HB2Q.out (fun e => by
          rcases e with e | e
          · have h1 := (HJ.out.own.lt _ e).1; omega
          · have := HN3.out; omega))
        have hb38 := setBlock HB7.out 2 (.slice a7 (k + 1) c7)
        have HB38 : Hid ((w7.setCell ⟨n3, 2, none⟩ (.slice a7 (k + 1) c7)).heap[n3]? = some (.cells #[.string nm, .string so, .slice a7 (k + 1) c7] 25 (0, 0))) := Lib.hid (by simpa using hb38)
        have HS9 : Hid (w.heap.size + 3 ≤ (w7.setCell ⟨n3, 2, none⟩ (.slice a7 (k + 1) c7)).heap.size) := Lib.hid (Nat.le_trans HSQ.out HU8.out.size)
        clear hb38 c2 f7
        go_roundg (L.length - (k + 1))
        case measure => omega
        case rel => exact ⟨k + 1, _, _, _, by go_num, rfl, by omega, HJ8, HB28, HB38, HE8, HS9⟩
    · obtain rfl : k = L.length := by omega
      have z2 : decide ((L.length : Int) < (L.length : Int)) = false := decide_eq_false (by omega)
      have c0 := cellRow HB3.out 0 (.string nm) rfl
      have c1 := cellRow HB3.out 1 (.string so) rfl
      have c2 := cellRow HB3.out 2 (.slice la L.length lc) rfl
      have f2 := fun i => frozenRow HB2.out i
      have d0 := cellRow HB2.out 0 (.string ⟨#[]⟩) rfl
      have d1 := cellRow HB2.out 1 (.string ⟨#[]⟩) rfl
      have d2 := cellRow HB2.out 2 (.slice none 0 0) rfl
      go_wp2_with fail
      have hr := st3_heap HB2.out (.string nm) (.string so) (.slice la L.length lc)
      have hu := st3_upd' wr (w.heap.size + 1) (.string nm) (.string so) (.slice la L.length lc)
      have e0 := cellRow hr 0 _ rfl
      have e1 := cellRow hr 1 _ rfl
      have e2 := cellRow hr 2 _ rfl
      refine bodyPost_ret (v := .agg #[.string nm, .string so, .slice la L.length lc]) (by simp [results, Tryz.results61, go_sem, e0, e1, e2]) rfl ⟨.slice la L.length lc, _, rfl, HJ.out.fin.kept hu (fun j hj e => by have h1 := hj.1; omega), fun j hj => ⟨by have h1 := hj.1; omega, Nat.lt_of_lt_of_le hj.2 hu.size⟩, HE.out.trans' hu (fun j hj e => by omega)⟩

end Go.Proofs.YtiimccogojkldaaGreatDoor
