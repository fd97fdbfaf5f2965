/- The texts N7 N9 N10 N11 N12 N13, one behind the other. -/
import Derived.Test.YtlkcjmaiahnodaaGreatDoorYAM
import Derived.Test.YtlkcjmaiahnodaaGreatDoorYAJ
import Derived.Test.YtlkcjmaiahnodaaGreatDoorYAK
import Derived.Lib.AppendZeros
import Derived.Lib.SliceRun
import Derived.Test.YtlkcjmaiahnodaaGreatDoorYAE
/- The value of a class. -/
namespace Go.Proofs.YtlkcjmaiahnodaaGreatDoor
open Go.RowKit Go.Hw Go
set_option linter.unusedVariables false
set_option linter.unusedSimpArgs false

open Tm
set_option maxRecDepth 100000 in
set_option maxHeartbeats 2000000 in
theorem val_x {T : List Nr} {ad : Nat → Nat × Nat} {S : Nat → Prop} {bv bn ub : Nat} {st : St} {bk : List Nat} (hTB : ∀ (i : Nat) (r : Nr), T[i]? = some r → r.ks.length ≤ 1000000) (F : Nat) : ∀ (w : World) (c : Nat) (t : Tm), Ur T ad S 121 108 bv bn ub bk st w → vaG T st F c = some t →
    Calls Tryz.prog 74 #[blV ub, blV (blk bk c)] w fun e w' => ∃ r B, e = .returned (tV t r) ∧ TlO 24 w' B t.kids r ∧ (∀ j, B j → w.heap.size ≤ j ∧ j < w'.heap.size) ∧ Ext w w' := by
  induction F with
  | zero => intro w c t _ h; cases h
  | succ F ih =>
  intro w c t hm hc
  have HIH := Lib.hid ih
  unfold vaG at hc
  cases hx : st.cs[c]? with
  | none => rw [hx] at hc; cases hc
  | some C =>
  rw [hx] at hc
  simp only at hc
  have HM := Lib.hid hm
  have hm2 := hm
  have HX := Lib.hid hx
  have hr := hm.us.row c C hx
  obtain ⟨ot, hot⟩ : ∃ o, C.tm = o := ⟨_, rfl⟩
  rw [hot] at hc
  have hE0 := ((Upd.refl (fun _ => False) w).alloc (.cells #[.string ⟨#[]⟩, .string ⟨#[]⟩, .slice none 0 0] 24))
  have hb2 := alloc0 w (.cells #[.string ⟨#[]⟩, .string ⟨#[]⟩, .slice none 0 0] 24)
  clear ih hm
  cases ot with
  | none =>
    simp only [Option.some.injEq] at hc
    subst hc
    have hr := hE0.heap hr (fun h => h)
    have c1 := cellRow hr 1 (.string C.nm) rfl
    have c2 := cellRow hr 2 (.string C.so) rfl
    have c4 := cellRow hr 4 (.pointer none) (by show some (pV (Option.map ad C.tm)) = _; rw [hot]; rfl)
    have d0 := cellRow hb2 0 (.string ⟨#[]⟩) rfl
    have d1 := cellRow hb2 1 (.string ⟨#[]⟩) rfl
    have d2 := cellRow hb2 2 (.slice none 0 0) rfl
    have f2 := fun i => frozenRow hb2 i
    have HE0 := Lib.hid hE0
    have HB2 := Lib.hid hb2
    clear hr hx hot hE0 hb2 hm2
    go_enter Tryz.func74, Tryz.ntmps74
    go_upto_region 1 with fail
    generalize w.alloc (.cells #[.string ⟨#[]⟩, .string ⟨#[]⟩, .slice none 0 0] 24) = w1 at *
    go_wp2_with fail
    go_region
    go_wp2_with fail
    have hr3 := st3_heap HB2.out (.string C.nm) (.string C.so) (.slice none 0 0)
    have hu := st3_upd' w1 w.heap.size (.string C.nm) (.string C.so) (.slice none 0 0)
    have e0 := cellRow hr3 0 _ rfl
    have e1 := cellRow hr3 1 _ rfl
    have e2 := cellRow hr3 2 _ rfl
    refine bodyPost_ret (v := .agg #[.string C.nm, .string C.so, .slice none 0 0]) (by simp [results, Tryz.results74, go_sem, e0, e1, e2]) rfl ⟨.slice none 0 0, fun _ => False, rfl, TlO.nil _ _ _, fun j hj => hj.elim, (HE0.out.trans' hu (fun j hj e => by omega)).drew⟩
  | some x =>
    simp only at hc
    cases hX : T[x]? with
    | none => rw [hX] at hc; cases hc
    | some X =>
    rw [hX] at hc
    simp only at hc
    cases hK : vaK T F st (vaG T st F) c x X.ks with
    | none => rw [hK] at hc; cases hc
    | some L =>
    rw [hK] at hc
    simp only [Option.map_some, Option.some.injEq] at hc
    subst hc
    have HK := Lib.hid hK
    have HXX := Lib.hid hX
    have hXB := hTB x X hX
    have hLL := vaK_len hK
    have HCT := Lib.hid hot
    have hr := hE0.heap hr (fun h => h)
    obtain ⟨x0, _, xa, xc, x2, _⟩ := (hm2.ext hE0).nd.row x X hX
    have c4 := cellRow hr 4 (.pointer (some ⟨(ad x).1, (ad x).2, none⟩)) (by show some (pV (Option.map ad C.tm)) = _; rw [hot]; rfl)
    have HE0 := Lib.hid hE0
    have HB2 := Lib.hid hb2
    clear hr hx hot hE0 hb2 hK hX hm2
    go_enter Tryz.func74, Tryz.ntmps74
    go_upto_region 3 with fail
    generalize hw1 : w.alloc (.cells #[.string ⟨#[]⟩, .string ⟨#[]⟩, .slice none 0 0] 24) = w1 at *
    obtain ⟨n3, hn3⟩ : ∃ n3, w1.heap.size = n3 := ⟨_, rfl⟩
    have HN3 : Hid (w.heap.size + 1 = n3) := Lib.hid (by rw [← hn3, ← hw1]; simp)
    have hx3 := (Upd.refl (fun _ => False) w1).alloc (.cells #[.string X.nm, .string ⟨#[]⟩, .slice none 0 0] 24)
    have hb3 := alloc0 w1 (.cells #[.string X.nm, .string ⟨#[]⟩, .slice none 0 0] 24)
    have hb2' := allocOld HB2.out (.cells #[.string X.nm, .string ⟨#[]⟩, .slice none 0 0] 24)
    have x2' := hx3.cell x2 (fun h => h)
    have c4' := hx3.cell c4 (fun h => h)
    have HX3 := Lib.hid (HE0.out.trans hx3)
    clear hw1
    go_wp2_with fail
    generalize hW0 : w1.alloc (.cells #[.string X.nm, .string ⟨#[]⟩, .slice none 0 0] 24) = W0 at *
    have HSW0 : Hid (w.heap.size + 2 ≤ W0.heap.size) := Lib.hid (by have h1 := HN3.out; rw [← hW0, World.size_alloc]; omega)
    have HJ0 : Hid (CpJ 24 (w.heap.size + 2) W0 L (.slice none 0 0) [] (fun _ _ => False) 0) := Lib.hid ⟨rfl, ⟨rfl, .inl ⟨rfl, rfl⟩⟩, fun i hi => absurd hi (Nat.not_lt_zero _), fun i j hi => absurd hi (Nat.not_lt_zero _), fun i i' j hi => absurd hi (Nat.not_lt_zero _)⟩
    rw [hn3] at hb3
    have HB20 := Lib.hid hb2'
    have HB30 := Lib.hid hb3
    have HLL := Lib.hid hLL
    clear hW0 hb3 hb2' x2' c4' hn3 hx3 HB2 HE0 x2 c4 hLL x0
    go_loopg [37] X.ks.length (fun gk iv wr => ∃ (k : Nat) (lv : Value) (us : List Value) (Bk : Nat → Nat → Prop), iv = .int .i64 (k : Int) ∧ gk = X.ks.length - k ∧ k ≤ X.ks.length ∧ Hid (CpJ 24 (w.heap.size + 2) wr L lv us Bk k) ∧ Hid (wr.heap[w.heap.size]? = some (.cells #[.string ⟨#[]⟩, .string ⟨#[]⟩, .slice none 0 0] 24 (0, 0))) ∧ Hid (wr.heap[n3]? = some (.cells #[.string X.nm, .string ⟨#[]⟩, lv] 24 (0, 0))) ∧ Hid (Ext w wr) ∧ Hid (w.heap.size + 2 ≤ wr.heap.size))
    case atStart => exact ⟨0, _, _, _, rfl, rfl, Nat.zero_le _, HJ0, HB20, HB30, HX3, HSW0⟩
    case round =>
      clear HJ0 HB20 HB30 HX3 HSW0
      obtain ⟨k, lv, us, Bk, rfl, rfl, hk, HJ, HB2, HB3, HE, HSZ⟩ := hrel
      obtain ⟨la, lc, hlv⟩ := own_shape HJ.out.own
      subst hlv
      by_cases hlt : k < X.ks.length
      · obtain ⟨hf, s1, y, hcl, hva⟩ := vaK_at HK.out k hlt
        have hr := HE.out.heap (HM.out.us.row c C HX.out) (fun h => h)
        have c4 := cellRow hr 4 (.pointer (some ⟨(ad x).1, (ad x).2, none⟩)) (by show some (pV (Option.map ad C.tm)) = _; rw [HCT.out]; rfl)
        obtain ⟨_, _, xa', xc', x2, hxk⟩ := (HM.out.ext HE.out).nd.row x X HXX.out
        obtain ⟨xg, xo, rfl, hxk2⟩ := hxk (by omega)
        have hxa := (hxk2 k _ (List.getElem?_eq_getElem hlt)).2
        have HCLS := Lib.hid (cls_same F X.ks[k] y (HM.out.ext HE.out.drew) hf hcl).2
        rw [hxa] at HCLS
        have HI := Lib.hid (fun W (hW : Ext wr W) => HIH.out W y (tg L k) (HM.out.ext (HE.out.trans hW)) hva)
        obtain ⟨z, hz⟩ : ∃ z, tg L k = z := ⟨_, rfl⟩
        have HZ := Lib.hid hz
        rw [hz] at HI
        have z0 : (0 : Int) ≤ (k : Int) := by omega
        have z1 : (k : Int) < (X.ks.length : Int) := by omega
        have z2 : decide ((k : Int) < (X.ks.length : Int)) = true := decide_eq_true z1
        have z2' : decide (k < X.ks.length) = true := decide_eq_true hlt
        have c2 := cellRow HB3.out 2 (.slice la k lc) rfl
        have HRN : Hid (¬ (Value.slice la k lc).ownBlock = some n3) := Lib.hid (fun e => by have h1 := (HJ.out.own.lt n3 e).1; have := HN3.out; omega)
        have HKB : Hid (k ≤ 1000000) := Lib.hid (by omega)
        have HWR : Hid (Ext wr wr) := Lib.hid (Upd.refl _ _)
        obtain ⟨iT, hi, hz0, hz1, hz2⟩ := info_parts infoT
        clear hxk hxk2 hxa hf hcl hva hr hz
        go_wp2_with fail
        go_region_law (first
          | (refine step_append_at _ (.tmp 41) (.tmp 55) 22 rfl (w.heap.size + 2) 24 iT (.agg #[.string ⟨#[]⟩, .string ⟨#[]⟩, .slice none 0 0]) 3 56 Tryz.underlying22 hi hz0 hz1 hz2 rfl (by decide) _ _ _ rfl HOW6.out _ 1 1 [.string z.name, .string z.sort, .slice ya z.kids.length yc] rfl rfl HNEW.out HONE.out HLM.out.1 HLM.out.2.1 HLM.out.2.2 ?_; intro v7 w7 hG7; obtain ⟨a7, c7, hv7⟩ := own_shape hG7.own; subst hv7; have hB7 := hG7.upd.heap (allocOld HB6.out (.cells #[.string z.name, .string z.sort, .slice ya z.kids.length yc] 24)) HRN.out; have f7 := fun i => frozenRow hB7 i; have c2 := cellRow hB7 2 (.slice la k lc) rfl; have HB7 := Lib.hid hB7; have HG7 := Lib.hid hG7; clear hG7 hB7)
          | (go_simp; refine HCLS.out.mono ?_; rintro e w5 ⟨rfl, hw5⟩; have HW5 : Hid (Ext wr w5) := Lib.hid (((Upd.refl (fun _ => False) wr).drewN' 1).trans hw5); have c5 := HW5.out.cell c2 (fun h => h); have HI5 := Lib.hid (HI.out w5 HW5.out); clear hw5 HCLS HI)
          | (go_simp; refine HI5.out.mono ?_; rintro e w6 ⟨r, Bx, rfl, hT6, hb6, hw6⟩; obtain ⟨ya, yc, hry⟩ := TlO.shape hT6; subst hry; have HW6 : Hid (Ext wr w6) := Lib.hid (HW5.out.trans hw6); have HT6 := Lib.hid hT6; have HBX6 : Hid (∀ j, Bx j → wr.heap.size ≤ j ∧ j < w6.heap.size) := Lib.hid (fun j hj => ⟨Nat.le_trans HW5.out.size (hb6 j hj).1, (hb6 j hj).2⟩); have HB6 := Lib.hid (HW6.out.heap HB3.out (fun h => h)); have HOW6 : Hid ((w6.alloc (.cells #[.string z.name, .string z.sort, .slice ya z.kids.length yc] 24)).ownsRow (w.heap.size + 2) 24 3 (.slice la k lc) k (tCells (L.take k) us)) := Lib.hid ((own_kept HJ.out.own HW6.out (fun _ _ h => h)).alloc _); have HNEW : Hid (∀ (j : Nat) (u : Value), [Value.string z.name, .string z.sort, .slice ya z.kids.length yc][j]? = some u → (w6.alloc (.cells #[.string z.name, .string z.sort, .slice ya z.kids.length yc] 24)).cell? ((⟨w6.heap.size, 0, none⟩ : Addr).add j) = some u) := Lib.hid (new3 w6 _ _ _ 24); have HONE : Hid (∀ u ∈ [Value.string z.name, .string z.sort, .slice ya z.kids.length yc], u.oneCell' = true) := Lib.hid (fun u hu => by simp at hu; rcases hu with h | h | h <;> (subst h; rfl)); have HLM : Hid (k + 1 ≤ maxLen ∧ (k + 1) * 56 ≤ 140737488355328 ∧ w.heap.size + 2 ≤ (w6.alloc (.cells #[.string z.name, .string z.sort, .slice ya z.kids.length yc] 24)).heap.size) := Lib.hid ⟨by unfold maxLen; have := HKB.out; omega, by have := HKB.out; omega, by have h1 := HW6.out.size; have h2 := HSZ.out; simp; omega⟩; have c6 := HW6.out.cell c2 (fun h => h); have c7 := ((Upd.refl (fun _ => False) w6).alloc (.cells #[.string z.name, .string z.sort, .slice ya z.kids.length yc] 24)).cell c6 (fun h => h); clear hT6 hb6 hw6 HI5))
        all_goals
          go_wp2_with fail
          have HS8 := Lib.hid ((Upd.refl (fun j => j = n3) w7).setCell (p := ⟨n3, 2, none⟩) (.inl rfl) (.slice a7 (k + 1) c7))
          have HU8 : Hid (Upd (fun j => (Value.slice la k lc).ownBlock = some j ∨ j = n3) wr (w7.setCell ⟨n3, 2, none⟩ (.slice a7 (k + 1) c7))) := Lib.hid (((((HW6.out.alloc (.cells #[.string z.name, .string z.sort, .slice ya z.kids.length yc] 24)).mono (fun _ _ x => x.elim)).trans (HG7.out.upd.mono (fun _ _ e => .inl e)))).trans (HS8.out.mono (fun _ _ e => .inr e)))
          have HJ8 := Lib.hid (HJ.out.grow (by rw [HLL.out]; exact hlt) HZ.out (by have := HN3.out; omega) HSZ.out HWR.out HW6.out HT6.out HBX6.out ((Upd.refl (fun _ => False) w6).alloc (.cells #[.string z.name, .string z.sort, .slice ya z.kids.length yc] 24)) HG7.out HS8.out)
          have HE8 : Hid (Ext w (w7.setCell ⟨n3, 2, none⟩ (.slice a7 (k + 1) c7))) := Lib.hid (HE.out.trans' HU8.out (fun j hj e => by
            rcases e with e | e
            · have h1 := (HJ.out.own.lt j e).1; omega
            · have := HN3.out; omega))
          have HB28 := Lib.hid (HU8.out.heap HB2.out (fun e => by
            rcases e with e | e
            · have h1 := (HJ.out.own.lt _ e).1; omega
            · have := HN3.out; omega))
          have hb38 := setBlock HB7.out 2 (.slice a7 (k + 1) c7)
          have HB38 : Hid ((w7.setCell ⟨n3, 2, none⟩ (.slice a7 (k + 1) c7)).heap[n3]? = some (.cells #[.string X.nm, .string ⟨#[]⟩, .slice a7 (k + 1) c7] 24 (0, 0))) := Lib.hid (by simpa using hb38)
          have HS9 : Hid (w.heap.size + 2 ≤ (w7.setCell ⟨n3, 2, none⟩ (.slice a7 (k + 1) c7)).heap.size) := Lib.hid (Nat.le_trans HSZ.out HU8.out.size)
          clear hb38 c2 f7
          go_roundg (X.ks.length - (k + 1))
          case measure => omega
          case rel => exact ⟨k + 1, _, _, _, by go_num, rfl, by omega, HJ8, HB28, HB38, HE8, HS9⟩
      · obtain rfl : k = X.ks.length := by omega
        have z2 : decide ((X.ks.length : Int) < (X.ks.length : Int)) = false := decide_eq_false (by omega)
        have hfin := HJ.out
        rw [← HLL.out] at hfin
        have hfin := hfin.fin
        have HFIN := Lib.hid hfin
        rw [HLL.out] at HFIN
        have c0 := cellRow HB3.out 0 (.string X.nm) rfl
        have c1 := cellRow HB3.out 1 (.string ⟨#[]⟩) rfl
        have c2 := cellRow HB3.out 2 (.slice la X.ks.length lc) rfl
        have f2 := fun i => frozenRow HB2.out i
        have d0 := cellRow HB2.out 0 (.string ⟨#[]⟩) rfl
        have d1 := cellRow HB2.out 1 (.string ⟨#[]⟩) rfl
        have d2 := cellRow HB2.out 2 (.slice none 0 0) rfl
        clear hfin
        go_wp2_with fail
        have hr3 := st3_heap HB2.out (.string X.nm) (.string ⟨#[]⟩) (.slice la X.ks.length lc)
        have hu := st3_upd' wr w.heap.size (.string X.nm) (.string ⟨#[]⟩) (.slice la X.ks.length lc)
        have e0 := cellRow hr3 0 _ rfl
        have e1 := cellRow hr3 1 _ rfl
        have e2 := cellRow hr3 2 _ rfl
        refine bodyPost_ret (v := .agg #[.string X.nm, .string ⟨#[]⟩, .slice la X.ks.length lc]) (by simp [results, Tryz.results74, go_sem, e0, e1, e2]) rfl ⟨.slice la X.ks.length lc, _, rfl, HFIN.out.kept hu (fun j hj e => by have h1 := hj.1; omega), fun j hj => ⟨by have h1 := hj.1; omega, Nat.lt_of_lt_of_le hj.2 hu.size⟩, HE.out.trans' hu (fun j hj e => by omega)⟩

end Go.Proofs.YtlkcjmaiahnodaaGreatDoor

/- given. -/
namespace Go.Proofs.YtlkcjmaiahnodaaGreatDoor
open Go.RowKit Go.Hw Go
set_option linter.unusedVariables false
set_option linter.unusedSimpArgs false

open Tm
theorem varsT_len {t : Tm} (h : wf nmB t = true) : (varsT t).length ≤ t.size := by
  have h2 : (sortsT t).isSome = true := by
    unfold wf at h
    rw [Bool.and_eq_true] at h
    exact h.2
  obtain ⟨m, hm⟩ := Option.isSome_iff_exists.1 h2
  have h1 := sFold_len _ _ _ (show sFold [] (vl (sbts t)) = some m from hm)
  have h3 : (vl (sbts t)).length ≤ t.size := by
    have h1 : (vl (sbts t)).length ≤ (sbts t).length := List.length_filterMap_le _ _
    have h2 : (sbts t).length = t.size := by rw [sbts, List.length_map, nodesD_len]
    omega
  have hv := varsT_spec hm
  have hnd : (varsT t).Nodup := hv.1.imp (fun {a b} hab e => by rw [e, blt_irrefl] at hab; cases hab)
  have := hnd.length_le_of_subset (fun f hf => (hv.2 f).1 hf)
  simp only [List.length_nil] at h1
  omega
theorem vg_mem' {l : List Vd} {i : Nat} (h : i < l.length) : vg l i ∈ l := by unfold vg; rw [List.getD_eq_getElem?_getD, List.getElem?_eq_getElem h]; exact List.getElem_mem h
theorem varsF_wf {t : Tm} (h : wf nmB t = true) : varsF t = (varsT t, 0) := if_pos h
set_option maxRecDepth 100000 in
set_option maxHeartbeats 2000000 in
theorem given_ok (a b : Tm) (va vb : Value) (w : World) (htab : AscT w) (hA : TmR (fun k => k < w.heap.size) w a va) (hB : TmR (fun k => k < w.heap.size) w b vb) (hsa : a.size ≤ 1000000) (hsb : b.size ≤ 1000000) (ha : wf nmB a = true) (hb : wf nmB b = true) (hc : ∀ v ∈ varsT a, ∀ u ∈ varsT b, v.1 = u.1 → v.2 = u.2) :
    Calls Tryz.prog 63 #[va, vb] w fun e w' => e = .returned (.int .i64 0) ∧ Ext w w' := by
  have HA := Lib.hid hA
  have HB := Lib.hid hB
  have HWa := Lib.hid (varsT_len ha)
  have HWb := Lib.hid (varsT_len hb)
  have HC := Lib.hid hc
  obtain ⟨aa, ac, rfl, _⟩ := hA
  obtain ⟨ba, bc, rfl, _⟩ := hB
  have HFa := Lib.hid (fun W (hW : Ext w W) => uform_x a _ W (asc_ext htab hW) ((HA.out.ext hW).weaken (fun k hk => Nat.lt_of_lt_of_le hk hW.size)) (by omega))
  have HFb := Lib.hid (fun W (hW : Ext w W) => uform_x b _ W (asc_ext htab hW) ((HB.out.ext hW).weaken (fun k hk => Nat.lt_of_lt_of_le hk hW.size)) (by omega))
  have HVa := Lib.hid (fun W (hW : Ext w W) => tvars_x a _ W (asc_ext htab hW) ((HA.out.ext hW).weaken (fun k hk => Nat.lt_of_lt_of_le hk hW.size)) (by omega))
  have HVb := Lib.hid (fun W (hW : Ext w W) => tvars_x b _ W (asc_ext htab hW) ((HB.out.ext hW).weaken (fun k hk => Nat.lt_of_lt_of_le hk hW.size)) (by omega))
  rw [ha] at HFa
  rw [hb] at HFb
  rw [varsF_wf ha] at HVa
  rw [varsF_wf hb] at HVb
  dsimp only [tV] at HFa HFb HVa HVb ⊢
  have hZ := ((Upd.refl (fun _ => False) w).alloc (.cells #[.string a.name, .string a.sort, .slice aa a.kids.length ac] 24)).alloc (.cells #[.string b.name, .string b.sort, .slice ba b.kids.length bc] 24)
  have hb2 := allocOld (alloc0 w (.cells #[.string a.name, .string a.sort, .slice aa a.kids.length ac] 24)) (.cells #[.string b.name, .string b.sort, .slice ba b.kids.length bc] 24)
  have hb3 := alloc_at (w.alloc (.cells #[.string a.name, .string a.sort, .slice aa a.kids.length ac] 24)) (.cells #[.string b.name, .string b.sort, .slice ba b.kids.length bc] 24) (n := w.heap.size + 1) (by simp)
  have HSA := Lib.hid (And.intro hsa hsb)
  clear hc ha hb hsa hsb
  have x0 := cellRow hb2 0 (.string a.name) rfl
  have x1 := cellRow hb2 1 (.string a.sort) rfl
  have x2 := cellRow hb2 2 (.slice aa a.kids.length ac) rfl
  have HZ := Lib.hid hZ
  have H2 := Lib.hid hb2
  have H3 := Lib.hid hb3
  clear hZ hb2 hb3
  go_enter Tryz.func63, Tryz.ntmps63
  go_wp2_with fail
  refine (HFa.out _ HZ.out).mono ?_
  rintro e w3 ⟨rfl, hw3⟩
  have HE3 := Lib.hid (HZ.out.trans hw3)
  have H23 := Lib.hid (hw3.heap H2.out (fun h => h))
  have H33 := Lib.hid (hw3.heap H3.out (fun h => h))
  clear hw3 x0 x1 x2 H2 H3 HZ HFa
  have y0 := cellRow H33.out 0 (.string b.name) rfl
  have y1 := cellRow H33.out 1 (.string b.sort) rfl
  have y2 := cellRow H33.out 2 (.slice ba b.kids.length bc) rfl
  go_wp2_with fail
  refine (HFb.out _ HE3.out).mono ?_
  rintro e w4 ⟨rfl, hw4⟩
  have HE4 := Lib.hid (HE3.out.trans hw4)
  have H24 := Lib.hid (hw4.heap H23.out (fun h => h))
  have H34 := Lib.hid (hw4.heap H33.out (fun h => h))
  clear hw4 y0 y1 y2 H23 H33 HE3 HFb
  have x0 := cellRow H24.out 0 (.string a.name) rfl
  have x1 := cellRow H24.out 1 (.string a.sort) rfl
  have x2 := cellRow H24.out 2 (.slice aa a.kids.length ac) rfl
  go_wp2_with fail
  refine (HVa.out _ HE4.out).mono ?_
  rintro e w5 ⟨r1, rfl, hr1, hw5⟩
  have HE5 := Lib.hid (HE4.out.trans hw5)
  have H35 := Lib.hid (hw5.heap H34.out (fun h => h))
  have HR1 := Lib.hid hr1
  clear hw5 x0 x1 x2 H24 H34 HE4 HVa hr1
  have y0 := cellRow H35.out 0 (.string b.name) rfl
  have y1 := cellRow H35.out 1 (.string b.sort) rfl
  have y2 := cellRow H35.out 2 (.slice ba b.kids.length bc) rfl
  go_wp2_with fail
  refine (HVb.out _ HE5.out).mono ?_
  rintro e w6 ⟨r2, rfl, hr2, hw6⟩
  have HE6 := Lib.hid (HE5.out.trans hw6)
  have HR16 := Lib.hid (FiR.ext HR1.out hw6)
  have HR26 := Lib.hid hr2
  obtain ⟨a1, c1, rfl⟩ := FiR.shape hr2
  obtain ⟨a0, c0, rfl⟩ := FiR.shape HR1.out
  clear hw6 y0 y1 y2 H35 HE5 HVb hr2 HR1 HA HB htab
  obtain ⟨LA, hLA⟩ : ∃ L, varsT a = L := ⟨_, rfl⟩
  obtain ⟨LB, hLB⟩ : ∃ L, varsT b = L := ⟨_, rfl⟩
  rw [hLA] at HR16 HC HWa ⊢
  rw [hLB] at HR26 HC HWb ⊢
  have hla : LA.length ≤ 1000000 := by have h1 := HWa.out; have h2 := HSA.out.1; omega
  have hlb : LB.length ≤ 1000000 := by have h1 := HWb.out; have h2 := HSA.out.2; omega
  clear hLA hLB HSA HWa HWb
  go_wp2_with fail
  go_loopg [33] LA.length (fun gk iv wr => ∃ k : Nat, iv = .int .i64 (k : Int) ∧ gk = LA.length - k ∧ k ≤ LA.length ∧ Hid (Ext w6 wr))
  case atStart => exact ⟨0, rfl, rfl, Nat.zero_le _, Lib.hid (Upd.refl _ _)⟩
  case round =>
    obtain ⟨k, rfl, rfl, hk, HE⟩ := hrel
    by_cases hlt : k < LA.length
    · obtain ⟨g, off, rfl, hat⟩ := FiR.at_ (FiR.ext HR16.out HE.out) (by omega)
      obtain ⟨q0, q1⟩ := hat k hlt
      have hfm := vg_mem' hlt
      obtain ⟨fa, hfa⟩ : ∃ f, vg LA k = f := ⟨_, rfl⟩
      rw [hfa] at q0 q1 hfm
      have HFM := Lib.hid hfm
      clear hfa hfm
      have z0 : (0 : Int) ≤ (k : Int) := by omega
      have z1 : (k : Int) < (LA.length : Int) := by omega
      have z2 : decide ((k : Int) < (LA.length : Int)) = true := decide_eq_true z1
      have z2' : decide (k < LA.length) = true := decide_eq_true hlt
      have hB7 := alloc0 wr (.cells #[.string fa.1, .string fa.2] 116)
      have HB7 := Lib.hid hB7
      have HE7 := Lib.hid (HE.out.alloc (.cells #[.string fa.1, .string fa.2] 116))
      clear hat hB7
      go_wp2_with fail
      generalize wr.alloc (.cells #[.string fa.1, .string fa.2] 116) = w7 at *
      clear q0 q1 z0 z1 z2 z2'
      go_loopg [39] LB.length (fun gk iv wr2 => ∃ j : Nat, iv = .int .i64 (j : Int) ∧ gk = LB.length - j ∧ j ≤ LB.length ∧ Hid (Ext w7 wr2))
      case atStart => exact ⟨0, rfl, rfl, Nat.zero_le _, Lib.hid (Upd.refl _ _)⟩
      case round =>
        obtain ⟨j, rfl, rfl, hj, HEJ⟩ := hrel
        by_cases hlj : j < LB.length
        · obtain ⟨g2, off2, rfl, hat⟩ := FiR.at_ (FiR.ext HR26.out (HE7.out.trans HEJ.out)) (by omega)
          obtain ⟨q0, q1⟩ := hat j hlj
          have hfm := vg_mem' hlj
          obtain ⟨fb, hfb⟩ : ∃ f, vg LB j = f := ⟨_, rfl⟩
          rw [hfb] at q0 q1 hfm
          have HGM := Lib.hid hfm
          clear hfb hfm
          have z0 : (0 : Int) ≤ (j : Int) := by omega
          have z1 : (j : Int) < (LB.length : Int) := by omega
          have z2 : decide ((j : Int) < (LB.length : Int)) = true := decide_eq_true z1
          have z2' : decide (j < LB.length) = true := decide_eq_true hlj
          have HB8 := HEJ.out.heap HB7.out (fun h => h)
          have HB8 := allocOld HB8 (.cells #[.string fb.1, .string fb.2] 116)
          have HB9 := alloc0 wr (.cells #[.string fb.1, .string fb.2] 116)
          have e0 := cellRow HB8 0 (.string fa.1) rfl
          have e1 := cellRow HB8 1 (.string fa.2) rfl
          have d0 := cellRow HB9 0 (.string fb.1) rfl
          have d1 := cellRow HB9 1 (.string fb.2) rfl
          have HE9 := Lib.hid (HEJ.out.alloc (.cells #[.string fb.1, .string fb.2] 116))
          have s1 := str_dc fa.1 fb.1
          have s2 := str_dc fa.2 fb.2
          have hcc := HC.out fa HFM.out fb HGM.out
          clear hat HB8 HB9
          by_cases h1 : fa.1 = fb.1
          · rw [decide_eq_true h1] at s1
            rw [decide_eq_true (hcc h1)] at s2
            clear hcc h1
            go_wp2_with fail
            go_roundg (LB.length - (j + 1))
            case measure => omega
            case rel => exact ⟨j + 1, by go_num, rfl, by omega, HE9⟩
          · rw [decide_eq_false h1] at s1
            clear hcc h1 s2
            go_wp2_with fail
            go_roundg (LB.length - (j + 1))
            case measure => omega
            case rel => exact ⟨j + 1, by go_num, rfl, by omega, HE9⟩
        · obtain rfl : j = LB.length := by omega
          have z2 : decide ((LB.length : Int) < (LB.length : Int)) = false := decide_eq_false (by omega)
          go_wp2_with fail
          go_roundg (LA.length - (k + 1))
          case measure => omega
          case rel => exact ⟨k + 1, by go_num, rfl, by omega, Lib.hid (HE7.out.trans HEJ.out)⟩
    · obtain rfl : k = LA.length := by omega
      have z2 : decide ((LA.length : Int) < (LA.length : Int)) = false := decide_eq_false (by omega)
      go_wp2_with fail
      go_ret
      exact ⟨rfl, HE6.out.trans HE.out⟩

end Go.Proofs.YtlkcjmaiahnodaaGreatDoor

/- Grow and Concat. -/
namespace Go.Proofs.YtlkcjmaiahnodaaGreatDoor
open Go.RowKit Go.Hw Go
set_option linter.unusedVariables false
set_option linter.unusedSimpArgs false

open Tm
set_option maxRecDepth 100000 in
set_option maxHeartbeats 2000000 in
theorem grow_x (n : Nat) (w : World) (hn : n ≤ 10000000) : Calls Tryz.prog 142 #[.slice none 0 0, .int .i64 (n : Int)] w fun e w' => ∃ v, e = .returned v ∧ w'.ownsRow w.heap.size 116 2 v 0 [] ∧ Ext w w' := by
  obtain ⟨iF, hi, hz0, hz1, hz2⟩ := info_parts infoF
  by_cases h0 : 0 < n
  · have h1 : ¬ ((n : Int) < 0) := by omega
    have h2 : (0 : Int) < (n : Int) := by omega
    have hrz : ∀ ty, (Builtin.append_ #[111, 3] ty #[.slice none 0 0, .int .i64 (n : Int)]).run Tryz.prog w = .ok (.slice (some ⟨w.heap.size, 0, none⟩) n (grownCap w n 0 116)) (w.drew.alloc (.cells (Builtin.zeroCells (Value.agg #[.string ⟨#[]⟩, .string ⟨#[]⟩]).cells n ++ Builtin.zeroCells (Value.agg #[.string ⟨#[]⟩, .string ⟨#[]⟩]).cells (grownCap w n 0 116 - n)) 116)) := fun ty =>
      Lib.run_append_nil_zeros w 111 3 ty 116 iF _ .i64 .i64 Tryz.underlying111 Tryz.underlying3 hi hz0 n h0 (by omega) (by omega) (by rw [hz2]; omega)
    have hge := grownCap_ge w n 0 116
    have hle := grownCap_le_maxLen w n 0 116 (by unfold maxLen; omega)
    have hown : Hid ((w.drew.alloc (.cells (Builtin.zeroCells (Value.agg #[.string ⟨#[]⟩, .string ⟨#[]⟩]).cells n ++ Builtin.zeroCells (Value.agg #[.string ⟨#[]⟩, .string ⟨#[]⟩]).cells (grownCap w n 0 116 - n)) 116)).ownsRow w.heap.size 116 2 (.slice (some ⟨w.heap.size, 0, none⟩) 0 (grownCap w n 0 116)) 0 []) := Lib.hid
      (World.ownsRow_made w.drew _ _ (Nat.le_refl _) hle (by rw [Array.size_append, size_zeroCells, size_zeroCells]; show n * 2 + (grownCap w n 0 116 - n) * 2 = grownCap w n 0 116 * 2; omega))
    have HE : Hid (Ext w (w.drew.alloc (.cells (Builtin.zeroCells (Value.agg #[.string ⟨#[]⟩, .string ⟨#[]⟩]).cells n ++ Builtin.zeroCells (Value.agg #[.string ⟨#[]⟩, .string ⟨#[]⟩]).cells (grownCap w n 0 116 - n)) 116))) := Lib.hid ((Upd.refl _ w).drew.alloc _)
    obtain ⟨G, hG⟩ : ∃ G, grownCap w n 0 116 = G := ⟨_, rfl⟩
    obtain ⟨w2, hw2⟩ : ∃ x, w.drew.alloc (.cells (Builtin.zeroCells (Value.agg #[.string ⟨#[]⟩, .string ⟨#[]⟩]).cells n ++ Builtin.zeroCells (Value.agg #[.string ⟨#[]⟩, .string ⟨#[]⟩]).cells (grownCap w n 0 116 - n)) 116) = x := ⟨_, rfl⟩
    rw [hw2, hG] at hrz hown
    rw [hw2] at HE
    rw [hG] at hge hle
    have hG2 : G ≤ 9223372036854775807 := by unfold maxLen at hle; omega
    clear hw2 hG hi hz0 hz1 hz2
    go_enter Tryz.func142, Tryz.ntmps142
    go_wp2_with (at_builtin; refine Lib.wpList_append_run _ rfl _ _ _ _ rfl _ _ rfl rfl _ _ (hrz _) ?_)
    go_ret
    exact ⟨_, rfl, hown.out, HE.out⟩
  · obtain rfl : n = 0 := by omega
    go_enter Tryz.func142, Tryz.ntmps142
    go_wp2_with fail
    go_ret
    exact ⟨_, rfl, World.ownsRow_nil .., Upd.refl _ _⟩

abbrev ccn (L1 L2 : List Vd) (k : Nat) : List Vd := if k = 0 then [] else if k = 1 then L1 else L1 ++ L2
set_option maxRecDepth 100000 in
set_option maxHeartbeats 2000000 in
theorem concat_x (L1 L2 : List Vd) (v1 v2 : Value) (S : Nat → Prop) (g : Nat) (w : World) (h1 : FiR S w v1 L1) (h2 : FiR S w v2 L2) (hv1 : w.cell? ⟨g, 0, none⟩ = some v1) (hv2 : w.cell? ⟨g, 1, none⟩ = some v2) (hl1 : L1.length ≤ 1000000) (hl2 : L2.length ≤ 1000000) :
    Calls Tryz.prog 71 #[.slice (some ⟨g, 0, none⟩) 2 2] w fun e w' => ∃ r, e = .returned r ∧ FiR (fun k => w.heap.size ≤ k ∧ k < w'.heap.size) w' r (L1 ++ L2) ∧ Ext w w' := by
  have H1 := Lib.hid h1
  have H2 := Lib.hid h2
  obtain ⟨a1, c1, rfl⟩ := FiR.shape h1
  obtain ⟨a2, c2, rfl⟩ := FiR.shape h2
  have HV := Lib.hid (And.intro hv1 hv2)
  have HGR := Lib.hid (grow_x (L1.length + L2.length) w (by omega))
  clear h1 h2
  go_enter Tryz.func71, Tryz.ntmps71
  go_wp2_with fail
  go_loopg [3, 11] 2 (fun gk sv iv wr => ∃ k : Nat, iv = .int .i64 (k : Int) ∧ sv = .int .i64 ((ccn L1 L2 k).length : Int) ∧ gk = 2 - k ∧ k ≤ 2 ∧ w = wr)
  case atStart => exact ⟨0, rfl, rfl, rfl, Nat.zero_le _, rfl⟩
  case round =>
    obtain ⟨k, rfl, rfl, rfl, hk, rfl⟩ := hrel
    rcases (by omega : k = 0 ∨ k = 1 ∨ k = 2) with rfl | rfl | rfl
    · have z3 : ¬ ((L1.length : Int) < 0) := by omega
      simp only [ccn, if_true, List.length_nil] at *
      go_wp2_with fail
      go_roundg 1
      case measure => omega
      case rel => exact ⟨1, rfl, by simp [ccn], rfl, by omega, rfl⟩
    · have z3 : ¬ ((L1.length : Int) + (L2.length : Int) < 0) := by omega
      simp only [ccn] at *
      go_wp2_with fail
      go_roundg 0
      case measure => omega
      case rel => exact ⟨2, rfl, by simp [ccn], rfl, by omega, rfl⟩
    · have hcc : ((ccn L1 L2 2).length : Int) = ((L1.length + L2.length : Nat) : Int) := by simp [ccn]
      rw [hcc]
      clear hcc
      go_wp2_with fail
      refine HGR.out.mono ?_
      rintro e w2 ⟨v, rfl, ho2, hw2⟩
      have HO2 := Lib.hid ho2
      have HE2 := Lib.hid hw2
      clear ho2 hw2 HGR hv1 hv2
      go_wp2_with fail
      go_loopg [6, 27] 2 (fun gk lv iv wr => ∃ k : Nat, iv = .int .i64 (k : Int) ∧ Hid (wr.ownsRow w.heap.size 116 2 lv (ccn L1 L2 k).length (fCells (ccn L1 L2 k))) ∧ gk = 2 - k ∧ k ≤ 2 ∧ Hid (Ext w wr))
      case atStart => exact ⟨0, rfl, HO2, rfl, Nat.zero_le _, HE2⟩
      case round =>
        obtain ⟨k, rfl, HO, rfl, hk, HE⟩ := hrel
        obtain ⟨la, lc, hlv⟩ := own_shape HO.out
        subst hlv
        have hlt : ∀ j, (Value.slice la (ccn L1 L2 k).length lc).ownBlock = some j → w.heap.size ≤ j := fun j hj => (HO.out.lt j hj).1
        have hv1 := HE.out.cell HV.out.1 (fun h => h)
        have hv2 := HE.out.cell HV.out.2 (fun h => h)
        obtain ⟨iF, hi, hz0, hz1, hz2⟩ := info_parts infoF
        have hbs := HE.out.size
        rcases (by omega : k = 0 ∨ k = 1 ∨ k = 2) with rfl | rfl | rfl
        · go_wp2_with (at_builtin; refine wpList_append_sl _ rfl (.tmp 31) (.tmp 32) 111 rfl w.heap.size 116 iF (.agg #[.string ⟨#[]⟩, .string ⟨#[]⟩]) 2 32 Tryz.underlying111 hi hz0 hz1 hz2 rfl (by decide) (.slice la (ccn L1 L2 0).length lc) _ _ rfl HO.out S (.slice a1 L1.length c1) L1.length (fCells L1) rfl (FiR.ext H1.out HE.out) (fCells_one _) ?c3 ?c4 hbs ?_)
          case c3 => unfold maxLen; simp [ccn]; omega
          case c4 => simp [ccn]; omega
          intro v7 w7 hG
          have HO7 : Hid (w7.ownsRow w.heap.size 116 2 v7 (ccn L1 L2 1).length (fCells (ccn L1 L2 1))) := Lib.hid (by
            have h := hG.own
            simp only [ccn, if_true, List.length_nil, Nat.zero_add] at h
            exact h)
          have HE7 : Hid (Ext w w7) := Lib.hid (HE.out.trans' hG.upd (fun j hj e => by have := hlt j e; omega))
          obtain ⟨a7, c7, hv7⟩ := own_shape HO7.out
          subst hv7
          clear hG hi hz0 hz1 hz2 hbs hlt hv1 hv2
          go_wp2_with fail
          go_roundg 1
          case measure => omega
          case rel => exact ⟨1, rfl, HO7, rfl, by omega, HE7⟩
        · go_wp2_with (at_builtin; refine wpList_append_sl _ rfl (.tmp 31) (.tmp 32) 111 rfl w.heap.size 116 iF (.agg #[.string ⟨#[]⟩, .string ⟨#[]⟩]) 2 32 Tryz.underlying111 hi hz0 hz1 hz2 rfl (by decide) (.slice la (ccn L1 L2 1).length lc) _ _ rfl HO.out S (.slice a2 L2.length c2) L2.length (fCells L2) rfl (FiR.ext H2.out HE.out) (fCells_one _) ?c3 ?c4 hbs ?_)
          case c3 => unfold maxLen; simp [ccn]; omega
          case c4 => simp [ccn]; omega
          intro v7 w7 hG
          have HO7 : Hid (w7.ownsRow w.heap.size 116 2 v7 (ccn L1 L2 2).length (fCells (ccn L1 L2 2))) := Lib.hid (by
            have h := hG.own
            have e1 : ccn L1 L2 1 = L1 := rfl
            have e2 : ccn L1 L2 2 = L1 ++ L2 := rfl
            rw [e1, ← fCells_append] at h
            rw [e2, List.length_append]
            exact h)
          have HE7 : Hid (Ext w w7) := Lib.hid (HE.out.trans' hG.upd (fun j hj e => by have := hlt j e; omega))
          obtain ⟨a7, c7, hv7⟩ := own_shape HO7.out
          subst hv7
          clear hG hi hz0 hz1 hz2 hbs hlt hv1 hv2
          go_wp2_with fail
          go_roundg 0
          case measure => omega
          case rel => exact ⟨2, rfl, HO7, rfl, by omega, HE7⟩
        · clear hi hz0 hz1 hz2 hbs hv1 hv2
          go_wp2_with fail
          go_ret
          have e2 : ccn L1 L2 2 = L1 ++ L2 := rfl
          have ho := HO.out
          rw [e2] at ho
          exact ⟨_, rfl, SlR.weaken (SlR.of_own ho) (fun j hj => ⟨hlt j hj, (ho.lt j hj).2⟩), HE.out⟩

end Go.Proofs.YtlkcjmaiahnodaaGreatDoor

/- is; the sort of bindings. -/
namespace Go.Proofs.YtlkcjmaiahnodaaGreatDoor
open Go.RowKit Go.Hw Go
set_option linter.unusedVariables false
set_option linter.unusedSimpArgs false

open Tm Go.Sort Go.Proofs Go.ChangeMaps
/-- a binding and the slice of its term's parts -/
abbrev Be := Bd × Option Addr × Nat × Nat
abbrev beV (x : Be) : Value := .slice x.2.1 x.2.2.1 x.2.2.2
abbrev beEnc (x : Be) : List Value := [.string x.1.1, .string x.1.2.1, .string x.1.2.2.name, .string x.1.2.2.sort, beV x]
abbrev beK (x : Be) : By := x.1.1
theorem flat_len5 : ∀ (L : List Be), (L.flatMap beEnc).length = L.length * 5
  | [] => rfl
  | x :: L => by rw [List.flatMap_cons, List.length_append, flat_len5 L, List.length_cons]; simp only [beEnc, List.length_cons, List.length_nil]; omega
/-- is a term this variable? -/
def isB (t : Tm) (nm so : By) : Bool := !decide (t.sort = nul) && decide (t.name = nm) && decide (t.sort = so)
set_option maxRecDepth 100000 in
set_option maxHeartbeats 2000000 in
theorem is_x (t : Tm) (a : Option Addr) (cap : Nat) (nm so : By) (w : World) : Calls Tryz.prog 93 #[tV t (.slice a t.kids.length cap), .string nm, .string so] w fun e w' => e = .returned (.bool (isB t nm so)) ∧ Ext w w' := by
  have hb := alloc0 w (.cells #[.string t.name, .string t.sort, .slice a t.kids.length cap] 24)
  have HZ := Lib.hid ((Upd.refl (fun _ => False) w).alloc (.cells #[.string t.name, .string t.sort, .slice a t.kids.length cap] 24))
  have HV := Lib.hid (fun W => variable_x t.name t.sort a t.kids.length cap W)
  have c0 := cellRow hb 0 (.string t.name) rfl
  have c1 := cellRow hb 1 (.string t.sort) rfl
  have c2 := cellRow hb 2 (.slice a t.kids.length cap) rfl
  have HB := Lib.hid hb
  have s1 := str_dc t.name nm
  have s2 := str_dc t.sort so
  have HI : Hid (isB t nm so = (!decide (t.sort = nul) && decide (t.name = nm) && decide (t.sort = so))) := Lib.hid rfl
  generalize isB t nm so = R at *
  generalize decide (t.sort = nul) = d0 at *
  generalize decide (t.name = nm) = d1 at *
  generalize decide (t.sort = so) = d2 at *
  clear hb
  go_enter Tryz.func93, Tryz.ntmps93
  go_wp2_with fail
  refine (HV.out _).mono ?_
  rintro e w4 ⟨rfl, hw4⟩
  have H4 := Lib.hid (HZ.out.trans hw4)
  have HB4 := Lib.hid (hw4.heap HB.out (fun h => h))
  clear hw4 c0 c1 c2
  have c0 := cellRow HB4.out 0 (.string t.name) rfl
  have c1 := cellRow HB4.out 1 (.string t.sort) rfl
  have c2 := cellRow HB4.out 2 (.slice a t.kids.length cap) rfl
  cases d0 with
  | true =>
    obtain rfl : R = false := HI.out
    go_wp2_with fail
    go_ret
    exact ⟨rfl, H4.out⟩
  | false =>
    cases d1 with
    | false =>
      obtain rfl : R = false := HI.out
      go_wp2_with fail
      go_ret
      exact ⟨rfl, H4.out⟩
    | true =>
      obtain rfl : R = d2 := HI.out
      go_wp2_with fail
      go_ret
      exact ⟨rfl, H4.out⟩
set_option maxRecDepth 100000 in
set_option maxHeartbeats 2000000 in
theorem cmpB135_x (x y : Be) (w : World) : Calls Tryz.prog 135 #[.agg (beEnc x).toArray, .agg (beEnc y).toArray] w fun e w' => e = .returned (.int .i64 (cfN beK x y)) ∧ ∃ q os', w' = grow (w.drewN q) os' := by
  have hb0 := allocOld (alloc0 w (.cells #[.string x.1.1, .string x.1.2.1, .string x.1.2.2.name, .string x.1.2.2.sort, beV x] 93)) (.cells #[.string y.1.1, .string y.1.2.1, .string y.1.2.2.name, .string y.1.2.2.sort, beV y] 93)
  have hb1 := alloc_at (w.alloc (.cells #[.string x.1.1, .string x.1.2.1, .string x.1.2.2.name, .string x.1.2.2.sort, beV x] 93)) (.cells #[.string y.1.1, .string y.1.2.1, .string y.1.2.2.name, .string y.1.2.2.sort, beV y] 93) (n := w.heap.size + 1) (by simp)
  have c0 := cellRow hb0 0 (.string x.1.1) rfl
  have d0 := cellRow hb1 0 (.string y.1.1) rfl
  have hc := fun W => Tryz.strings_Compare x.1.1 y.1.1 W
  change ∀ W, Calls _ _ _ W fun e w' => e = .returned (.int .i64 (cfN beK x y)) ∧ w' = W at hc
  have HC := Lib.hid hc
  generalize cfN beK x y = r at *
  clear hb0 hb1 hc
  go_enter Tryz.func135, Tryz.ntmps135
  go_wp2_with fail
  refine (HC.out _).mono ?_
  rintro e w4 ⟨rfl, rfl⟩
  go_wp2_with fail
  go_ret
  exact ⟨rfl, 0, _, by rw [alloc_eq_grow, alloc_eq_grow, grow_grow]; rfl⟩
set_option maxRecDepth 100000 in
set_option maxHeartbeats 2000000 in
theorem sortB135_x (L : List Be) (base : Nat) (v : Value) (w : World) (hO : w.ownsRow base 93 5 v L.length (L.flatMap beEnc)) (hd : L.Pairwise fun x y => x.1.1 ≠ y.1.1) (hl : L.length ≤ 1000000) :
    Calls Tryz.prog 97 #[v, .func (.func 135) #[] #[]] w fun e w' => e = .returned (.tuple #[]) ∧ ∃ L' : List Be, AscK beK L' ∧ L'.Perm L ∧ SlR (fun k => v.ownBlock = some k) w' 5 v L'.length (L'.flatMap beEnc) ∧ Upd (fun k => v.ownBlock = some k) w w' := by
  by_cases h0 : 0 < L.length
  · obtain ⟨g, cap, rfl, hb, hgl, hnc, hcell, hfz⟩ := ownAt hO h0
    have hH : HoldsK beEnc 5 w g 0 L.toArray := holdsK_of beEnc 5 (fun _ => rfl) (fun j hj => ⟨by rw [Nat.zero_add]; exact hcell j hj, hfz _⟩)
    have eg : ∀ args w, (callFunc 135 args).run Tryz.prog w = .ok (.enter 135 args) w := enters_of Tryz.func135 (by kernel_rfl) rfl
    have h := Tryz.slices_SortFunc_f97 5 (fun w => Tryz.isAgg93 w) (fun w => Tryz.sizeOf93 w) beEnc (fun _ => rfl) (fun x u hu => by simp [beEnc] at hu; rcases hu with h | h | h | h | h <;> (subst h; rfl)) (cfN beK) (swo_cfN _) 135 #[] g 0 cap L.toArray w eg (fun m os dk _ x y => cmpB135_x x y _) hH hgl (by simp; omega)
    rw [show L.toArray.size = L.length by simp] at h
    refine h.mono ?_
    rintro e w' ⟨rfl, d', n, os, hp, hs, rfl⟩
    have hsz : d'.size = L.length := by have := hp.1; simpa using this
    obtain ⟨ha, hperm⟩ := sort_asc (d := L.toArray) beK (by rw [show L.toArray.size = L.length by simp]; exact hp) (by rw [show L.toArray.size = L.length by simp]; exact hs) (by simpa using hd)
    have hl' : d'.toList.length = L.length := by simpa using hsz
    refine ⟨rfl, d'.toList, ha, by simpa using hperm, ?_, (upd_sortK beEnc 5 w g 0 n d' os).mono (fun k _ e => by rw [e]; rfl)⟩
    have hH' := holdsK_sortWorldK_c beEnc 5 w g 0 L.toArray d' n os hH hgl (by simpa using hsz)
    rw [hl']
    refine SlR.mk' (by rw [flat_len5, hl']) rfl hnc (fun _ => rfl) (fun j hj => ?_)
    exact (cells_holdsK beEnc 5 (fun _ => rfl) hH' j (by rw [hsz]; exact hj)).1
  · have hl0 : L = [] := List.eq_nil_of_length_eq_zero (by omega)
    subst hl0
    obtain ⟨a, cap, rfl⟩ := own_shape hO
    have h := Tryz.slices_SortFunc_none_f97 (α := Be) a cap (.func (.func 135) #[] #[]) w
    refine h.mono ?_
    rintro e w' ⟨rfl, rfl⟩
    exact ⟨rfl, [], List.Pairwise.nil, List.Perm.refl _, SlR.of_own hO, Upd.refl _ _⟩
set_option maxRecDepth 100000 in
set_option maxHeartbeats 2000000 in
theorem cmpB98_x (x y : Be) (w : World) : Calls Tryz.prog 98 #[.agg (beEnc x).toArray, .agg (beEnc y).toArray] w fun e w' => e = .returned (.int .i64 (cfN beK x y)) ∧ ∃ q os', w' = grow (w.drewN q) os' := by
  have hb0 := allocOld (alloc0 w (.cells #[.string x.1.1, .string x.1.2.1, .string x.1.2.2.name, .string x.1.2.2.sort, beV x] 93)) (.cells #[.string y.1.1, .string y.1.2.1, .string y.1.2.2.name, .string y.1.2.2.sort, beV y] 93)
  have hb1 := alloc_at (w.alloc (.cells #[.string x.1.1, .string x.1.2.1, .string x.1.2.2.name, .string x.1.2.2.sort, beV x] 93)) (.cells #[.string y.1.1, .string y.1.2.1, .string y.1.2.2.name, .string y.1.2.2.sort, beV y] 93) (n := w.heap.size + 1) (by simp)
  have c0 := cellRow hb0 0 (.string x.1.1) rfl
  have d0 := cellRow hb1 0 (.string y.1.1) rfl
  have hc := fun W => Tryz.strings_Compare x.1.1 y.1.1 W
  change ∀ W, Calls _ _ _ W fun e w' => e = .returned (.int .i64 (cfN beK x y)) ∧ w' = W at hc
  have HC := Lib.hid hc
  generalize cfN beK x y = r at *
  clear hb0 hb1 hc
  go_enter Tryz.func98, Tryz.ntmps98
  go_wp2_with fail
  refine (HC.out _).mono ?_
  rintro e w4 ⟨rfl, rfl⟩
  go_wp2_with fail
  go_ret
  exact ⟨rfl, 0, _, by rw [alloc_eq_grow, alloc_eq_grow, grow_grow]; rfl⟩
set_option maxRecDepth 100000 in
set_option maxHeartbeats 2000000 in
theorem sortB98_x (L : List Be) (base : Nat) (v : Value) (w : World) (hO : w.ownsRow base 93 5 v L.length (L.flatMap beEnc)) (hd : L.Pairwise fun x y => x.1.1 ≠ y.1.1) (hl : L.length ≤ 1000000) :
    Calls Tryz.prog 97 #[v, .func (.func 98) #[] #[]] w fun e w' => e = .returned (.tuple #[]) ∧ ∃ L' : List Be, AscK beK L' ∧ L'.Perm L ∧ SlR (fun k => v.ownBlock = some k) w' 5 v L'.length (L'.flatMap beEnc) ∧ Upd (fun k => v.ownBlock = some k) w w' := by
  by_cases h0 : 0 < L.length
  · obtain ⟨g, cap, rfl, hb, hgl, hnc, hcell, hfz⟩ := ownAt hO h0
    have hH : HoldsK beEnc 5 w g 0 L.toArray := holdsK_of beEnc 5 (fun _ => rfl) (fun j hj => ⟨by rw [Nat.zero_add]; exact hcell j hj, hfz _⟩)
    have eg : ∀ args w, (callFunc 98 args).run Tryz.prog w = .ok (.enter 98 args) w := enters_of Tryz.func98 (by kernel_rfl) rfl
    have h := Tryz.slices_SortFunc_f97 5 (fun w => Tryz.isAgg93 w) (fun w => Tryz.sizeOf93 w) beEnc (fun _ => rfl) (fun x u hu => by simp [beEnc] at hu; rcases hu with h | h | h | h | h <;> (subst h; rfl)) (cfN beK) (swo_cfN _) 98 #[] g 0 cap L.toArray w eg (fun m os dk _ x y => cmpB98_x x y _) hH hgl (by simp; omega)
    rw [show L.toArray.size = L.length by simp] at h
    refine h.mono ?_
    rintro e w' ⟨rfl, d', n, os, hp, hs, rfl⟩
    have hsz : d'.size = L.length := by have := hp.1; simpa using this
    obtain ⟨ha, hperm⟩ := sort_asc (d := L.toArray) beK (by rw [show L.toArray.size = L.length by simp]; exact hp) (by rw [show L.toArray.size = L.length by simp]; exact hs) (by simpa using hd)
    have hl' : d'.toList.length = L.length := by simpa using hsz
    refine ⟨rfl, d'.toList, ha, by simpa using hperm, ?_, (upd_sortK beEnc 5 w g 0 n d' os).mono (fun k _ e => by rw [e]; rfl)⟩
    have hH' := holdsK_sortWorldK_c beEnc 5 w g 0 L.toArray d' n os hH hgl (by simpa using hsz)
    rw [hl']
    refine SlR.mk' (by rw [flat_len5, hl']) rfl hnc (fun _ => rfl) (fun j hj => ?_)
    exact (cells_holdsK beEnc 5 (fun _ => rfl) hH' j (by rw [hsz]; exact hj)).1
  · have hl0 : L = [] := List.eq_nil_of_length_eq_zero (by omega)
    subst hl0
    obtain ⟨a, cap, rfl⟩ := own_shape hO
    have h := Tryz.slices_SortFunc_none_f97 (α := Be) a cap (.func (.func 98) #[] #[]) w
    refine h.mono ?_
    rintro e w' ⟨rfl, rfl⟩
    exact ⟨rfl, [], List.Pairwise.nil, List.Perm.refl _, SlR.of_own hO, Upd.refl _ _⟩

end Go.Proofs.YtlkcjmaiahnodaaGreatDoor

/- bindings. -/
namespace Go.Proofs.YtlkcjmaiahnodaaGreatDoor
open Go.RowKit Go.Hw Go
set_option linter.unusedVariables false
set_option linter.unusedSimpArgs false

open Tm Go.Sort Go.Proofs Go.ChangeMaps
theorem infoBd : (Tryz.prog.info? 93).map (fun i => (i.zero, i.size, i.bytes)) = some (some (.agg #[.string ⟨#[]⟩, .string ⟨#[]⟩, .string ⟨#[]⟩, .string ⟨#[]⟩, .slice none 0 0]), 5, 88) := by kernel_rfl
theorem new5 (w : World) (u0 u1 u2 u3 u4 : Value) (t : TypeId) : ∀ (j : Nat) (u : Value), [u0, u1, u2, u3, u4][j]? = some u → (w.alloc (.cells #[u0, u1, u2, u3, u4] t)).cell? ((⟨w.heap.size, 0, none⟩ : Addr).add j) = some u := fun j u hj => by
  match j, hj with
  | 0, hj => simp only [List.getElem?_cons_zero, Option.some.injEq] at hj; subst hj; simp only [Addr.add]; exact cellRow (alloc0 _ _) 0 _ rfl
  | 1, hj => simp at hj; subst hj; simp only [Addr.add]; exact cellRow (alloc0 _ _) 1 _ rfl
  | 2, hj => simp at hj; subst hj; simp only [Addr.add]; exact cellRow (alloc0 _ _) 2 _ rfl
  | 3, hj => simp at hj; subst hj; simp only [Addr.add]; exact cellRow (alloc0 _ _) 3 _ rfl
  | 4, hj => simp at hj; subst hj; simp only [Addr.add]; exact cellRow (alloc0 _ _) 4 _ rfl
/-- the entry of a name -/
def beOf (l : List Be) (n : By) : Be := (l.find? fun x => decide (x.1.1 = n)).getD default
theorem beOf_eq : ∀ {l : List Be} (hd : (l.map fun x => x.1.1).Nodup) {x : Be} (hx : x ∈ l), beOf l x.1.1 = x
  | y :: l, hd, x, hx => by
    rw [List.map_cons, List.nodup_cons] at hd
    unfold beOf
    rw [List.find?_cons]
    rcases List.mem_cons.1 hx with e | hx
    · subst e
      rw [decide_eq_true rfl]
      rfl
    · have hne : ¬ y.1.1 = x.1.1 := fun e => hd.1 (by rw [e]; exact List.mem_map.2 ⟨x, hx, rfl⟩)
      rw [decide_eq_false hne]
      exact beOf_eq hd.2 hx
/-- does a binding bind a variable to itself? -/
def selfB (f : Bd) : Bool := isB f.2.2 f.1 f.2.1
/-- a table in memory -/
structure TbR (S : Nat → Prop) (w : World) (b : Nat) (l : List Be) : Prop where
  mp : MpR (fun s : ByteArray => Value.string s) w b (l.map fun x => (x.1.1, .agg (beEnc x).toArray))
  nd : (l.map fun x => x.1.1).Nodup
  tl : ∀ x ∈ l, TlR S w x.1.2.2.kids (beV x)
/-- what is gathered -/
structure GaR (n0 : Nat) (w : World) (v : Value) (L : List Be) : Prop where
  own : w.ownsRow n0 93 5 v L.length (L.flatMap beEnc)
  tl : ∀ x ∈ L, ∃ Bx : Nat → Prop, TlR Bx w x.1.2.2.kids (beV x) ∧ ∀ j, Bx j → n0 ≤ j ∧ j < w.heap.size ∧ v.ownBlock ≠ some j
theorem GaR.start (n0 : Nat) (w : World) : GaR n0 w (.slice none 0 0) [] := ⟨⟨rfl, .inl ⟨rfl, rfl⟩⟩, fun x hx => by cases hx⟩
theorem GaR.kept {n0 : Nat} {w w' : World} {v : Value} {L : List Be} {F : Nat → Prop} (h : GaR n0 w v L) (hu : Upd F w w') (hF : ∀ j, n0 ≤ j → j < w.heap.size → ¬ F j) : GaR n0 w' v L :=
  ⟨own_kept h.own hu (fun j hj => hF j (h.own.lt j hj).1 (h.own.lt j hj).2), fun x hx => by
    obtain ⟨Bx, h1, h2⟩ := h.tl x hx
    exact ⟨Bx, h1.kept hu (fun j hj => hF j (h2 j hj).1 (h2 j hj).2.1), fun j hj => ⟨(h2 j hj).1, Nat.lt_of_lt_of_le (h2 j hj).2.1 hu.size, (h2 j hj).2.2⟩⟩⟩
theorem GaR.grow {n0 : Nat} {w w6 w7 : World} {v v' : Value} {L : List Be} {x : Be} {Bx : Nat → Prop} {o : Obj} (h : GaR n0 w v L) (hn : n0 ≤ w.heap.size) (h6 : Ext w w6) (hT : TlR Bx w6 x.1.2.2.kids (beV x)) (hB : ∀ j, Bx j → w.heap.size ≤ j ∧ j < w6.heap.size)
    (hG : Grew n0 93 5 v (L.length + 1) (L.flatMap beEnc ++ beEnc x) (w6.alloc o) w7 v') : GaR n0 w7 v' (L ++ [x]) := by
  have hA := (Upd.refl (fun _ => False) w6).alloc o
  have hU : Upd (fun j => v.ownBlock = some j) w6 w7 := (hA.mono (fun _ _ x => x.elim)).trans hG.upd
  have hbn : ∀ j, v'.ownBlock = some j → v.ownBlock = some j ∨ w6.heap.size ≤ j := fun j e => by
    rcases hG.where_ with h | h
    · rw [h] at e; exact .inl e
    · rw [h] at e; injection e with e; exact .inr (by have := hA.size; omega)
  have hs6 := h6.size
  refine ⟨?_, fun y hy => ?_⟩
  · have ho := hG.own
    rw [List.length_append, List.flatMap_append]
    simpa using ho
  · rcases List.mem_append.1 hy with hy | hy
    · obtain ⟨By_, h1, h2⟩ := h.tl y hy
      refine ⟨By_, ((h1.kept h6 (fun _ _ x => x)).kept hU (fun j hj => (h2 j hj).2.2)), fun j hj => ⟨(h2 j hj).1, Nat.lt_of_lt_of_le (Nat.lt_of_lt_of_le (h2 j hj).2.1 hs6) hU.size, fun e => ?_⟩⟩
      rcases hbn j e with e | e
      · exact (h2 j hj).2.2 e
      · have := (h2 j hj).2.1; omega
    · rw [List.mem_singleton] at hy
      subst hy
      refine ⟨Bx, hT.kept hU (fun j hj e => by have h3 := (h.own.lt j e).2; have h4 := (hB j hj).1; omega), fun j hj => ⟨Nat.le_trans hn (hB j hj).1, Nat.lt_of_lt_of_le (hB j hj).2 hU.size, fun e => ?_⟩⟩
      rcases hbn j e with e | e
      · have h3 := (h.own.lt j e).2; have h4 := (hB j hj).1; omega
      · have := (hB j hj).2; omega
/-- the gathered row, sorted -/
theorem GaR.bn {n0 : Nat} {w w' : World} {v : Value} {L L' : List Be} (h : GaR n0 w v L) (hp : L'.Perm L) (hs : SlR (fun k => v.ownBlock = some k) w' 5 v L'.length (L'.flatMap beEnc)) (hu : Upd (fun k => v.ownBlock = some k) w w') :
    BnR (fun k => n0 ≤ k ∧ k < w'.heap.size) (fun k => n0 ≤ k ∧ k < w'.heap.size) w' v (L'.map (·.1)) := by
  refine ⟨L'.map beV, by simp, ?_, fun i hi => ?_⟩
  · have e : bCells (L'.map (·.1)) (L'.map beV) = L'.flatMap beEnc := by
      clear hs hp
      induction L' with
      | nil => rfl
      | cons x L' ih => rw [List.map_cons, List.map_cons, List.flatMap_cons]; simp only [bCells, List.headD_cons, List.tail_cons, ih, beEnc, List.cons_append, List.nil_append]
    rw [e, List.length_map]
    exact SlR.weaken hs (fun k hk => ⟨(h.own.lt k hk).1, Nat.lt_of_lt_of_le (h.own.lt k hk).2 hu.size⟩)
  · have hi' : i < L'.length := by simpa using hi
    have e1 : Go.Hw.bg (L'.map (·.1)) i = (L'[i]).1 := by
      unfold Go.Hw.bg
      rw [List.getD_eq_getElem?_getD, List.getElem?_map, List.getElem?_eq_getElem hi']
      rfl
    have e2 : ug (L'.map beV) i = beV L'[i] := by
      unfold ug
      rw [List.getD_eq_getElem?_getD, List.getElem?_map, List.getElem?_eq_getElem hi']
      rfl
    rw [e1, e2]
    obtain ⟨Bx, h1, h2⟩ := h.tl _ (hp.mem_iff.1 (List.getElem_mem hi'))
    exact (h1.kept hu (fun j hj => (h2 j hj).2.2)).weaken (fun j hj => ⟨(h2 j hj).1, Nat.lt_of_lt_of_le (h2 j hj).2.1 hu.size⟩)
set_option maxRecDepth 100000 in
set_option maxHeartbeats 2000000 in
theorem bindings_x (l : List Be) (b : Nat) (S : Nat → Prop) (w : World) (hM : TbR S w b l) (hS : ∀ k, S k → k < w.heap.size) (hsz : ∀ x ∈ l, x.1.2.2.size ≤ 100000) (hl : l.length ≤ 1000000) :
    Calls Tryz.prog 65 #[.map (some b)] w fun e w' => ∃ r L, e = .returned r ∧ BnR (fun k => w.heap.size ≤ k ∧ k < w'.heap.size) (fun k => w.heap.size ≤ k ∧ k < w'.heap.size) w' r L ∧ AscK (Prod.fst : Bd → By) L ∧ (∀ f, f ∈ L ↔ ((∃ x ∈ l, x.1 = f) ∧ selfB f = false)) ∧ Ext w w' := by
  obtain ⟨⟨es, clock, hb, hes, hbp, hbc⟩, hnd, htl⟩ := hM
  have HND : Hid ((es.toList.map (·.born)).Nodup) := Lib.hid (by
    rw [List.Nodup, List.pairwise_map]
    exact hbp.imp (fun h e => by omega))
  have HBC := Lib.hid hbc
  have HES := Lib.hid hes
  have HNE : Hid (NmE es.toList (l.map fun x => x.1.1)) := Lib.hid (by
    have := NmE.of hes
    rw [List.map_map] at this
    exact this)
  have HTL := Lib.hid htl
  have HNN := Lib.hid hnd
  have HSS := Lib.hid hS
  have HSZ := Lib.hid hsz
  have HL := Lib.hid hl
  have hrg := run_range_map (P := Tryz.prog) w 98 9 93 b es clock Tryz.underlying98 hb
  have hblt : b < w.heap.size := (Array.getElem?_eq_some_iff.1 hb).1
  have HBL := Lib.hid hblt
  have HB0 := Lib.hid (allocOld hb (.mapIter (some b) clock #[] clock))
  have HR0 := Lib.hid (alloc0 w (.mapIter (some b) clock #[] clock))
  have HE0 := Lib.hid ((Upd.refl (fun _ => False) w).alloc (.mapIter (some b) clock #[] clock))
  have HZ0 : Hid (w.heap.size + 1 ≤ (w.alloc (.mapIter (some b) clock #[] clock)).heap.size) := Lib.hid (by simp)
  clear hes hbp hbc hb hblt hnd htl hS hsz hl
  go_enter Tryz.func65, Tryz.ntmps65
  go_wp2_with fail
  try go_frame
  generalize w.alloc (.mapIter (some b) clock #[] clock) = w7 at *
  clear hrg
  go_loopg [3] (leftOf es #[]).size (fun gk ov wr => ∃ (oa : Option Addr) (oc : Nat) (L : List Be) (D : List By) (seen : Array Nat), ov = .slice oa L.length oc ∧ gk = (leftOf es seen).size ∧ Hid (GaR (w.heap.size + 1) wr (.slice oa L.length oc) L) ∧ Hid (wr.heap[w.heap.size]? = some (.mapIter (some b) clock seen clock)) ∧ Hid (wr.heap[b]? = some (.map es clock)) ∧ Hid (Ext w wr) ∧ Hid (w.heap.size + 1 ≤ wr.heap.size) ∧ Hid (SnI es.toList seen D) ∧ Hid (L.map (·.1) = (D.map fun n => (beOf l n).1).filter fun f => !selfB f))
  case atStart => exact ⟨none, 0, [], [], #[], rfl, rfl, Lib.hid (GaR.start _ _), HR0, HB0, HE0, HZ0, Lib.hid (SnI.start _), Lib.hid rfl⟩
  case round =>
    clear HR0 HB0 HE0 HZ0
    obtain ⟨oa, oc, L, D, seen, rfl, rfl, HG, HRR, HBB, HE, HSR, HV, HLF⟩ := hrel
    rcases run_next_at (P := Tryz.prog) wr 0 w.heap.size b clock clock seen es clock HRR.out HBB.out (fun x hx => HBC.out x hx) (Nat.le_refl _) with ⟨h0, hrun⟩ | ⟨e, he, w1, hw1, hrun⟩
    · have hnx : ∀ ty, (Instr.next (.pointer (some ⟨w.heap.size, 0, none⟩)) false ty).run Tryz.prog wr = _ := fun _ => hrun
      have hfin := HV.out.fin HNE.out h0
      have hLD : (D.map fun n => (beOf l n).1.1) = D := by
        have : ∀ n ∈ D, (beOf l n).1.1 = n := fun n hn => by
          obtain ⟨x, hx, e⟩ := List.mem_map.1 ((hfin n).1 hn)
          rw [← e, beOf_eq HNN.out hx]
        rw [List.map_congr_left this, List.map_id']
      have hdist : L.Pairwise fun x y => x.1.1 ≠ y.1.1 := by
        have h1 : ((D.map fun n => (beOf l n).1).filter fun f => !selfB f).Pairwise (fun f g => f.1 ≠ g.1) := by
          refine List.Pairwise.filter _ ?_
          rw [List.pairwise_map]
          have h2 := HV.out.dn
          rw [← hLD, List.Nodup, List.pairwise_map] at h2
          exact h2
        rw [← HLF.out, List.pairwise_map] at h1
        exact h1
      have hll : L.length ≤ 1000000 := by
        have h1 : (L.map (·.1)).length ≤ D.length := by
          rw [HLF.out]
          refine Nat.le_trans (List.length_filter_le _ _) ?_
          rw [List.length_map]
          exact Nat.le_refl _
        have h2 := HV.out.dn.length_le_of_subset (fun n hn => (hfin n).1 hn)
        rw [List.length_map] at h1 h2
        have := HL.out
        omega
      have hmem : ∀ f, f ∈ L.map (·.1) ↔ ((∃ x ∈ l, x.1 = f) ∧ selfB f = false) := fun f => by
        rw [HLF.out, List.mem_filter, List.mem_map]
        constructor
        · rintro ⟨⟨n, hn, e⟩, h2⟩
          obtain ⟨x, hx, e2⟩ := List.mem_map.1 ((hfin n).1 hn)
          refine ⟨⟨x, hx, ?_⟩, by simpa using h2⟩
          rw [← e, ← e2, beOf_eq HNN.out hx]
        · rintro ⟨⟨x, hx, e⟩, h2⟩
          refine ⟨⟨x.1.1, (hfin _).2 (List.mem_map.2 ⟨x, hx, rfl⟩), by rw [beOf_eq HNN.out hx, e]⟩, by rw [h2]; rfl⟩
      have HST := Lib.hid (fun W (hW : Ext wr W) => sortB135_x L (w.heap.size + 1) (.slice oa L.length oc) W (own_kept HG.out.own hW (fun _ _ h => h)) hdist hll)
      have HFN := Lib.hid hmem
      clear hfin hll h0 hLD hdist hmem
      go_wp2_with fail
      refine (HST.out _ (Upd.refl _ _)).mono ?_
      rintro e w8 ⟨rfl, L', ha, hperm, hF, hu⟩
      have HBN := Lib.hid (HG.out.bn hperm hF hu)
      have HAS : Hid (AscK (Prod.fst : Bd → By) (L'.map (·.1))) := Lib.hid (by
        unfold AscK at ha ⊢
        rw [List.pairwise_map]
        exact ha)
      have HMM : Hid (∀ f, f ∈ L'.map (·.1) ↔ ((∃ x ∈ l, x.1 = f) ∧ selfB f = false)) := Lib.hid (fun f => by rw [(hperm.map (·.1)).mem_iff]; exact HFN.out f)
      have HE8 : Hid (Ext w w8) := Lib.hid (HE.out.trans' hu (fun j hj e => by have h1 := (HG.out.own.lt j e).1; omega))
      clear hnx hrun ha hperm hF hu HST
      go_wp2_with fail
      go_ret
      exact ⟨_, _, rfl, HBN.out.weaken (fun k hk => ⟨by omega, hk.2⟩) (fun k hk => ⟨by omega, hk.2⟩), HAS.out, HMM.out, HE8.out⟩
    · have hml := mem_left he
      obtain ⟨nm0, hnm0, hk0⟩ := HNE.out.name hml.1
      obtain ⟨x, hx, hkv⟩ : ∃ x ∈ l, (Value.string x.1.1, Value.agg (beEnc x).toArray) = (e.key, e.val) := by
        have h1 : (e.key, e.val) ∈ es.toList.map (fun e => (e.key, e.val)) := List.mem_map.2 ⟨e, hml.1, rfl⟩
        rw [HES.out, List.map_map] at h1
        obtain ⟨x, hx, h2⟩ := List.mem_map.1 h1
        exact ⟨x, hx, h2⟩
      have hk : e.key = .string x.1.1 := by injection hkv with h1 _; exact h1.symm
      have hvv : e.val = .agg (beEnc x).toArray := by injection hkv with _ h1; exact h1.symm
      have hxl := HTL.out x hx
      have hxz := HSZ.out x hx
      have hbx := beOf_eq HNN.out hx
      have hrw : w1.heap[w.heap.size]? = some (.mapIter (some b) clock seen clock) := by rcases hw1 with h | h <;> (rw [h]; exact HRR.out)
      have hrb : w1.heap[b]? = some (.map es clock) := by rcases hw1 with h | h <;> (rw [h]; exact HBB.out)
      have hu1 : Upd (fun j => j = w.heap.size) wr (Go.ChangeMaps.setBlock w1 w.heap.size (.mapIter (some b) clock (seen.push e.born) clock)) := by
        have := upd_setBlock w1 w.heap.size (.mapIter (some b) clock (seen.push e.born) clock)
        rcases hw1 with h | h
        · rw [h] at this ⊢; exact this
        · rw [h] at this ⊢; exact this.ofDrew
      have hr2 := heap_setBlock (o' := .mapIter (some b) clock (seen.push e.born) clock) hrw
      rw [hk, hvv] at hrun
      generalize Go.ChangeMaps.setBlock w1 w.heap.size (.mapIter (some b) clock (seen.push e.born) clock) = wN at *
      have HBN := Lib.hid (hu1.heap HBB.out (by have := HBL.out; omega))
      have HRN := Lib.hid hr2
      have hen := run_entry_at (P := Tryz.prog) wN w.heap.size b clock seen es clock e hr2 HBN.out hml.1 HND.out
      rw [hk, hvv] at hen
      have hnx : ∀ ty, (Instr.next (.pointer (some ⟨w.heap.size, 0, none⟩)) false ty).run Tryz.prog wr = _ := fun _ => hrun
      have HGN := Lib.hid (HG.out.kept hu1 (fun j hj _ e => by omega))
      have HEN : Hid (Ext w wN) := Lib.hid (HE.out.trans' hu1 (fun j hj e => by omega))
      have HVN := Lib.hid (HV.out.next HNE.out HNN.out HND.out hml.1 hml.2 hk)
      have HLT := Lib.hid (left_shrinks es seen e he)
      have HSN : Hid (w.heap.size + 1 ≤ wN.heap.size) := Lib.hid (Nat.le_trans HSR.out hu1.size)
      have hll : L.length ≤ 1000000 := by
        have h1 : (L.map (·.1)).length ≤ D.length := by
          rw [HLF.out]
          refine Nat.le_trans (List.length_filter_le _ _) ?_
          rw [List.length_map]
          exact Nat.le_refl _
        have h2 := HV.out.dn.length_le_of_subset (HV.out.sub' HNE.out)
        rw [List.length_map] at h1 h2
        have := HL.out
        omega
      have HLL := Lib.hid hll
      clear hml hk hvv hrw hrb hu1 hr2 he hw1 hkv hnm0 hk0 hll
      obtain ⟨⟨nm, so, t⟩, xa, xm, xc⟩ := x
      obtain rfl : xm = t.kids.length := by
        obtain ⟨a, c, h⟩ := hxl.shape
        injection h
      have HXL := Lib.hid hxl
      have HXZ := Lib.hid hxz
      have HBX := Lib.hid hbx
      clear hxl hxz hbx
      simp only [beEnc, beV] at hrun hen HXL HBX
      have hb5 := alloc0 wN (.cells #[.string nm, .string so, .string t.name, .string t.sort, .slice xa t.kids.length xc] 93)
      have HB5 := Lib.hid hb5
      have HE5 := Lib.hid (HEN.out.alloc (.cells #[.string nm, .string so, .string t.name, .string t.sort, .slice xa t.kids.length xc] 93))
      have hIS := fun W => is_x t xa xc nm so W
      dsimp only [tV] at hIS
      have HIS := Lib.hid hIS
      obtain ⟨sf, hsf⟩ : ∃ b, selfB (nm, so, t) = b := ⟨_, rfl⟩
      have HSF := Lib.hid hsf
      have hsf2 : isB t nm so = sf := hsf
      rw [hsf2] at HIS
      have HEX := Lib.hid ((Upd.refl (fun _ => False) wN).alloc (.cells #[.string nm, .string so, .string t.name, .string t.sort, .slice xa t.kids.length xc] 93))
      clear hb5 hIS hsf hsf2
      go_wp2_with (fail)
      refine (HIS.out _).mono ?_
      rintro e2 w5 ⟨rfl, hw5⟩
      have HE6 := Lib.hid (HE5.out.trans hw5)
      have HX5 := Lib.hid (HEX.out.trans hw5)
      have HB6 := Lib.hid (hw5.heap HB5.out (fun h => h))
      have HR6 := Lib.hid (HX5.out.heap HRN.out (fun h => h))
      have HM6 := Lib.hid (HX5.out.heap HBN.out (fun h => h))
      have HG6 := Lib.hid (HGN.out.kept HX5.out (fun _ _ _ h => h))
      have HS6 : Hid (w.heap.size + 1 ≤ w5.heap.size) := Lib.hid (Nat.le_trans HSN.out HX5.out.size)
      clear hw5 hnx hrun hen HIS HGN HBN HRN HEN HE5 HB5 HEX HSN
      cases sf with
      | true =>
        have HLF' : Hid (L.map (·.1) = ((D ++ [nm]).map fun n => (beOf l n).1).filter fun f => !selfB f) := Lib.hid (by
          rw [List.map_append, List.filter_append, ← HLF.out, List.map_singleton, HBX.out]
          simp [HSF.out])
        go_wp2_with fail
        have hlt := HLT.out
        go_roundg (leftOf es (seen.push e.born)).size
        case measure => exact hlt
        case rel => exact ⟨_, _, L, D ++ [nm], _, rfl, rfl, HG6, HR6, HM6, HE6, HS6, HVN, HLF'⟩
      | false =>
        have b0 := cellRow HB6.out 0 (.string nm) rfl
        have b1 := cellRow HB6.out 1 (.string so) rfl
        have b2 := cellRow HB6.out 2 (.string t.name) rfl
        have b3 := cellRow HB6.out 3 (.string t.sort) rfl
        have b4 := cellRow HB6.out 4 (.slice xa t.kids.length xc) rfl
        obtain ⟨nb, hnb⟩ : ∃ n, wN.heap.size = n := ⟨_, rfl⟩
        rw [hnb] at b0 b1 b2 b3 b4 ⊢
        clear hnb
        have HCP := Lib.hid (fun W (hW : Ext w5 W) => ucopied_x t _ S W ⟨xa, xc, rfl, HXL.out.ext (HE6.out.trans hW)⟩ (fun j hj => Nat.lt_of_lt_of_le (HSS.out j hj) (Nat.le_trans HE6.out.size hW.size)) HXZ.out)
        dsimp only [tV] at HCP
        have HW5 : Hid (Ext w5 w5) := Lib.hid (Upd.refl _ _)
        obtain ⟨iT, hi, hz0, hz1, hz2⟩ := info_parts infoBd
        go_wp2_with fail
        go_region_law (first
          | (refine step_append_at _ (.tmp 20) (.tmp 29) 27 rfl (w.heap.size + 1) 93 iT (.agg #[.string ⟨#[]⟩, .string ⟨#[]⟩, .string ⟨#[]⟩, .string ⟨#[]⟩, .slice none 0 0]) 5 88 Tryz.underlying27 hi hz0 hz1 hz2 rfl (by decide) _ _ _ rfl HOW6.out _ 1 1 [Value.string nm, .string so, .string t.name, .string t.sort, .slice ya t.kids.length yc] rfl rfl HNEW.out HONE.out HLM.out.1 HLM.out.2.1 HLM.out.2.2 ?_; intro v7 w7 hG7; obtain ⟨a7, c7, hv7⟩ := own_shape hG7.own; subst hv7; have HG7 := Lib.hid hG7; clear hG7)
          | (go_simp; refine (HCP.out w5.drew HW5.out.drew).mono ?_; rintro e3 w6 ⟨r, Bx, rfl, hT6, hb6, hw6⟩; obtain ⟨ya, yc, hry⟩ := TlO.shape hT6; subst hry; have HW6 : Hid (Ext w5 w6) := Lib.hid (((Upd.refl (fun _ => False) w5).drewN' 1).trans hw6); have HT6 := Lib.hid hT6.read; have HBX6 : Hid (∀ j, Bx j → w5.heap.size ≤ j ∧ j < w6.heap.size) := Lib.hid hb6; have HOW6 : Hid ((w6.alloc (.cells #[.string nm, .string so, .string t.name, .string t.sort, .slice ya t.kids.length yc] 93)).ownsRow (w.heap.size + 1) 93 5 (.slice oa L.length oc) L.length (L.flatMap beEnc)) := Lib.hid ((own_kept HG6.out.own HW6.out (fun _ _ h => h)).alloc _); have HNEW : Hid (∀ (j : Nat) (u : Value), [Value.string nm, .string so, .string t.name, .string t.sort, .slice ya t.kids.length yc][j]? = some u → (w6.alloc (.cells #[.string nm, .string so, .string t.name, .string t.sort, .slice ya t.kids.length yc] 93)).cell? ((⟨w6.heap.size, 0, none⟩ : Addr).add j) = some u) := Lib.hid (new5 w6 _ _ _ _ _ 93); have HONE : Hid (∀ u ∈ [Value.string nm, .string so, .string t.name, .string t.sort, .slice ya t.kids.length yc], u.oneCell' = true) := Lib.hid (fun u hu => by simp at hu; rcases hu with h | h | h | h | h <;> (subst h; rfl)); have HLM : Hid (L.length + 1 ≤ maxLen ∧ (L.length + 1) * 88 ≤ 140737488355328 ∧ w.heap.size + 1 ≤ (w6.alloc (.cells #[.string nm, .string so, .string t.name, .string t.sort, .slice ya t.kids.length yc] 93)).heap.size) := Lib.hid ⟨by unfold maxLen; have := HLL.out; omega, by have := HLL.out; omega, by have h1 := HW6.out.size; have h2 := HS6.out; simp; omega⟩; have d0 := HW6.out.cell b0 (fun h => h); have d1 := HW6.out.cell b1 (fun h => h); have d2 := HW6.out.cell b2 (fun h => h); have d3 := HW6.out.cell b3 (fun h => h); have d4 := HW6.out.cell b4 (fun h => h); clear hT6 hb6 hw6 HCP))
        all_goals
          go_wp2_with fail
          try go_frame
          have hlen : (L ++ [(((nm, so, t), ya, t.kids.length, yc) : Be)]).length = L.length + 1 := by simp
          have HG8 := Lib.hid (HG6.out.grow HS6.out HW6.out (x := ((nm, so, t), ya, t.kids.length, yc)) HT6.out HBX6.out HG7.out)
          have HU8 : Hid (Upd (fun j => (Value.slice oa L.length oc).ownBlock = some j) w5 w7) := Lib.hid (((HW6.out.alloc (.cells #[.string nm, .string so, .string t.name, .string t.sort, .slice ya t.kids.length yc] 93)).mono (fun _ _ x => x.elim)).trans HG7.out.upd)
          have hol : ∀ j, (Value.slice oa L.length oc).ownBlock = some j → w.heap.size + 1 ≤ j := fun j e => (HG6.out.own.lt j e).1
          have HE8 : Hid (Ext w w7) := Lib.hid (HE6.out.trans' HU8.out (fun j hj e => by have h1 := hol j e; omega))
          have HR8 := Lib.hid (HU8.out.heap HR6.out (fun e => by have h1 := hol _ e; omega))
          have HM8 := Lib.hid (HU8.out.heap HM6.out (fun e => by have h1 := hol _ e; have := HBL.out; omega))
          have HS8 : Hid (w.heap.size + 1 ≤ w7.heap.size) := Lib.hid (Nat.le_trans HS6.out HU8.out.size)
          have HLF' : Hid ((L ++ [(((nm, so, t), ya, t.kids.length, yc) : Be)]).map (·.1) = ((D ++ [nm]).map fun n => (beOf l n).1).filter fun f => !selfB f) := Lib.hid (by
            rw [List.map_append, List.map_append, List.filter_append, ← HLF.out, List.map_singleton, List.map_singleton, HBX.out]
            simp [HSF.out])
          rw [← hlen] at HG8 ⊢
          have hlt := HLT.out
          clear hol hi hz0 hz1 hz2
          go_roundg (leftOf es (seen.push e.born)).size
          case measure => exact hlt
          case rel => exact ⟨a7, c7, _, D ++ [nm], _, rfl, rfl, HG8, HR8, HM8, HE8, HS8, HVN, HLF'⟩

end Go.Proofs.YtlkcjmaiahnodaaGreatDoor

/- Tables; the pure part of Unify. -/
namespace Go.Proofs.YtlkcjmaiahnodaaGreatDoor
open Go.RowKit Go.Hw Go
set_option linter.unusedVariables false
set_option linter.unusedSimpArgs false

open Tm Go.Sort Go.Proofs Go.ChangeMaps
/-- a binding is put into a table -/
def putB : List Be → Be → List Be
  | [], x => [x]
  | y :: l, x => if y.1.1 = x.1.1 then x :: l else y :: putB l x
theorem putB_aput : ∀ (l : List Be) (x : Be), (putB l x).map (fun x => (x.1.1, Value.agg (beEnc x).toArray)) = aput (l.map fun x => (x.1.1, Value.agg (beEnc x).toArray)) x.1.1 (.agg (beEnc x).toArray)
  | [], x => rfl
  | y :: l, x => by
    unfold putB
    rw [List.map_cons]
    unfold aput
    by_cases h : y.1.1 = x.1.1
    · rw [if_pos h, if_pos h, List.map_cons]
    · rw [if_neg h, if_neg h, List.map_cons, putB_aput l x]
theorem putB_mem : ∀ {l : List Be} {x : Be} (hd : (l.map fun x => x.1.1).Nodup) (z : Be), z ∈ putB l x ↔ z = x ∨ (z ∈ l ∧ z.1.1 ≠ x.1.1)
  | [], x, _, z => by unfold putB; simp
  | y :: l, x, hd, z => by
    rw [List.map_cons, List.nodup_cons] at hd
    unfold putB
    by_cases h : y.1.1 = x.1.1
    · rw [if_pos h, List.mem_cons, List.mem_cons]
      constructor
      · rintro (e | e)
        · exact .inl e
        · exact .inr ⟨.inr e, fun e2 => hd.1 (by rw [h, ← e2]; exact List.mem_map.2 ⟨z, e, rfl⟩)⟩
      · rintro (e | ⟨e | e, e2⟩)
        · exact .inl e
        · subst e; exact absurd h e2
        · exact .inr e
    · rw [if_neg h, List.mem_cons, List.mem_cons, putB_mem hd.2 z]
      constructor
      · rintro (e | e | ⟨e, e2⟩)
        · subst e; exact .inr ⟨.inl rfl, h⟩
        · exact .inl e
        · exact .inr ⟨.inr e, e2⟩
      · rintro (e | ⟨e | e, e2⟩)
        · exact .inr (.inl e)
        · exact .inl e
        · exact .inr (.inr ⟨e, e2⟩)
theorem putB_names_in : ∀ {l : List Be} {x : Be}, x.1.1 ∈ (l.map fun x => x.1.1) → (putB l x).map (fun x => x.1.1) = l.map fun x => x.1.1
  | y :: l, x, h => by
    unfold putB
    by_cases e : y.1.1 = x.1.1
    · rw [if_pos e, List.map_cons, List.map_cons, e]
    · rw [if_neg e, List.map_cons, List.map_cons, putB_names_in (by
        rw [List.map_cons, List.mem_cons] at h
        rcases h with h | h
        · exact absurd h.symm e
        · exact h)]
theorem putB_names_out : ∀ {l : List Be} {x : Be}, x.1.1 ∉ (l.map fun x => x.1.1) → (putB l x).map (fun x => x.1.1) = (l.map fun x => x.1.1) ++ [x.1.1]
  | [], x, h => rfl
  | y :: l, x, h => by
    rw [List.map_cons, List.mem_cons, not_or] at h
    unfold putB
    rw [if_neg (fun e => h.1 e.symm), List.map_cons, List.map_cons, putB_names_out h.2]
    rfl
theorem putB_nodup {l : List Be} {x : Be} (hd : (l.map fun x => x.1.1).Nodup) : ((putB l x).map fun x => x.1.1).Nodup := by
  by_cases h : x.1.1 ∈ (l.map fun x => x.1.1)
  · rw [putB_names_in h]; exact hd
  · rw [putB_names_out h, List.nodup_append]
    exact ⟨hd, by simp, fun a ha b hb e => by rw [List.mem_singleton] at hb; subst hb; subst e; exact h ha⟩
/-- the binding of a variable to itself -/
def vaBe (v : Vd) : Be := ((v.1, v.2, .mk v.1 v.2 []), none, 0, 0)
def tbOf (vs : List Vd) : List Be := vs.foldl (fun l v => putB l (vaBe v)) []
theorem tbOf_snoc (vs : List Vd) (v : Vd) : tbOf (vs ++ [v]) = putB (tbOf vs) (vaBe v) := by unfold tbOf; rw [List.foldl_append]; rfl
theorem tbOf_spec : ∀ (vs : List Vd), (∀ v ∈ vs, ∀ u ∈ vs, v.1 = u.1 → v = u) → ((tbOf vs).map fun x => x.1.1).Nodup ∧ ∀ z, z ∈ tbOf vs ↔ ∃ v ∈ vs, z = vaBe v := by
  intro vs
  suffices H : ∀ n, ∀ vs : List Vd, vs.length = n → (∀ v ∈ vs, ∀ u ∈ vs, v.1 = u.1 → v = u) → ((tbOf vs).map fun x => x.1.1).Nodup ∧ ∀ z, z ∈ tbOf vs ↔ ∃ v ∈ vs, z = vaBe v from H _ vs rfl
  intro n
  induction n with
  | zero =>
    intro vs h _
    rw [List.eq_nil_of_length_eq_zero h]
    exact ⟨List.nodup_nil, fun z => by unfold tbOf; simp⟩
  | succ n ih =>
    intro vs h hc
    obtain ⟨ws, v, rfl⟩ : ∃ ws v, vs = ws ++ [v] := ⟨vs.dropLast, vs.getLast (by intro e; rw [e] at h; cases h), (List.dropLast_concat_getLast _).symm⟩
    obtain ⟨h1, h2⟩ := ih ws (by simpa using h) (fun a ha b hb => hc a (List.mem_append_left _ ha) b (List.mem_append_left _ hb))
    rw [tbOf_snoc]
    refine ⟨putB_nodup h1, fun z => ?_⟩
    rw [putB_mem h1]
    constructor
    · rintro (e | ⟨e, e2⟩)
      · exact ⟨v, List.mem_append_right _ (List.mem_singleton.2 rfl), e⟩
      · obtain ⟨u, hu, e3⟩ := (h2 z).1 e
        exact ⟨u, List.mem_append_left _ hu, e3⟩
    · rintro ⟨u, hu, e⟩
      by_cases he : u.1 = v.1
      · have := hc u hu v (List.mem_append_right _ (List.mem_singleton.2 rfl)) he
        rw [this] at e
        exact .inl e
      · rcases List.mem_append.1 hu with hu | hu
        · exact .inr ⟨(h2 z).2 ⟨u, hu, e⟩, by rw [e]; exact he⟩
        · rw [List.mem_singleton] at hu
          rw [hu] at he
          exact absurd rfl he
theorem left_size {es es' : Array MapEntry} (h : es'.toList.map (·.born) = es.toList.map (·.born)) (seen : Array Nat) : (leftOf es' seen).size = (leftOf es seen).size := by
  have key : ∀ es : Array MapEntry, (leftOf es seen).size = ((es.toList.map (·.born)).filter fun b => !seen.contains b).length := fun es => by
    unfold leftOf
    rw [← Array.length_toList, Array.toList_filter, List.filter_map, List.length_map]
    rfl
  rw [key, key, h]
theorem key_born {es es' : List MapEntry} (h1 : es.map (·.key) = es'.map (·.key)) (h2 : es.map (·.born) = es'.map (·.born)) : es.map (fun e => (e.key, e.born)) = es'.map (fun e => (e.key, e.born)) := by
  have h : ∀ es : List MapEntry, es.map (fun e => (e.key, e.born)) = (es.map (·.key)).zip (es.map (·.born)) := fun es => by
    induction es with
    | nil => rfl
    | cons e es ih => simp only [List.map_cons, List.zip_cons_cons, ih]
  rw [h, h, h1, h2]
/-- a key that is there gets another value: the births stay -/
theorem MpR.upd {P : Program} {et t kt : TypeId} (K : KeyEnc P kt (fun s : ByteArray => Value.string s)) (ht : P.underlying t = some (.map kt et)) {w : World} {b : Nat} {es : Array MapEntry} {cl : Nat} {l : List (By × Value)} (h1 : w.heap[b]? = some (.map es cl)) (h2 : es.toList.map (fun e => (e.key, e.val)) = l.map (fun p => (Value.string p.1, p.2))) (k : By) (v : Value) (hk : k ∈ l.map (·.1)) :
    ∃ w' es', (Instr.mapUpdate t (.map (some b)) (.string k) v).run P w = .ok () w' ∧ w'.heap[b]? = some (.map es' cl) ∧ es'.toList.map (fun e => (e.key, e.val)) = (aput l k v).map (fun p => (Value.string p.1, p.2)) ∧ es'.toList.map (·.born) = es.toList.map (·.born) ∧ Upd (fun j => j = b) w w' := by
  have hf := K.find k es.toList l w h2
  have hc := K.check false k w
  have hblt := (Array.getElem?_eq_some_iff.1 h1).1
  have hupd : ∀ o, Upd (fun j => j = b) w { w with heap := w.heap.setIfInBounds b o } := fun o =>
    ⟨rfl, rfl, rfl, by simp, fun i hi hF => by simp [Ne.symm (show i ≠ b from hF)]⟩
  rw [aput_idx]
  generalize hx : (l.findIdx? fun p => decide (p.1 = k)) = x at *
  cases x with
  | none =>
    rw [List.findIdx?_eq_none_iff] at hx
    obtain ⟨p, hp, e⟩ := List.mem_map.1 hk
    have := hx p hp
    rw [e] at this
    simp at this
  | some i =>
    have hi : i < l.length := by
      rw [List.findIdx?_eq_some_iff_getElem] at hx
      exact hx.1
    have hlen : es.size = l.length := by
      have := congrArg List.length h2
      simpa using this
    have hki : (l[i]'hi).1 = k := by
      rw [List.findIdx?_eq_some_iff_getElem] at hx
      simpa using hx.2.1
    have hes : (es[i]'(by omega)).key = .string k := by
      have h5 : (es.toList.map (fun e => (e.key, e.val)))[i]? = (l.map (fun p => (Value.string p.1, p.2)))[i]? := by rw [h2]
      rw [List.getElem?_map, List.getElem?_map, Array.getElem?_toList, Array.getElem?_eq_getElem (show i < es.size by omega), List.getElem?_eq_getElem hi] at h5
      simp only [Option.map_some] at h5
      have h6 := congrArg Prod.fst (Option.some.inj h5)
      simp only at h6
      rw [h6, hki]
    have hst : (Instr.keyThatStays (((es[i]?).map (·.key)).getD (.string k)) (.string k)).run P w = .ok (.string k) w := by
      rw [Array.getElem?_eq_getElem (show i < es.size by omega)]
      simp only [Option.map_some, Option.getD_some, hes]
      unfold Instr.keyThatStays
      rw [if_pos (K.same k)]
      rfl
    refine ⟨_, es.modify i fun e => { e with key := .string k, val := v }, by simp [Instr.mapUpdate, run_underlying ht, MapKept.run_getObj_map h1, hc, hf, hst, MapKept.run_setObj_map _ h1, Result.andThen]; rfl, by simp [hblt], ?_, ?_, hupd _⟩
    · rw [Array.toList_modify]
      apply List.ext_getElem?
      intro j
      have h5 : (es.toList.map (fun e => (e.key, e.val)))[j]? = (l.map (fun p => (Value.string p.1, p.2)))[j]? := by rw [h2]
      simp only [List.getElem?_map, List.getElem?_modify, List.getElem?_set] at h5 ⊢
      by_cases e : i = j
      · subst e
        rw [if_pos rfl, if_pos hi]
        rw [Array.getElem?_toList, Array.getElem?_eq_getElem (show i < es.size by omega)]
        simp
      · rw [if_neg e]
        cases hq : es.toList[j]? with
        | none => rw [hq] at h5; simpa using h5
        | some u => rw [hq] at h5; simpa [e] using h5
    · rw [Array.toList_modify]
      apply List.ext_getElem?
      intro j
      simp only [List.getElem?_map, List.getElem?_modify]
      cases es.toList[j]? with
      | none => rfl
      | some u => simp only [Option.map_some]; split <;> rfl
/-- what is under way stays where other things are written -/
theorem Ur.kept {T : List Nr} {ad : Nat → Nat × Nat} {S F : Nat → Prop} {CT UT : TypeId} {bv bn ub : Nat} {bk : List Nat} {st : St} {w w' : World} (h : Ur T ad S CT UT bv bn ub bk st w) (hu : Upd F w w') (hF : ∀ k, (Fb bv bn bk k ∨ S k ∨ k = ub) → ¬ F k) : Ur T ad S CT UT bv bn ub bk st w' :=
  ⟨h.us.ext hu (fun k hk => hF k (.inl hk)), h.nd.kept hu (fun k hk => hF k (.inr (.inl hk))), hu.heap h.u (hF _ (.inr (.inr rfl))), h.un, fun k hk => ⟨Nat.lt_of_lt_of_le (h.sn k hk).1 hu.size, (h.sn k hk).2⟩⟩
theorem Us'.outside {T : List Nr} {ad : Nat → Nat × Nat} {S F : Nat → Prop} {CT UT : TypeId} {bv bn ub : Nat} {bk bk' : List Nat} {st' : St} {w w' w'' : World} (h : Us' T ad S CT UT bv bn ub bk bk' st' w w') (hu : Upd F w' w'') (hF : ∀ k, (Fb bv bn bk' k ∨ S k ∨ k = ub) → ¬ F k) (hl : ∀ j, j < w.heap.size → ¬ F j) : Us' T ad S CT UT bv bn ub bk bk' st' w w'' :=
  ⟨Ur.kept h.ur hu hF, h.upd.trans' hu (fun j hj hf => absurd hf (hl j hj)), h.pre, h.new⟩
theorem drop_vg (l : List Vd) (k : Nat) (h : k < l.length) : l.drop k = vg l k :: l.drop (k + 1) := by
  rw [List.drop_eq_getElem_cons h]
  unfold vg
  rw [List.getD_eq_getElem?_getD, List.getElem?_eq_getElem h]
  rfl
theorem take_vg (l : List Vd) (k : Nat) (h : k < l.length) : l.take (k + 1) = l.take k ++ [vg l k] := by
  rw [List.take_add_one]
  unfold vg
  rw [List.getD_eq_getElem?_getD, List.getElem?_eq_getElem h]
  rfl
/-- all the variables, one behind the other: their classes, and the search from these -/
def acV (T : List Nr) (F : Nat) : St → List Vd → Option (St × Bool)
  | st, [] => some (st, true)
  | st, v :: vs => match varF F st v.1 v.2 with
    | none => none
    | some (st1, c) => match acG T F st1 c with
      | none => none
      | some (st2, false) => some (st2, false)
      | some (st2, true) => acV T F st2 vs
/-- Unify, up to the tables: none: not foreseen; some none: there is no unifier -/
def uRes (T : List Nr) (F : Nat) (vs : List Vd) : Option (Option St) := match unF T F ⟨[], [], []⟩ 0 1 with
  | none => none
  | some (_, false) => some none
  | some (st1, true) => match acV T F st1 vs with
    | none => none
    | some (_, false) => some none
    | some (st2, true) => match classF T F st2 0 with
      | none => none
      | some (st3, c) => match acG T F st3 c with
        | none => none
        | some (_, false) => some none
        | some (st4, true) => some (some st4)

end Go.Proofs.YtlkcjmaiahnodaaGreatDoor
