/- The texts Y20 Y21, one behind the other. -/
import Derived.Test.YtjjaknmnhhfjeaaGreatDoorYAK
/- What is put is there: pure. -/
namespace Go.Proofs.YtjjaknmnhhfjeaaGreatDoor
open Go.RowKit Go.Hw Go Go.Sort Go.Proofs Go.ChangeMaps
set_option linter.unusedVariables false
set_option linter.unusedSimpArgs false

open Tm
theorem tg_set {L : List Tm} {k : Nat} (z : Tm) (hk : k < L.length) : tg (L.set k z) k = z := by
  unfold tg
  rw [List.getD_eq_getElem?_getD, List.getElem?_set_self hk]; rfl
theorem tg_set_ne {L : List Tm} {k j : Nat} (z : Tm) (h : k ≠ j) : tg (L.set k z) j = tg L j := by
  unfold tg
  rw [List.getD_eq_getElem?_getD, List.getElem?_set_ne h, ← List.getD_eq_getElem?_getD]
theorem set_tgs {L : List Tm} {k : Nat} (hk : k < L.length) : L.set k (tg L k) = L := by
  unfold tg
  rw [List.getD_eq_getElem?_getD, List.getElem?_eq_getElem hk]
  exact List.set_getElem_self hk
theorem sub_put (u : Tm) : ∀ (p : List Int) (t s : Tm), subI t p = some s → subI (putAt t (p.map Int.toNat) u) p = some u
  | [], t, s, _ => by
    show subI (putAt t [] u) [] = some u
    rw [putAt_nil]; rfl
  | i :: p, t, s, h => by
    obtain ⟨n, so, L⟩ := t
    rw [subI_cons] at h
    change (if i < 0 ∨ (L.length : Int) ≤ i then none else subI (tg L i.toNat) p) = some s at h
    by_cases hc : i < 0 ∨ ((L.length : Nat) : Int) ≤ i
    · rw [if_pos hc] at h; cases h
    rw [if_neg hc] at h
    have hk : i.toNat < L.length := by omega
    rw [List.map_cons, putAt_cons, subI_cons]
    show (if i < 0 ∨ ((L.set i.toNat _).length : Int) ≤ i then none else subI (tg (L.set i.toNat _) i.toNat) p) = some u
    rw [List.length_set, if_neg hc, tg_set _ hk]
    exact sub_put u p _ s h
theorem put_back (u : Tm) : ∀ (q : List Nat) (t : Tm), okP t q → putAt (putAt t q u) q (tmAt t q) = t
  | [], t, _ => by rw [putAt_nil]; rfl
  | k :: q, t, h => by
    obtain ⟨n, so, L⟩ := t
    have hk : k < L.length := h.1
    rw [putAt_cons, putAt_cons, tg_set _ hk, List.set_set]
    show Tm.mk n so (L.set k (putAt (putAt (tg L k) q u) q (tmAt (tg L k) q))) = _
    rw [put_back u q (tg L k) h.2, set_tgs hk]
theorem put_beside (u : Tm) : ∀ (p b : List Int) (t s : Tm), subI t p = some s → p.take (min p.length b.length) ≠ b.take (min p.length b.length) → subI (putAt t (p.map Int.toNat) u) b = subI t b
  | [], b, t, s, _, hn => by simp at hn
  | i :: p, [], t, s, _, hn => by simp at hn
  | i :: p, j :: b, t, s, h, hn => by
    obtain ⟨n, so, L⟩ := t
    rw [subI_cons] at h
    change (if i < 0 ∨ (L.length : Int) ≤ i then none else subI (tg L i.toNat) p) = some s at h
    by_cases hc : i < 0 ∨ ((L.length : Nat) : Int) ≤ i
    · rw [if_pos hc] at h; cases h
    rw [if_neg hc] at h
    have hk : i.toNat < L.length := by omega
    rw [List.map_cons, putAt_cons, subI_cons, subI_cons]
    show (if j < 0 ∨ ((L.set i.toNat _).length : Int) ≤ j then none else subI (tg (L.set i.toNat _) j.toNat) b) = (if j < 0 ∨ (L.length : Int) ≤ j then none else subI (tg L j.toNat) b)
    rw [List.length_set]
    by_cases hj : j < 0 ∨ (L.length : Int) ≤ j
    · rw [if_pos hj, if_pos hj]
    rw [if_neg hj, if_neg hj]
    by_cases hij : i = j
    · subst hij
      rw [tg_set _ hk]
      refine put_beside u p b _ s h (fun e => hn ?_)
      rw [List.length_cons, List.length_cons, Nat.add_min_add_right, List.take_succ_cons, List.take_succ_cons, e]
    · rw [tg_set_ne _ (by omega)]
theorem rep_ok {t u : Tm} {p : List Int} (h : (repF t p u).2 = 0) : ∃ s, wf nmB t = true ∧ wf nmB u = true ∧ subI t p = some s ∧ (repF t p u).1 = putAt t (p.map Int.toNat) u ∧ wf nmB (putAt t (p.map Int.toNat) u) = true := by
  unfold repF at h ⊢
  split at h
  · cases h
  rename_i h0
  rw [if_neg h0]
  have h1 : wf nmB t = true ∧ wf nmB u = true := by
    cases ha : wf nmB t <;> cases hb : wf nmB u <;> simp [ha, hb] at h0 ⊢
  cases hs : subI t p with
  | none => rw [hs] at h; cases h
  | some s =>
    rw [hs] at h
    simp only at h ⊢
    split at h
    · cases h
    rename_i h2
    split at h
    · cases h
    rename_i h3
    rw [if_neg h2, if_neg h3]
    refine ⟨s, h1.1, h1.2, rfl, rfl, ?_⟩
    unfold wf
    rw [Bool.and_eq_true]
    refine ⟨by simpa using h2, ?_⟩
    cases hh : (sortsT (putAt t (p.map Int.toNat) u)).isSome with
    | true => rfl
    | false => exact absurd hh h3
theorem rep_no {t u : Tm} {p : List Int} (h : (repF t p u).2 ≠ 0) : (repF t p u).1 = nulT := by
  unfold repF at h ⊢
  split
  · rfl
  rename_i h0
  rw [if_neg h0] at h
  cases hs : subI t p with
  | none => rfl
  | some s =>
    rw [hs] at h
    simp only at h ⊢
    split
    · rfl
    rename_i h2
    rw [if_neg h2] at h
    split
    · rfl
    rename_i h3
    rw [if_neg h3] at h
    exact absurd rfl h
theorem at_ok {t s : Tm} {p : List Int} (hw : wf nmB t = true) (hs : subI t p = some s) : atF t p = (s, 0) := by
  unfold atF
  rw [if_neg (by rw [hw]; simp), hs]
theorem sub_wf {t s : Tm} {p : List Int} (hw : wf nmB t = true) (hs : subI t p = some s) : wf nmB s = true := by
  obtain ⟨h1, h2⟩ := subI_ok hs
  rw [← h2]
  exact wf_tmAt hw h1
theorem rep_again {t u s : Tm} {p : List Int} (hw : wf nmB t = true) (hs : subI t p = some s) (hx : wf nmB (putAt t (p.map Int.toNat) u) = true) : repF (putAt t (p.map Int.toNat) u) p s = (t, 0) := by
  obtain ⟨h1, h2⟩ := subI_ok hs
  unfold repF
  rw [if_neg (by rw [hx, sub_wf hw hs]; simp), sub_put u p t s hs]
  simp only
  have hb : putAt (putAt t (p.map Int.toNat) u) (p.map Int.toNat) s = t := by rw [← h2]; exact put_back u _ t h1
  rw [hb]
  have h3 := hw
  unfold wf at h3
  rw [Bool.and_eq_true] at h3
  rw [if_neg (by rw [h3.1]; simp), if_neg (by rw [h3.2]; simp)]
theorem at_beside {t u s : Tm} {p b : List Int} (hw : wf nmB t = true) (hs : subI t p = some s) (hx : wf nmB (putAt t (p.map Int.toNat) u) = true) (hn : p.take (min p.length b.length) ≠ b.take (min p.length b.length)) : atF (putAt t (p.map Int.toNat) u) b = atF t b := by
  unfold atF
  rw [hx, hw, put_beside u p b t s hs hn]
theorem sort0 {g : Sg} {t : Tm} : (sortF g t).2 = 0 ↔ vsgB nmB g = true ∧ wf nmB t = true ∧ wrongF g t = 0 := by
  rw [← validF_iff]; unfold validF; rw [decide_eq_true_eq]
theorem sort1 {g : Sg} {t : Tm} (h : (sortF g t).2 = 0) : (sortF g t).1 = ownF g t := by
  obtain ⟨h1, h2, h3⟩ := sort0.1 h
  unfold sortF
  rw [if_neg (by rw [h1, h2]; simp), if_neg (by rw [h3]; simp)]
theorem wf_NoP {t : Tm} (h : wf nmB t = true) : NoP t := fun x hx hs => by
  rcases ((formed_nd (wf_formed h)).2 x hx).2.2 with e | e
  · exact absurd e hs
  · exact e.2
theorem sort_sub {g : Sg} {t s : Tm} {p : List Int} (hs : subI t p = some s) (h : (sortF g t).2 = 0) : (sortF g s).2 = 0 := by
  obtain ⟨h1, h2, h3⟩ := sort0.1 h
  obtain ⟨h4, h5⟩ := subI_ok hs
  have h6 := sub_wf h2 hs
  refine sort0.2 ⟨h1, h6, ?_⟩
  rw [← ws_wrong (wf_NoP h6), ← h5]
  exact ws_tmAt _ t h4 ((ws_wrong (wf_NoP h2)).2 h3)
theorem sort_same {g : Sg} {t u s : Tm} {p : List Int} (hs : subI t p = some s) (hx : wf nmB (putAt t (p.map Int.toNat) u) = true) (ht : (sortF g t).2 = 0) (hu : (sortF g u).2 = 0) (h : p.length = 0 ∨ (sortF g s).1 = (sortF g u).1) :
    (sortF g (putAt t (p.map Int.toNat) u)).2 = 0 ∧ ((sortF g (putAt t (p.map Int.toNat) u)).1 = (sortF g t).1 ∨ p.length = 0 ∧ (sortF g (putAt t (p.map Int.toNat) u)).1 = (sortF g u).1) := by
  by_cases hp : p.length = 0
  · obtain rfl := List.eq_nil_of_length_eq_zero hp
    rw [List.map_nil, putAt_nil]
    exact ⟨hu, .inr ⟨rfl, rfl⟩⟩
  have h7 := h.resolve_left hp
  rw [sort1 (sort_sub hs ht), sort1 hu] at h7
  obtain ⟨g1, h2, h3⟩ := sort0.1 ht
  obtain ⟨_, h2u, h3u⟩ := sort0.1 hu
  obtain ⟨h4, h5⟩ := subI_ok hs
  obtain ⟨k1, k2⟩ := ws_put ((ws_wrong (wf_NoP h2u)).2 h3u) _ t h4 (wf_NoP h2) ((ws_wrong (wf_NoP h2)).2 h3) (by rw [own_eq, own_eq, h5]; exact h7.symm)
  have hm : (sortF g (putAt t (p.map Int.toNat) u)).2 = 0 := sort0.2 ⟨g1, hx, (ws_wrong (wf_NoP hx)).1 k1⟩
  refine ⟨hm, .inl ?_⟩
  rw [sort1 hm, sort1 ht, ← own_eq, ← own_eq, k2]
theorem sort_type {g : Sg} {t u s : Tm} {p : List Int} (hs : subI t p = some s) (hx : wf nmB (putAt t (p.map Int.toNat) u) = true) (ht : (sortF g t).2 = 0) (hu : (sortF g u).2 = 0) (h : ¬ (p.length = 0 ∨ (sortF g s).1 = (sortF g u).1)) :
    (sortF g (putAt t (p.map Int.toNat) u)).2 = 11 := by
  rw [sort1 (sort_sub hs ht), sort1 hu] at h
  obtain ⟨g1, h2, h3⟩ := sort0.1 ht
  obtain ⟨_, h2u, h3u⟩ := sort0.1 hu
  obtain ⟨h4, h5⟩ := subI_ok hs
  have hw := put_type (resOk_of g1) ((ws_wrong (wf_NoP h2u)).2 h3u) _ t (by intro e; exact h (.inl (by rw [← List.length_map (f := Int.toNat), e]; rfl))) h4 (wf_NoP h2) ((ws_wrong (wf_NoP h2)).2 h3) (by rw [own_eq, own_eq, h5]; exact fun e => h (.inr e.symm))
  unfold sortF
  rw [if_neg (by rw [g1, hx]; simp), hw, if_pos (by decide)]
theorem wide_small {g : Sg} (h : wideG g = false) : g.1.length ≤ 1000000 ∧ g.2.length ≤ 1000000 ∧ ∀ d ∈ g.2, d.2.1.length ≤ 1000000 := by
  unfold wideG at h
  rw [Bool.or_eq_false_iff, Bool.or_eq_false_iff, Bool.or_eq_false_iff] at h
  obtain ⟨⟨⟨h1, h2⟩, _⟩, h4⟩ := h
  refine ⟨by have := of_decide_eq_false h1; omega, by have := of_decide_eq_false h2; omega, fun d hd => ?_⟩
  have h5 := List.any_eq_false.1 h4 d hd
  have h6 : wdD d = false := by simpa using h5
  unfold wdD at h6
  rw [Bool.or_eq_false_iff, Bool.or_eq_false_iff] at h6
  have := of_decide_eq_false h6.1.2
  omega

end Go.Proofs.YtjjaknmnhhfjeaaGreatDoor

/- The law TermPuts. -/
namespace Go.Proofs.YtjjaknmnhhfjeaaGreatDoor
open Go.RowKit Go.Hw Go Go.Sort Go.Proofs Go.ChangeMaps
set_option linter.unusedVariables false
set_option linter.unusedSimpArgs false

open Tm
theorem tl_ne {a b : By} (h : ¬ a = b) : ¬ ByteArray.toList a = ByteArray.toList b := fun e => h (ba_list (by rw [← Lib.toList_data, ← Lib.toList_data, e]))
theorem eqI_x (p b : List Int) (n : Nat) (pa ba : Option Addr) (pc bc : Nat) (S : Nat → Prop) (w : World) (hP : SlR S w 1 (.slice pa p.length pc) p.length (p.map (Value.int .i64))) (hB : SlR S w 1 (.slice ba b.length bc) b.length (b.map (Value.int .i64))) (h1 : n ≤ p.length) (h2 : n ≤ b.length) (hn : n ≤ 1000) :
    Calls Tryz.prog 29 #[.slice pa n pc, .slice ba n bc] w fun e w' => e = .returned (.bool (decide (p.take n = b.take n))) ∧ Ext w w' := by
  by_cases h0 : n = 0
  · subst h0
    refine (Tryz.slices_Equal_int_empty pa ba pc 0 bc w (by omega)).mono ?_
    rintro e w' ⟨rfl, rfl⟩
    exact ⟨by simp, Upd.refl _ _⟩
  obtain ⟨g1, o1, rfl, _, c1⟩ := SlR.one_at (d := (0 : Int)) hP (by omega)
  obtain ⟨g2, o2, rfl, _, c2⟩ := SlR.one_at (d := (0 : Int)) hB (by omega)
  refine (Tryz.slices_Equal_int g1 o1 n pc g2 o2 n bc p b w h1 h2 (by omega) (by omega) c1 c2).mono ?_
  rintro e w' ⟨rfl, q, rfl⟩
  refine ⟨?_, (Upd.refl _ _).drewN' q⟩
  congr 2
  rw [Bool.eq_iff_iff, beq_iff_eq, decide_eq_true_eq]
set_option maxRecDepth 100000 in
set_option maxHeartbeats 2000000 in
theorem puts_law (g : Sg) (t : Tm) (p : List Int) (u : Tm) (b : List Int) (gv tv pv uv bv : Value) (w : World) (hG : SgR (fun k => k < w.heap.size) w g gv) (hT : TmR (fun k => k < w.heap.size) w t tv) (hP : SlR (fun k => k < w.heap.size) w 1 pv p.length (p.map (Value.int .i64))) (hU : TmR (fun k => k < w.heap.size) w u uv) (hB : SlR (fun k => k < w.heap.size) w 1 bv b.length (b.map (Value.int .i64))) (htab : AscT w) :
    Calls Tryz.prog 6 #[gv, tv, pv, uv, bv] w fun e w' => e = .returned (.bool true) ∧ Ext w w' := by
  have HSG := Lib.hid hG
  obtain ⟨pa, pc, rfl⟩ := SlR.shape hP
  obtain ⟨ba, bc, rfl⟩ := SlR.shape hB
  have HPP := Lib.hid hP
  have HBP := Lib.hid hB
  obtain ⟨sa, sc, oa, oc, rfl, _, _⟩ := hG
  obtain ⟨a, cap, rfl, hT⟩ := hT
  obtain ⟨ua, uc, rfl, hU⟩ := hU
  have HTS := Lib.hid hT
  have HUS := Lib.hid hU
  have HTAB := Lib.hid htab
  have HAW := Lib.hid (fun W (hW : Ext w W) => awake_x W (asc_ext htab hW))
  have HE1 := Lib.hid ((((Upd.refl (fun _ => False) w).alloc (.cells #[.slice sa g.1.length sc, .slice oa g.2.length oc] 42)).alloc (.cells #[.string t.name, .string t.sort, .slice a t.kids.length cap] 24)).alloc (.cells #[.string u.name, .string u.sort, .slice ua u.kids.length uc] 24))
  have HG1 := Lib.hid (allocOld (allocOld (alloc0 w (.cells #[.slice sa g.1.length sc, .slice oa g.2.length oc] 42)) (.cells #[.string t.name, .string t.sort, .slice a t.kids.length cap] 24)) (.cells #[.string u.name, .string u.sort, .slice ua u.kids.length uc] 24))
  have HT1 := Lib.hid (allocOld (alloc_at (w.alloc (.cells #[.slice sa g.1.length sc, .slice oa g.2.length oc] 42)) (.cells #[.string t.name, .string t.sort, .slice a t.kids.length cap] 24) (n := w.heap.size + 1) (by simp)) (.cells #[.string u.name, .string u.sort, .slice ua u.kids.length uc] 24))
  have HU1 := Lib.hid (alloc_at ((w.alloc (.cells #[.slice sa g.1.length sc, .slice oa g.2.length oc] 42)).alloc (.cells #[.string t.name, .string t.sort, .slice a t.kids.length cap] 24)) (.cells #[.string u.name, .string u.sort, .slice ua u.kids.length uc] 24) (n := w.heap.size + 1 + 1) (by simp))
  dsimp only [tV]
  clear hT hU hP hB htab
  have g0_ := cellRow HG1.out 0 (.slice sa g.1.length sc) rfl
  have g1_ := cellRow HG1.out 1 (.slice oa g.2.length oc) rfl
  go_enter Tryz.func6, Tryz.ntmps6
  go_wp2_with fail
  generalize ((w.alloc (.cells #[.slice sa g.1.length sc, .slice oa g.2.length oc] 42)).alloc (.cells #[.string t.name, .string t.sort, .slice a t.kids.length cap] 24)).alloc (.cells #[.string u.name, .string u.sort, .slice ua u.kids.length uc] 24) = w1 at *
  refine (HAW.out _ HE1.out).mono ?_
  rintro e w2 ⟨rfl, h⟩
  clear g0_ g1_
  have HE2 := Lib.hid (HE1.out.trans h)
  have HG2 := Lib.hid (h.heap HG1.out (fun h => h))
  have HT2 := Lib.hid (h.heap HT1.out (fun h => h))
  have HU2 := Lib.hid (h.heap HU1.out (fun h => h))
  clear h HE1 HG1 HT1 HU1 
  clear HAW
  have g0_ := cellRow HG2.out 0 (.slice sa g.1.length sc) rfl
  have g1_ := cellRow HG2.out 1 (.slice oa g.2.length oc) rfl
  have HCC := Lib.hid (wide_x g (.agg #[.slice sa g.1.length sc, .slice oa g.2.length oc]) (fun k => k < w.heap.size) w2 (HSG.out.ext HE2.out))
  go_wp2_with fail
  refine HCC.out.mono ?_
  clear HCC
  rintro e w3 ⟨rfl, h⟩
  clear g0_ g1_
  have HE3 := Lib.hid (HE2.out.trans h)
  have HG3 := Lib.hid (h.heap HG2.out (fun h => h))
  have HT3 := Lib.hid (h.heap HT2.out (fun h => h))
  have HU3 := Lib.hid (h.heap HU2.out (fun h => h))
  clear h HE2 HG2 HT2 HU2 
  cases hwd : wideG g
  case true =>
    clear hwd
    go_wp2_with fail
    refine bodyPost_ret (v := .bool true) (by simp [results, Tryz.results6, go_sem]) rfl ?_
    exact ⟨rfl, HE3.out⟩
  case false =>
    obtain ⟨hl1, hl2, hl3⟩ := wide_small hwd
    have HL3 := Lib.hid hl3
    clear hwd hl3
    have t0_ := cellRow HT3.out 0 (.string t.name) rfl
    have t1_ := cellRow HT3.out 1 (.string t.sort) rfl
    have t2_ := cellRow HT3.out 2 (.slice a t.kids.length cap) rfl
    have u0_ := cellRow HU3.out 0 (.string u.name) rfl
    have u1_ := cellRow HU3.out 1 (.string u.sort) rfl
    have u2_ := cellRow HU3.out 2 (.slice ua u.kids.length uc) rfl
    have HC := Lib.hid (alloc0 w3 (.cells #[.string t.name, .string t.sort, .slice a t.kids.length cap, .string u.name, .string u.sort, .slice ua u.kids.length uc] 24))
    have hz := (Upd.refl (fun _ => False) w3).alloc (.cells #[.string t.name, .string t.sort, .slice a t.kids.length cap, .string u.name, .string u.sort, .slice ua u.kids.length uc] 24)
    have HE3a := Lib.hid (HE3.out.trans hz)
    have HG3a := Lib.hid (hz.heap HG3.out (fun h => h))
    have HT3a := Lib.hid (hz.heap HT3.out (fun h => h))
    have HU3a := Lib.hid (hz.heap HU3.out (fun h => h))
    clear hz HE3 HG3 HT3 HU3 
    have HCC := Lib.hid (big_x [t, u] (.slice (some ⟨w3.heap.size, 0, none⟩) 2 2) (fun k => k < (w3.alloc (.cells #[.string t.name, .string t.sort, .slice a t.kids.length cap, .string u.name, .string u.sort, .slice ua u.kids.length uc] 24)).heap.size) (w3.alloc (.cells #[.string t.name, .string t.sort, .slice a t.kids.length cap, .string u.name, .string u.sort, .slice ua u.kids.length uc] 24)) (tl2_row HC.out (by simp) ((HTS.out.ext HE3a.out).weaken (fun k hk => Nat.lt_of_lt_of_le hk HE3a.out.size)) ((HUS.out.ext HE3a.out).weaken (fun k hk => Nat.lt_of_lt_of_le hk HE3a.out.size))) (fun k hk => hk) (by simp))
    go_wp2_with fail
    refine HCC.out.mono ?_
    clear HCC
    rintro e w4 ⟨rfl, h⟩
    clear t0_ t1_ t2_ u0_ u1_ u2_
    have HE4 := Lib.hid (HE3a.out.trans h)
    have HG4 := Lib.hid (h.heap HG3a.out (fun h => h))
    have HT4 := Lib.hid (h.heap HT3a.out (fun h => h))
    have HU4 := Lib.hid (h.heap HU3a.out (fun h => h))
    clear h HE3a HG3a HT3a HU3a 
    clear HC
    cases hbg : bigF [t, u]
    case true =>
      clear hbg
      go_wp2_with fail
      refine bodyPost_ret (v := .bool true) (by simp [results, Tryz.results6, go_sem]) rfl ?_
      exact ⟨rfl, HE4.out⟩
    case false =>
      have hsz := big_all hbg
      have hsz2 : t.size + u.size ≤ 1100 := by simp only [sizes] at hsz; omega
      clear hbg hsz
      by_cases hpl : 80 < p.length
      · have z1 : (80 : Int) < (p.length : Int) := by omega
        have z2 : decide ((80 : Int) < (p.length : Int)) = true := decide_eq_true z1
        go_wp2_with fail
        refine bodyPost_ret (v := .bool true) (by simp [results, Tryz.results6, go_sem]) rfl ?_
        exact ⟨rfl, HE4.out⟩
      have z1 : ¬ ((80 : Int) < (p.length : Int)) := by omega
      have z2 : decide ((80 : Int) < (p.length : Int)) = false := decide_eq_false z1
      by_cases hbl : 80 < b.length
      · have y1 : (80 : Int) < (b.length : Int) := by omega
        have y2 : decide ((80 : Int) < (b.length : Int)) = true := decide_eq_true y1
        go_wp2_with fail
        refine bodyPost_ret (v := .bool true) (by simp [results, Tryz.results6, go_sem]) rfl ?_
        exact ⟨rfl, HE4.out⟩
      have y1 : ¬ ((80 : Int) < (b.length : Int)) := by omega
      have y2 : decide ((80 : Int) < (b.length : Int)) = false := decide_eq_false y1
      -- Replace
      have HRO := Lib.hid (rep_ok (t := t) (u := u) (p := p))
      have HRN := Lib.hid (rep_no (t := t) (u := u) (p := p))
      have HXB := Lib.hid (rep_nb t p u)
      have t0_ := cellRow HT4.out 0 (.string t.name) rfl
      have t1_ := cellRow HT4.out 1 (.string t.sort) rfl
      have t2_ := cellRow HT4.out 2 (.slice a t.kids.length cap) rfl
      have u0_ := cellRow HU4.out 0 (.string u.name) rfl
      have u1_ := cellRow HU4.out 1 (.string u.sort) rfl
      have u2_ := cellRow HU4.out 2 (.slice ua u.kids.length uc) rfl
      have HRP := Lib.hid (Replace_x t u p (.agg #[.string t.name, .string t.sort, .slice a t.kids.length cap]) (.agg #[.string u.name, .string u.sort, .slice ua u.kids.length uc]) (.slice pa p.length pc) (fun k => k < w.heap.size) (fun k => k < w.heap.size) w4 (TmR.of (HTS.out.ext HE4.out)) (TmR.of (HUS.out.ext HE4.out)) (fun k hk => Nat.lt_of_lt_of_le hk HE4.out.size) (SlR.kept HPP.out HE4.out (fun _ _ h => h)) (asc_ext HTAB.out HE4.out) (by omega) (by omega) (by omega))
      obtain ⟨yy, hy⟩ : ∃ x, repF t p u = x := ⟨_, rfl⟩
      have HYY := Lib.hid hy
      rw [hy] at HRO HRN HXB HRP
      clear hy
      obtain ⟨x, ex⟩ := yy
      dsimp only at HRO HRN HXB HRP
      go_wp2_with fail
      refine HRP.out.mono ?_
      rintro e w5 ⟨r, rfl, KX5, h⟩
      obtain ⟨xa, xc, hr⟩ := KX5.shape
      subst hr
      have KX5 := Lib.hid (KX5.weaken (fun k hk => hk.2))
      clear t0_ t1_ t2_ u0_ u1_ u2_
      have HE5 := Lib.hid (HE4.out.trans h)
      have HG5 := Lib.hid (h.heap HG4.out (fun h => h))
      have HT5 := Lib.hid (h.heap HT4.out (fun h => h))
      have HU5 := Lib.hid (h.heap HU4.out (fun h => h))
      clear h HE4 HG4 HT4 HU4 
      have hz := (Upd.refl (fun _ => False) w5).alloc (.cells #[.string x.name, .string x.sort, .slice xa x.kids.length xc] 24)
      have HX6 := Lib.hid (alloc0 w5 (.cells #[.string x.name, .string x.sort, .slice xa x.kids.length xc] 24))
      have HE6 := Lib.hid (HE5.out.trans hz)
      have HG6 := Lib.hid (hz.heap HG5.out (fun h => h))
      have HT6 := Lib.hid (hz.heap HT5.out (fun h => h))
      have HU6 := Lib.hid (hz.heap HU5.out (fun h => h))
      have KX6 := Lib.hid (kup KX5.out hz)
      clear hz HE5 HG5 HT5 HU5 KX5
      clear HRP z1 z2 y1 y2 HYY
      have x0_ := cellRow HX6.out 0 (.string x.name) rfl
      have x1_ := cellRow HX6.out 1 (.string x.sort) rfl
      have x2_ := cellRow HX6.out 2 (.slice xa x.kids.length xc) rfl
      have HC := Lib.hid (alloc_at (w5.alloc (.cells #[.string x.name, .string x.sort, .slice xa x.kids.length xc] 24)) (.cells #[.string x.name, .string x.sort, .slice xa x.kids.length xc] 24) (n := w5.heap.size + 1) (by simp))
      have hz := (Upd.refl (fun _ => False) (w5.alloc (.cells #[.string x.name, .string x.sort, .slice xa x.kids.length xc] 24))).alloc (.cells #[.string x.name, .string x.sort, .slice xa x.kids.length xc] 24)
      have HE6a := Lib.hid (HE6.out.trans hz)
      have HG6a := Lib.hid (hz.heap HG6.out (fun h => h))
      have HT6a := Lib.hid (hz.heap HT6.out (fun h => h))
      have HU6a := Lib.hid (hz.heap HU6.out (fun h => h))
      have HX6a := Lib.hid (hz.heap HX6.out (fun h => h))
      have KX6a := Lib.hid (kup KX6.out hz)
      clear hz HE6 HG6 HT6 HU6 HX6 KX6
      have HCC := Lib.hid (big_x [x] (.slice (some ⟨w5.heap.size + 1, 0, none⟩) 1 1) (fun k => k < ((w5.alloc (.cells #[.string x.name, .string x.sort, .slice xa x.kids.length xc] 24)).alloc (.cells #[.string x.name, .string x.sort, .slice xa x.kids.length xc] 24)).heap.size) ((w5.alloc (.cells #[.string x.name, .string x.sort, .slice xa x.kids.length xc] 24)).alloc (.cells #[.string x.name, .string x.sort, .slice xa x.kids.length xc] 24)) (tl1_row HC.out (by simp) KX6a.out) (fun k hk => hk) (by simp))
      rw [HXB.out] at HCC
      go_wp2_with fail
      refine HCC.out.mono ?_
      clear HCC
      rintro e w7 ⟨rfl, h⟩
      clear x0_ x1_ x2_
      clear HC
      have HE7 := Lib.hid (HE6a.out.trans h)
      have HG7 := Lib.hid (h.heap HG6a.out (fun h => h))
      have HT7 := Lib.hid (h.heap HT6a.out (fun h => h))
      have HU7 := Lib.hid (h.heap HU6a.out (fun h => h))
      have HX7 := Lib.hid (h.heap HX6a.out (fun h => h))
      have KX7 := Lib.hid (kup KX6a.out h)
      clear h HE6a HG6a HT6a HU6a HX6a KX6a
      by_cases hex : ex = 0
      case neg =>
        have hx := HRN.out hex
        subst hx
        clear HRO HRN HXB
        have x0_ := cellRow HX7.out 0 (.string nulT.name) rfl
        have x1_ := cellRow HX7.out 1 (.string nulT.sort) rfl
        have x2_ := cellRow HX7.out 2 (.slice xa nulT.kids.length xc) rfl
        have HCC := Lib.hid (zero_x nulT xa xc w7)
        go_wp2_with fail
        refine HCC.out.mono ?_
        clear HCC
        rintro e w8 ⟨rfl, h⟩
        have HE8 := Lib.hid (HE7.out.trans h)
        go_wp2_with fail
        refine bodyPost_ret (v := .bool true) (by simp [results, Tryz.results6, go_sem]; exact ⟨⟨rfl, rfl⟩, rfl⟩) rfl ?_
        exact ⟨rfl, HE8.out⟩
      subst hex
      obtain ⟨s, hwt, hwu, hsub, hxe, hwx⟩ := HRO.out rfl
      subst hxe
      have HWX := Lib.hid (wf_size hwx)
      have HA1 := Lib.hid (at_ok hwt hsub)
      have HA2 := Lib.hid (at_ok hwx (sub_put u p t s hsub))
      have HSB := Lib.hid (wf_big (sub_wf hwt hsub))
      have HUB := Lib.hid (wf_big hwu)
      have HTB := Lib.hid (wf_big hwt)
      have HSZ := Lib.hid (wf_size (sub_wf hwt hsub))
      have HRG := Lib.hid (rep_again hwt hsub hwx)
      have HBE := Lib.hid (at_beside (b := b) hwt hsub hwx)
      have HBX := Lib.hid (at_nb t b)
      have HS0 := Lib.hid (fun g => sort_sub (g := g) hsub)
      have HS1 := Lib.hid (fun g => sort_same (g := g) hsub hwx)
      have HS2 := Lib.hid (fun g => sort_type (g := g) hsub hwx)
      clear hwt hwu hsub hwx HRO HRN HXB
      generalize putAt t (p.map Int.toNat) u = x at *
      -- At(t, path), At(x, path)
      have t0_ := cellRow HT7.out 0 (.string t.name) rfl
      have t1_ := cellRow HT7.out 1 (.string t.sort) rfl
      have t2_ := cellRow HT7.out 2 (.slice a t.kids.length cap) rfl
      have HCC := Lib.hid (At_x t p (.agg #[.string t.name, .string t.sort, .slice a t.kids.length cap]) (.slice pa p.length pc) (fun k => k < w.heap.size) (fun k => k < w.heap.size) w7 (TmR.of (HTS.out.ext HE7.out)) (fun k hk => Nat.lt_of_lt_of_le hk HE7.out.size) (SlR.kept HPP.out HE7.out (fun _ _ h => h)) (asc_ext HTAB.out HE7.out) (by omega) (by omega))
      rw [HA1.out] at HCC; dsimp only at HCC
      go_wp2_with fail
      refine HCC.out.mono ?_
      clear HCC
      rintro e w8 ⟨r, rfl, KW8, h⟩
      obtain ⟨wa, wc, hr⟩ := KW8.shape
      subst hr
      have KW8 := Lib.hid (KW8.weaken (fun k hk => hk.2))
      clear t0_ t1_ t2_
      have HE8 := Lib.hid (HE7.out.trans h)
      have HG8 := Lib.hid (h.heap HG7.out (fun h => h))
      have HT8 := Lib.hid (h.heap HT7.out (fun h => h))
      have HU8 := Lib.hid (h.heap HU7.out (fun h => h))
      have HX8 := Lib.hid (h.heap HX7.out (fun h => h))
      have KX8 := Lib.hid (kup KX7.out h)
      clear h HE7 HG7 HT7 HU7 HX7 KX7
      have hz := (Upd.refl (fun _ => False) w8).alloc (.cells #[.string s.name, .string s.sort, .slice wa s.kids.length wc] 24)
      have HW9 := Lib.hid (alloc0 w8 (.cells #[.string s.name, .string s.sort, .slice wa s.kids.length wc] 24))
      have HE9 := Lib.hid (HE8.out.trans hz)
      have HG9 := Lib.hid (hz.heap HG8.out (fun h => h))
      have HT9 := Lib.hid (hz.heap HT8.out (fun h => h))
      have HU9 := Lib.hid (hz.heap HU8.out (fun h => h))
      have HX9 := Lib.hid (hz.heap HX8.out (fun h => h))
      have KX9 := Lib.hid (kup KX8.out hz)
      have KW9 := Lib.hid (kup KW8.out hz)
      clear hz HE8 HG8 HT8 HU8 HX8 KX8 KW8
      have x0_ := cellRow HX9.out 0 (.string x.name) rfl
      have x1_ := cellRow HX9.out 1 (.string x.sort) rfl
      have x2_ := cellRow HX9.out 2 (.slice xa x.kids.length xc) rfl
      have HCC := Lib.hid (At_x x p (.agg #[.string x.name, .string x.sort, .slice xa x.kids.length xc]) (.slice pa p.length pc) (fun k => k < (w8.alloc (.cells #[.string s.name, .string s.sort, .slice wa s.kids.length wc] 24)).heap.size) (fun k => k < w.heap.size) (w8.alloc (.cells #[.string s.name, .string s.sort, .slice wa s.kids.length wc] 24)) (TmR.of KX9.out) (fun k hk => hk) (SlR.kept HPP.out HE9.out (fun _ _ h => h)) (asc_ext HTAB.out HE9.out) (by have := HWX.out; omega) (by omega))
      rw [HA2.out] at HCC; dsimp only at HCC
      go_wp2_with fail
      refine HCC.out.mono ?_
      clear HCC
      rintro e w10 ⟨r, rfl, KI10, h⟩
      obtain ⟨ia, ic, hr⟩ := KI10.shape
      subst hr
      have KI10 := Lib.hid (KI10.weaken (fun k hk => hk.2))
      clear x0_ x1_ x2_
      have HE10 := Lib.hid (HE9.out.trans h)
      have HG10 := Lib.hid (h.heap HG9.out (fun h => h))
      have HT10 := Lib.hid (h.heap HT9.out (fun h => h))
      have HU10 := Lib.hid (h.heap HU9.out (fun h => h))
      have HX10 := Lib.hid (h.heap HX9.out (fun h => h))
      have HW10 := Lib.hid (h.heap HW9.out (fun h => h))
      have KX10 := Lib.hid (kup KX9.out h)
      have KW10 := Lib.hid (kup KW9.out h)
      clear h HE9 HG9 HT9 HU9 HX9 HW9 KX9 KW9
      have hz := (Upd.refl (fun _ => False) w10).alloc (.cells #[.string u.name, .string u.sort, .slice ia u.kids.length ic] 24)
      have HI11 := Lib.hid (alloc0 w10 (.cells #[.string u.name, .string u.sort, .slice ia u.kids.length ic] 24))
      have HE11 := Lib.hid (HE10.out.trans hz)
      have HG11 := Lib.hid (hz.heap HG10.out (fun h => h))
      have HT11 := Lib.hid (hz.heap HT10.out (fun h => h))
      have HU11 := Lib.hid (hz.heap HU10.out (fun h => h))
      have HX11 := Lib.hid (hz.heap HX10.out (fun h => h))
      have HW11 := Lib.hid (hz.heap HW10.out (fun h => h))
      have KX11 := Lib.hid (kup KX10.out hz)
      have KW11 := Lib.hid (kup KW10.out hz)
      have KI11 := Lib.hid (kup KI10.out hz)
      clear hz HE10 HG10 HT10 HU10 HX10 HW10 KX10 KW10 KI10
      clear HA1 HA2
      have w0_ := cellRow HW11.out 0 (.string s.name) rfl
      have w1_ := cellRow HW11.out 1 (.string s.sort) rfl
      have w2_ := cellRow HW11.out 2 (.slice wa s.kids.length wc) rfl
      have HC := Lib.hid (alloc_at (w10.alloc (.cells #[.string u.name, .string u.sort, .slice ia u.kids.length ic] 24)) (.cells #[.string s.name, .string s.sort, .slice wa s.kids.length wc] 24) (n := w10.heap.size + 1) (by simp))
      have hz := (Upd.refl (fun _ => False) (w10.alloc (.cells #[.string u.name, .string u.sort, .slice ia u.kids.length ic] 24))).alloc (.cells #[.string s.name, .string s.sort, .slice wa s.kids.length wc] 24)
      have HE11a := Lib.hid (HE11.out.trans hz)
      have HG11a := Lib.hid (hz.heap HG11.out (fun h => h))
      have HT11a := Lib.hid (hz.heap HT11.out (fun h => h))
      have HU11a := Lib.hid (hz.heap HU11.out (fun h => h))
      have HX11a := Lib.hid (hz.heap HX11.out (fun h => h))
      have HW11a := Lib.hid (hz.heap HW11.out (fun h => h))
      have HI11a := Lib.hid (hz.heap HI11.out (fun h => h))
      have KX11a := Lib.hid (kup KX11.out hz)
      have KW11a := Lib.hid (kup KW11.out hz)
      have KI11a := Lib.hid (kup KI11.out hz)
      clear hz HE11 HG11 HT11 HU11 HX11 HW11 HI11 KX11 KW11 KI11
      have HCC := Lib.hid (big_x [s] (.slice (some ⟨w10.heap.size + 1, 0, none⟩) 1 1) (fun k => k < ((w10.alloc (.cells #[.string u.name, .string u.sort, .slice ia u.kids.length ic] 24)).alloc (.cells #[.string s.name, .string s.sort, .slice wa s.kids.length wc] 24)).heap.size) ((w10.alloc (.cells #[.string u.name, .string u.sort, .slice ia u.kids.length ic] 24)).alloc (.cells #[.string s.name, .string s.sort, .slice wa s.kids.length wc] 24)) (tl1_row HC.out (by simp) KW11a.out) (fun k hk => hk) (by simp))
      rw [HSB.out] at HCC
      go_wp2_with fail
      refine HCC.out.mono ?_
      clear HCC
      rintro e w12 ⟨rfl, h⟩
      clear w0_ w1_ w2_
      clear HC
      have HE12 := Lib.hid (HE11a.out.trans h)
      have HG12 := Lib.hid (h.heap HG11a.out (fun h => h))
      have HT12 := Lib.hid (h.heap HT11a.out (fun h => h))
      have HU12 := Lib.hid (h.heap HU11a.out (fun h => h))
      have HX12 := Lib.hid (h.heap HX11a.out (fun h => h))
      have HW12 := Lib.hid (h.heap HW11a.out (fun h => h))
      have HI12 := Lib.hid (h.heap HI11a.out (fun h => h))
      have KX12 := Lib.hid (kup KX11a.out h)
      have KW12 := Lib.hid (kup KW11a.out h)
      have KI12 := Lib.hid (kup KI11a.out h)
      clear h HE11a HG11a HT11a HU11a HX11a HW11a HI11a KX11a KW11a KI11a
      have i0_ := cellRow HI12.out 0 (.string u.name) rfl
      have i1_ := cellRow HI12.out 1 (.string u.sort) rfl
      have i2_ := cellRow HI12.out 2 (.slice ia u.kids.length ic) rfl
      have HC := Lib.hid (alloc0 w12 (.cells #[.string u.name, .string u.sort, .slice ia u.kids.length ic] 24))
      have hz := (Upd.refl (fun _ => False) w12).alloc (.cells #[.string u.name, .string u.sort, .slice ia u.kids.length ic] 24)
      have HE12a := Lib.hid (HE12.out.trans hz)
      have HG12a := Lib.hid (hz.heap HG12.out (fun h => h))
      have HT12a := Lib.hid (hz.heap HT12.out (fun h => h))
      have HU12a := Lib.hid (hz.heap HU12.out (fun h => h))
      have HX12a := Lib.hid (hz.heap HX12.out (fun h => h))
      have HW12a := Lib.hid (hz.heap HW12.out (fun h => h))
      have HI12a := Lib.hid (hz.heap HI12.out (fun h => h))
      have KX12a := Lib.hid (kup KX12.out hz)
      have KW12a := Lib.hid (kup KW12.out hz)
      have KI12a := Lib.hid (kup KI12.out hz)
      clear hz HE12 HG12 HT12 HU12 HX12 HW12 HI12 KX12 KW12 KI12
      have HCC := Lib.hid (big_x [u] (.slice (some ⟨w12.heap.size, 0, none⟩) 1 1) (fun k => k < (w12.alloc (.cells #[.string u.name, .string u.sort, .slice ia u.kids.length ic] 24)).heap.size) (w12.alloc (.cells #[.string u.name, .string u.sort, .slice ia u.kids.length ic] 24)) (tl1_row HC.out (by simp) KI12a.out) (fun k hk => hk) (by simp))
      rw [HUB.out] at HCC
      go_wp2_with fail
      refine HCC.out.mono ?_
      clear HCC
      rintro e w13 ⟨rfl, h⟩
      clear i0_ i1_ i2_
      clear HC
      have HE13 := Lib.hid (HE12a.out.trans h)
      have HG13 := Lib.hid (h.heap HG12a.out (fun h => h))
      have HT13 := Lib.hid (h.heap HT12a.out (fun h => h))
      have HU13 := Lib.hid (h.heap HU12a.out (fun h => h))
      have HX13 := Lib.hid (h.heap HX12a.out (fun h => h))
      have HW13 := Lib.hid (h.heap HW12a.out (fun h => h))
      have HI13 := Lib.hid (h.heap HI12a.out (fun h => h))
      have KX13 := Lib.hid (kup KX12a.out h)
      have KW13 := Lib.hid (kup KW12a.out h)
      have KI13 := Lib.hid (kup KI12a.out h)
      clear h HE12a HG12a HT12a HU12a HX12a HW12a HI12a KX12a KW12a KI12a
      have i0_ := cellRow HI13.out 0 (.string u.name) rfl
      have i1_ := cellRow HI13.out 1 (.string u.sort) rfl
      have i2_ := cellRow HI13.out 2 (.slice ia u.kids.length ic) rfl
      have u0_ := cellRow HU13.out 0 (.string u.name) rfl
      have u1_ := cellRow HU13.out 1 (.string u.sort) rfl
      have u2_ := cellRow HU13.out 2 (.slice ua u.kids.length uc) rfl
      have HCC := Lib.hid (same_x u u (.agg #[.string u.name, .string u.sort, .slice ia u.kids.length ic]) (.agg #[.string u.name, .string u.sort, .slice ua u.kids.length uc]) _ _ w13 (TmR.of KI13.out) (TmR.of (HUS.out.ext HE13.out)) (by omega))
      rw [decide_eq_true (rfl : u = u)] at HCC
      go_wp2_with fail
      refine HCC.out.mono ?_
      clear HCC
      rintro e w14 ⟨rfl, h⟩
      clear i0_ i1_ i2_ u0_ u1_ u2_
      have HE14 := Lib.hid (HE13.out.trans h)
      have HG14 := Lib.hid (h.heap HG13.out (fun h => h))
      have HT14 := Lib.hid (h.heap HT13.out (fun h => h))
      have HU14 := Lib.hid (h.heap HU13.out (fun h => h))
      have HX14 := Lib.hid (h.heap HX13.out (fun h => h))
      have HW14 := Lib.hid (h.heap HW13.out (fun h => h))
      have KX14 := Lib.hid (kup KX13.out h)
      have KW14 := Lib.hid (kup KW13.out h)
      clear h HE13 HG13 HT13 HU13 HX13 HW13 KX13 KW13
      clear HI13 KI13 HSB HUB
      -- what was there is put there again
      have x0_ := cellRow HX14.out 0 (.string x.name) rfl
      have x1_ := cellRow HX14.out 1 (.string x.sort) rfl
      have x2_ := cellRow HX14.out 2 (.slice xa x.kids.length xc) rfl
      have w0_ := cellRow HW14.out 0 (.string s.name) rfl
      have w1_ := cellRow HW14.out 1 (.string s.sort) rfl
      have w2_ := cellRow HW14.out 2 (.slice wa s.kids.length wc) rfl
      have HCC := Lib.hid (Replace_x x s p (.agg #[.string x.name, .string x.sort, .slice xa x.kids.length xc]) (.agg #[.string s.name, .string s.sort, .slice wa s.kids.length wc]) (.slice pa p.length pc) (fun k => k < w14.heap.size) (fun k => k < w.heap.size) w14 (TmR.of KX14.out) (TmR.of KW14.out) (fun k hk => hk) (SlR.kept HPP.out HE14.out (fun _ _ h => h)) (asc_ext HTAB.out HE14.out) (by have := HWX.out; omega) (by have := HSZ.out; omega) (by omega))
      rw [HRG.out] at HCC; dsimp only at HCC
      go_wp2_with fail
      refine HCC.out.mono ?_
      clear HCC
      rintro e w15 ⟨r, rfl, KB15, h⟩
      obtain ⟨ta, tc, hr⟩ := KB15.shape
      subst hr
      have KB15 := Lib.hid (KB15.weaken (fun k hk => hk.2))
      clear x0_ x1_ x2_ w0_ w1_ w2_
      have HE15 := Lib.hid (HE14.out.trans h)
      have HG15 := Lib.hid (h.heap HG14.out (fun h => h))
      have HT15 := Lib.hid (h.heap HT14.out (fun h => h))
      have HU15 := Lib.hid (h.heap HU14.out (fun h => h))
      have HX15 := Lib.hid (h.heap HX14.out (fun h => h))
      have HW15 := Lib.hid (h.heap HW14.out (fun h => h))
      have KX15 := Lib.hid (kup KX14.out h)
      have KW15 := Lib.hid (kup KW14.out h)
      clear h HE14 HG14 HT14 HU14 HX14 HW14 KX14 KW14
      have hz := (Upd.refl (fun _ => False) w15).alloc (.cells #[.string t.name, .string t.sort, .slice ta t.kids.length tc] 24)
      have HB16 := Lib.hid (alloc0 w15 (.cells #[.string t.name, .string t.sort, .slice ta t.kids.length tc] 24))
      have HE16 := Lib.hid (HE15.out.trans hz)
      have HG16 := Lib.hid (hz.heap HG15.out (fun h => h))
      have HT16 := Lib.hid (hz.heap HT15.out (fun h => h))
      have HU16 := Lib.hid (hz.heap HU15.out (fun h => h))
      have HX16 := Lib.hid (hz.heap HX15.out (fun h => h))
      have HW16 := Lib.hid (hz.heap HW15.out (fun h => h))
      have KX16 := Lib.hid (kup KX15.out hz)
      have KW16 := Lib.hid (kup KW15.out hz)
      have KB16 := Lib.hid (kup KB15.out hz)
      clear hz HE15 HG15 HT15 HU15 HX15 HW15 KX15 KW15 KB15
      clear HRG
      have b0_ := cellRow HB16.out 0 (.string t.name) rfl
      have b1_ := cellRow HB16.out 1 (.string t.sort) rfl
      have b2_ := cellRow HB16.out 2 (.slice ta t.kids.length tc) rfl
      have HC := Lib.hid (alloc_at (w15.alloc (.cells #[.string t.name, .string t.sort, .slice ta t.kids.length tc] 24)) (.cells #[.string t.name, .string t.sort, .slice ta t.kids.length tc] 24) (n := w15.heap.size + 1) (by simp))
      have hz := (Upd.refl (fun _ => False) (w15.alloc (.cells #[.string t.name, .string t.sort, .slice ta t.kids.length tc] 24))).alloc (.cells #[.string t.name, .string t.sort, .slice ta t.kids.length tc] 24)
      have HE16a := Lib.hid (HE16.out.trans hz)
      have HG16a := Lib.hid (hz.heap HG16.out (fun h => h))
      have HT16a := Lib.hid (hz.heap HT16.out (fun h => h))
      have HU16a := Lib.hid (hz.heap HU16.out (fun h => h))
      have HX16a := Lib.hid (hz.heap HX16.out (fun h => h))
      have HW16a := Lib.hid (hz.heap HW16.out (fun h => h))
      have HB16a := Lib.hid (hz.heap HB16.out (fun h => h))
      have KX16a := Lib.hid (kup KX16.out hz)
      have KW16a := Lib.hid (kup KW16.out hz)
      have KB16a := Lib.hid (kup KB16.out hz)
      clear hz HE16 HG16 HT16 HU16 HX16 HW16 HB16 KX16 KW16 KB16
      have HCC := Lib.hid (big_x [t] (.slice (some ⟨w15.heap.size + 1, 0, none⟩) 1 1) (fun k => k < ((w15.alloc (.cells #[.string t.name, .string t.sort, .slice ta t.kids.length tc] 24)).alloc (.cells #[.string t.name, .string t.sort, .slice ta t.kids.length tc] 24)).heap.size) ((w15.alloc (.cells #[.string t.name, .string t.sort, .slice ta t.kids.length tc] 24)).alloc (.cells #[.string t.name, .string t.sort, .slice ta t.kids.length tc] 24)) (tl1_row HC.out (by simp) KB16a.out) (fun k hk => hk) (by simp))
      rw [HTB.out] at HCC
      go_wp2_with fail
      refine HCC.out.mono ?_
      clear HCC
      rintro e w17 ⟨rfl, h⟩
      clear b0_ b1_ b2_
      clear HC
      have HE17 := Lib.hid (HE16a.out.trans h)
      have HG17 := Lib.hid (h.heap HG16a.out (fun h => h))
      have HT17 := Lib.hid (h.heap HT16a.out (fun h => h))
      have HU17 := Lib.hid (h.heap HU16a.out (fun h => h))
      have HX17 := Lib.hid (h.heap HX16a.out (fun h => h))
      have HW17 := Lib.hid (h.heap HW16a.out (fun h => h))
      have HB17 := Lib.hid (h.heap HB16a.out (fun h => h))
      have KX17 := Lib.hid (kup KX16a.out h)
      have KW17 := Lib.hid (kup KW16a.out h)
      have KB17 := Lib.hid (kup KB16a.out h)
      clear h HE16a HG16a HT16a HU16a HX16a HW16a HB16a KX16a KW16a KB16a
      have b0_ := cellRow HB17.out 0 (.string t.name) rfl
      have b1_ := cellRow HB17.out 1 (.string t.sort) rfl
      have b2_ := cellRow HB17.out 2 (.slice ta t.kids.length tc) rfl
      have t0_ := cellRow HT17.out 0 (.string t.name) rfl
      have t1_ := cellRow HT17.out 1 (.string t.sort) rfl
      have t2_ := cellRow HT17.out 2 (.slice a t.kids.length cap) rfl
      have HCC := Lib.hid (same_x t t (.agg #[.string t.name, .string t.sort, .slice ta t.kids.length tc]) (.agg #[.string t.name, .string t.sort, .slice a t.kids.length cap]) _ _ w17 (TmR.of KB17.out) (TmR.of (HTS.out.ext HE17.out)) (by omega))
      rw [decide_eq_true (rfl : t = t)] at HCC
      go_wp2_with fail
      refine HCC.out.mono ?_
      clear HCC
      rintro e w18 ⟨rfl, h⟩
      clear b0_ b1_ b2_ t0_ t1_ t2_
      have HE18 := Lib.hid (HE17.out.trans h)
      have HG18 := Lib.hid (h.heap HG17.out (fun h => h))
      have HT18 := Lib.hid (h.heap HT17.out (fun h => h))
      have HU18 := Lib.hid (h.heap HU17.out (fun h => h))
      have HX18 := Lib.hid (h.heap HX17.out (fun h => h))
      have HW18 := Lib.hid (h.heap HW17.out (fun h => h))
      have KX18 := Lib.hid (kup KX17.out h)
      have KW18 := Lib.hid (kup KW17.out h)
      clear h HE17 HG17 HT17 HU17 HX17 HW17 KX17 KW17
      clear HB17 KB17 HTB
      go_upto_region 18 with fail
      obtain ⟨n, hn⟩ : ∃ n, min p.length b.length = n := ⟨_, rfl⟩
      have hni : min (p.length : Int) (b.length : Int) = (n : Int) := by omega
      rw [hni]
      have hn1 : n ≤ p.length := by omega
      have hn2 : n ≤ b.length := by omega
      have hn3 : n ≤ pc := Nat.le_trans hn1 (SlR.le_cap HPP.out rfl)
      have hn4 : n ≤ bc := Nat.le_trans hn2 (SlR.le_cap HBP.out rfl)
      have z0 : (0 : Int) ≤ (n : Int) := by omega
      have z1 : (n : Int) ≤ (pc : Int) := by omega
      have z2 : (n : Int) ≤ (bc : Int) := by omega
      have z3 : n ≤ (pc : Int).toNat := by omega
      obtain ⟨eb, heb⟩ : ∃ e, decide (p.take n = b.take n) = e := ⟨_, rfl⟩
      refine wp_region_par (α := Value) 8 [] [[], [], [0, 1], [], [], [3, 4], [0, 1, 2, 3, 4, 5], [0, 1, 2, 3, 4, 5, 6]]
        [none, none, none, none, none, none, some (annVal (.bool eb)), none] [false, false, false, false, false, false, true, false] (by kernel_rfl) (by kernel_rfl) rfl (fun _ _ d _ _ h => by cases d <;> exact h) ?_
      simp only [List.take_succ_cons, List.take_zero, pickO]
      iterate 6 (refine can_pure0 rfl (fun K hK => ?_); go_simp; refine hK _ ?_; clear hK K)
      refine can_mem _ rfl (by go_simp) (fun W hW hG K hK => ?_) (fun K v1 hK => ?_)
      · go_simp
        refine (eqI_x p b n pa ba pc bc (fun k => k < w.heap.size) W (SlR.kept HPP.out (HE18.out.trans hW) (fun _ _ h => h)) (SlR.kept HBP.out (HE18.out.trans hW) (fun _ _ h => h)) hn1 hn2 (by omega)).mono ?_
        rintro e w' ⟨rfl, h⟩
        rw [heb]
        exact hK default w' h trivial
      refine hK _ ?_; clear hK K
      dsimp only [annVal]
      (refine can_pure0 rfl (fun K hK => ?_); go_simp; refine hK _ ?_; clear hK K)
      refine can_end (fun w19 hW hG => ?_)
      clear hG
      have HE19 := Lib.hid (HE18.out.trans hW)
      have HG19 := Lib.hid (hW.heap HG18.out (fun h => h))
      have HT19 := Lib.hid (hW.heap HT18.out (fun h => h))
      have HU19 := Lib.hid (hW.heap HU18.out (fun h => h))
      have HX19 := Lib.hid (hW.heap HX18.out (fun h => h))
      have HW19 := Lib.hid (hW.heap HW18.out (fun h => h))
      have KX19 := Lib.hid (kup KX18.out hW)
      have KW19 := Lib.hid (kup KW18.out hW)
      clear hW HE18 HG18 HT18 HU18 HX18 HW18 KX18 KW18
      simp only [wpMix]
      clear z0 z1 z2 z3 hn3 hn4
      have HSRT := Lib.hid (fun (r : Tm) rv W (hW : Ext w W) (hr : TmR (fun k => k < W.heap.size) W r rv) (hz : r.size ≤ 10000) => psort_x g r (.agg #[.slice sa g.1.length sc, .slice oa g.2.length oc]) rv (fun k => k < w.heap.size) W (HSG.out.ext hW) (fun k hk => Nat.lt_of_lt_of_le hk hW.size) hr (asc_ext HTAB.out hW) (by omega) hl1 hl2 HL3.out)
      cases eb
      case true =>
        clear HBE HBX
        have h0 := HS0.out g
        have h1 := HS1.out g
        have h2 := HS2.out g
        have hsz1 := HWX.out
        have hsz3 := HSZ.out
        obtain ⟨⟨ts, te⟩, hst⟩ : ∃ y, sortF g t = y := ⟨_, rfl⟩
        obtain ⟨⟨ps, pe⟩, hss⟩ : ∃ y, sortF g s = y := ⟨_, rfl⟩
        obtain ⟨⟨us, ue⟩, hsu⟩ : ∃ y, sortF g u = y := ⟨_, rfl⟩
        obtain ⟨⟨xs, xe⟩, hsx⟩ : ∃ y, sortF g x = y := ⟨_, rfl⟩
        rw [hst, hss] at h0
        rw [hst, hss, hsu, hsx] at h1 h2
        dsimp only at h0 h1 h2
        have H0 := Lib.hid h0
        have H1 := Lib.hid h1
        have H2 := Lib.hid h2
        clear h0 h1 h2 HS0 HS1 HS2
        have hst := Lib.hid hst
        have hss := Lib.hid hss
        have hsu := Lib.hid hsu
        have hsx := Lib.hid hsx
        have g0_ := cellRow HG19.out 0 (.slice sa g.1.length sc) rfl
        have g1_ := cellRow HG19.out 1 (.slice oa g.2.length oc) rfl
        have t0_ := cellRow HT19.out 0 (.string t.name) rfl
        have t1_ := cellRow HT19.out 1 (.string t.sort) rfl
        have t2_ := cellRow HT19.out 2 (.slice a t.kids.length cap) rfl
        have HCC := Lib.hid (HSRT.out t (.agg #[.string t.name, .string t.sort, .slice a t.kids.length cap]) w19 HE19.out ((TmR.of (t := t) (HTS.out.ext HE19.out)).weaken (fun k hk => Nat.lt_of_lt_of_le hk HE19.out.size)) (by omega))
        rw [hst.out] at HCC; dsimp only at HCC
        go_wp2_with fail
        refine HCC.out.mono ?_
        clear HCC
        rintro e w20 ⟨rfl, h⟩
        clear g0_ g1_ t0_ t1_ t2_
        have HE20 := Lib.hid (HE19.out.trans h)
        have HG20 := Lib.hid (h.heap HG19.out (fun h => h))
        have HT20 := Lib.hid (h.heap HT19.out (fun h => h))
        have HU20 := Lib.hid (h.heap HU19.out (fun h => h))
        have HX20 := Lib.hid (h.heap HX19.out (fun h => h))
        have HW20 := Lib.hid (h.heap HW19.out (fun h => h))
        have KX20 := Lib.hid (kup KX19.out h)
        have KW20 := Lib.hid (kup KW19.out h)
        clear h HE19 HG19 HT19 HU19 HX19 HW19 KX19 KW19
        have g0_ := cellRow HG20.out 0 (.slice sa g.1.length sc) rfl
        have g1_ := cellRow HG20.out 1 (.slice oa g.2.length oc) rfl
        have w0_ := cellRow HW20.out 0 (.string s.name) rfl
        have w1_ := cellRow HW20.out 1 (.string s.sort) rfl
        have w2_ := cellRow HW20.out 2 (.slice wa s.kids.length wc) rfl
        have HCC := Lib.hid (HSRT.out s (.agg #[.string s.name, .string s.sort, .slice wa s.kids.length wc]) w20 HE20.out (TmR.of (t := s) KW20.out) (by omega))
        rw [hss.out] at HCC; dsimp only at HCC
        go_wp2_with fail
        refine HCC.out.mono ?_
        clear HCC
        rintro e w21 ⟨rfl, h⟩
        clear g0_ g1_ w0_ w1_ w2_
        have HE21 := Lib.hid (HE20.out.trans h)
        have HG21 := Lib.hid (h.heap HG20.out (fun h => h))
        have HT21 := Lib.hid (h.heap HT20.out (fun h => h))
        have HU21 := Lib.hid (h.heap HU20.out (fun h => h))
        have HX21 := Lib.hid (h.heap HX20.out (fun h => h))
        have HW21 := Lib.hid (h.heap HW20.out (fun h => h))
        have KX21 := Lib.hid (kup KX20.out h)
        have KW21 := Lib.hid (kup KW20.out h)
        clear h HE20 HG20 HT20 HU20 HX20 HW20 KX20 KW20
        have g0_ := cellRow HG21.out 0 (.slice sa g.1.length sc) rfl
        have g1_ := cellRow HG21.out 1 (.slice oa g.2.length oc) rfl
        have u0_ := cellRow HU21.out 0 (.string u.name) rfl
        have u1_ := cellRow HU21.out 1 (.string u.sort) rfl
        have u2_ := cellRow HU21.out 2 (.slice ua u.kids.length uc) rfl
        have HCC := Lib.hid (HSRT.out u (.agg #[.string u.name, .string u.sort, .slice ua u.kids.length uc]) w21 HE21.out ((TmR.of (t := u) (HUS.out.ext HE21.out)).weaken (fun k hk => Nat.lt_of_lt_of_le hk HE21.out.size)) (by omega))
        rw [hsu.out] at HCC; dsimp only at HCC
        go_wp2_with fail
        refine HCC.out.mono ?_
        clear HCC
        rintro e w22 ⟨rfl, h⟩
        clear g0_ g1_ u0_ u1_ u2_
        have HE22 := Lib.hid (HE21.out.trans h)
        have HG22 := Lib.hid (h.heap HG21.out (fun h => h))
        have HT22 := Lib.hid (h.heap HT21.out (fun h => h))
        have HU22 := Lib.hid (h.heap HU21.out (fun h => h))
        have HX22 := Lib.hid (h.heap HX21.out (fun h => h))
        have HW22 := Lib.hid (h.heap HW21.out (fun h => h))
        have KX22 := Lib.hid (kup KX21.out h)
        have KW22 := Lib.hid (kup KW21.out h)
        clear h HE21 HG21 HT21 HU21 HX21 HW21 KX21 KW21
        by_cases ht : te = 0
        case neg =>
          go_wp2_with fail
          refine bodyPost_ret (v := .bool true) (by simp [results, Tryz.results6, go_sem]) rfl ?_
          exact ⟨rfl, HE22.out⟩
        case pos =>
          subst ht
          by_cases hu : ue = 0
          case neg =>
            go_wp2_with fail
            refine bodyPost_ret (v := .bool true) (by simp [results, Tryz.results6, go_sem]) rfl ?_
            exact ⟨rfl, HE22.out⟩
          case pos =>
            subst hu
            obtain rfl := H0.out rfl
            have g0_ := cellRow HG22.out 0 (.slice sa g.1.length sc) rfl
            have g1_ := cellRow HG22.out 1 (.slice oa g.2.length oc) rfl
            have x0_ := cellRow HX22.out 0 (.string x.name) rfl
            have x1_ := cellRow HX22.out 1 (.string x.sort) rfl
            have x2_ := cellRow HX22.out 2 (.slice xa x.kids.length xc) rfl
            have HCC := Lib.hid (HSRT.out x (.agg #[.string x.name, .string x.sort, .slice xa x.kids.length xc]) w22 HE22.out (TmR.of (t := x) KX22.out) (by omega))
            rw [hsx.out] at HCC; dsimp only at HCC
            go_wp2_with fail
            refine HCC.out.mono ?_
            clear HCC
            rintro e w23 ⟨rfl, h⟩
            clear g0_ g1_ x0_ x1_ x2_
            have HE23 := Lib.hid (HE22.out.trans h)
            have HG23 := Lib.hid (h.heap HG22.out (fun h => h))
            have HT23 := Lib.hid (h.heap HT22.out (fun h => h))
            have HU23 := Lib.hid (h.heap HU22.out (fun h => h))
            have HX23 := Lib.hid (h.heap HX22.out (fun h => h))
            have HW23 := Lib.hid (h.heap HW22.out (fun h => h))
            have KX23 := Lib.hid (kup KX22.out h)
            have KW23 := Lib.hid (kup KW22.out h)
            clear h HE22 HG22 HT22 HU22 HX22 HW22 KX22 KW22
            by_cases hp0 : p.length = 0
            · obtain ⟨rfl, hxs⟩ := H1.out (by simp) (by simp) (.inl hp0)
              have hpi : (p.length : Int) = 0 := by omega
              by_cases hxt : xs = ts
              · subst hxt
                clear H1 H2 hst hss hsu hsx hxs
                go_wp2_with fail
                refine bodyPost_ret (v := .bool true) (by simp [results, Tryz.results6, go_sem]) rfl ?_
                exact ⟨rfl, HE23.out⟩
              · have hq := tl_ne hxt
                obtain rfl := (hxs.resolve_left hxt).2
                clear H1 H2 hst hss hsu hsx hxs
                go_wp2_with fail
                all_goals first
                  | (rename_i hh; exfalso; first | exact hq (by simpa using hh) | (rcases hh with hh | hh <;> first | exact hpi (by simpa using hh) | exact hq (by simpa using hh)))
                  | (refine bodyPost_ret (v := .bool true) (by simp [results, Tryz.results6, go_sem]) rfl ?_; exact ⟨rfl, HE23.out⟩)
            have hpi : ¬ (p.length : Int) = 0 := by omega
            by_cases hpu : ps = us
            · obtain ⟨rfl, hxs⟩ := H1.out (by simp) (by simp) (.inr hpu)
              subst hpu
              obtain rfl := hxs.resolve_right (fun h => hp0 h.1)
              clear H1 H2 hst hss hsu hsx hxs
              go_wp2_with fail
              refine bodyPost_ret (v := .bool true) (by simp [results, Tryz.results6, go_sem]) rfl ?_
              exact ⟨rfl, HE23.out⟩
            obtain rfl := H2.out (by simp) (by simp) (fun h => h.elim hp0 hpu)
            have hq := tl_ne hpu
            clear H1 H2 hst hss hsu hsx
            go_wp2_with fail
            all_goals first
              | (rename_i hh; exfalso; first | exact hq (by simpa using hh) | (rcases hh with hh | hh <;> first | exact hpi (by simpa using hh) | exact hq (by simpa using hh)))
              | (refine bodyPost_ret (v := .bool true) (by simp [results, Tryz.results6, go_sem]) rfl ?_; exact ⟨rfl, HE23.out⟩)
      case false =>
        have hne : p.take (min p.length b.length) ≠ b.take (min p.length b.length) := by rw [hn]; exact of_decide_eq_false heb
        have hbe := HBE.out hne
        obtain ⟨⟨m, em⟩, hm⟩ : ∃ y, atF t b = y := ⟨_, rfl⟩
        rw [hm] at hbe
        have HM1 := Lib.hid hm
        have HM2 := Lib.hid hbe
        have hbx := HBX.out
        rw [hm] at hbx
        have HMB := Lib.hid hbx
        have hms := big_small hbx
        clear hne hbe hm hbx heb hn hni hn1 hn2
        have t0_ := cellRow HT19.out 0 (.string t.name) rfl
        have t1_ := cellRow HT19.out 1 (.string t.sort) rfl
        have t2_ := cellRow HT19.out 2 (.slice a t.kids.length cap) rfl
        have HCC := Lib.hid (At_x t b (.agg #[.string t.name, .string t.sort, .slice a t.kids.length cap]) (.slice ba b.length bc) (fun k => k < w.heap.size) (fun k => k < w.heap.size) w19 (TmR.of (HTS.out.ext HE19.out)) (fun k hk => Nat.lt_of_lt_of_le hk HE19.out.size) (SlR.kept HBP.out HE19.out (fun _ _ h => h)) (asc_ext HTAB.out HE19.out) (by omega) (by omega))
        rw [HM1.out] at HCC; dsimp only at HCC
        go_wp2_with fail
        refine HCC.out.mono ?_
        clear HCC
        rintro e w20 ⟨r, rfl, KM20, h⟩
        obtain ⟨ma, mc, hr⟩ := KM20.shape
        subst hr
        have KM20 := Lib.hid (KM20.weaken (fun k hk => hk.2))
        clear t0_ t1_ t2_
        have HE20 := Lib.hid (HE19.out.trans h)
        have HG20 := Lib.hid (h.heap HG19.out (fun h => h))
        have HT20 := Lib.hid (h.heap HT19.out (fun h => h))
        have HU20 := Lib.hid (h.heap HU19.out (fun h => h))
        have HX20 := Lib.hid (h.heap HX19.out (fun h => h))
        have HW20 := Lib.hid (h.heap HW19.out (fun h => h))
        have KX20 := Lib.hid (kup KX19.out h)
        have KW20 := Lib.hid (kup KW19.out h)
        clear h HE19 HG19 HT19 HU19 HX19 HW19 KX19 KW19
        have hz := (Upd.refl (fun _ => False) w20).alloc (.cells #[.string m.name, .string m.sort, .slice ma m.kids.length mc] 24)
        have HM21 := Lib.hid (alloc0 w20 (.cells #[.string m.name, .string m.sort, .slice ma m.kids.length mc] 24))
        have HE21 := Lib.hid (HE20.out.trans hz)
        have HG21 := Lib.hid (hz.heap HG20.out (fun h => h))
        have HT21 := Lib.hid (hz.heap HT20.out (fun h => h))
        have HU21 := Lib.hid (hz.heap HU20.out (fun h => h))
        have HX21 := Lib.hid (hz.heap HX20.out (fun h => h))
        have HW21 := Lib.hid (hz.heap HW20.out (fun h => h))
        have KX21 := Lib.hid (kup KX20.out hz)
        have KW21 := Lib.hid (kup KW20.out hz)
        have KM21 := Lib.hid (kup KM20.out hz)
        clear hz HE20 HG20 HT20 HU20 HX20 HW20 KX20 KW20 KM20
        have x0_ := cellRow HX21.out 0 (.string x.name) rfl
        have x1_ := cellRow HX21.out 1 (.string x.sort) rfl
        have x2_ := cellRow HX21.out 2 (.slice xa x.kids.length xc) rfl
        have HCC := Lib.hid (At_x x b (.agg #[.string x.name, .string x.sort, .slice xa x.kids.length xc]) (.slice ba b.length bc) (fun k => k < (w20.alloc (.cells #[.string m.name, .string m.sort, .slice ma m.kids.length mc] 24)).heap.size) (fun k => k < w.heap.size) (w20.alloc (.cells #[.string m.name, .string m.sort, .slice ma m.kids.length mc] 24)) (TmR.of KX21.out) (fun k hk => hk) (SlR.kept HBP.out HE21.out (fun _ _ h => h)) (asc_ext HTAB.out HE21.out) (by have := HWX.out; omega) (by omega))
        rw [HM2.out] at HCC; dsimp only at HCC
        go_wp2_with fail
        refine HCC.out.mono ?_
        clear HCC
        rintro e w22 ⟨r, rfl, KN22, h⟩
        obtain ⟨na, nc, hr⟩ := KN22.shape
        subst hr
        have KN22 := Lib.hid (KN22.weaken (fun k hk => hk.2))
        clear x0_ x1_ x2_
        have HE22 := Lib.hid (HE21.out.trans h)
        have HG22 := Lib.hid (h.heap HG21.out (fun h => h))
        have HT22 := Lib.hid (h.heap HT21.out (fun h => h))
        have HU22 := Lib.hid (h.heap HU21.out (fun h => h))
        have HX22 := Lib.hid (h.heap HX21.out (fun h => h))
        have HW22 := Lib.hid (h.heap HW21.out (fun h => h))
        have HM22 := Lib.hid (h.heap HM21.out (fun h => h))
        have KX22 := Lib.hid (kup KX21.out h)
        have KW22 := Lib.hid (kup KW21.out h)
        have KM22 := Lib.hid (kup KM21.out h)
        clear h HE21 HG21 HT21 HU21 HX21 HW21 HM21 KX21 KW21 KM21
        have hz := (Upd.refl (fun _ => False) w22).alloc (.cells #[.string m.name, .string m.sort, .slice na m.kids.length nc] 24)
        have HN23 := Lib.hid (alloc0 w22 (.cells #[.string m.name, .string m.sort, .slice na m.kids.length nc] 24))
        have HE23 := Lib.hid (HE22.out.trans hz)
        have HG23 := Lib.hid (hz.heap HG22.out (fun h => h))
        have HT23 := Lib.hid (hz.heap HT22.out (fun h => h))
        have HU23 := Lib.hid (hz.heap HU22.out (fun h => h))
        have HX23 := Lib.hid (hz.heap HX22.out (fun h => h))
        have HW23 := Lib.hid (hz.heap HW22.out (fun h => h))
        have HM23 := Lib.hid (hz.heap HM22.out (fun h => h))
        have KX23 := Lib.hid (kup KX22.out hz)
        have KW23 := Lib.hid (kup KW22.out hz)
        have KM23 := Lib.hid (kup KM22.out hz)
        have KN23 := Lib.hid (kup KN22.out hz)
        clear hz HE22 HG22 HT22 HU22 HX22 HW22 HM22 KX22 KW22 KM22 KN22
        clear HM1 HM2
        have m0_ := cellRow HM23.out 0 (.string m.name) rfl
        have m1_ := cellRow HM23.out 1 (.string m.sort) rfl
        have m2_ := cellRow HM23.out 2 (.slice ma m.kids.length mc) rfl
        have HC := Lib.hid (alloc_at (w22.alloc (.cells #[.string m.name, .string m.sort, .slice na m.kids.length nc] 24)) (.cells #[.string m.name, .string m.sort, .slice ma m.kids.length mc] 24) (n := w22.heap.size + 1) (by simp))
        have hz := (Upd.refl (fun _ => False) (w22.alloc (.cells #[.string m.name, .string m.sort, .slice na m.kids.length nc] 24))).alloc (.cells #[.string m.name, .string m.sort, .slice ma m.kids.length mc] 24)
        have HE23a := Lib.hid (HE23.out.trans hz)
        have HG23a := Lib.hid (hz.heap HG23.out (fun h => h))
        have HT23a := Lib.hid (hz.heap HT23.out (fun h => h))
        have HU23a := Lib.hid (hz.heap HU23.out (fun h => h))
        have HX23a := Lib.hid (hz.heap HX23.out (fun h => h))
        have HW23a := Lib.hid (hz.heap HW23.out (fun h => h))
        have HM23a := Lib.hid (hz.heap HM23.out (fun h => h))
        have HN23a := Lib.hid (hz.heap HN23.out (fun h => h))
        have KX23a := Lib.hid (kup KX23.out hz)
        have KW23a := Lib.hid (kup KW23.out hz)
        have KM23a := Lib.hid (kup KM23.out hz)
        have KN23a := Lib.hid (kup KN23.out hz)
        clear hz HE23 HG23 HT23 HU23 HX23 HW23 HM23 HN23 KX23 KW23 KM23 KN23
        have HCC := Lib.hid (big_x [m] (.slice (some ⟨w22.heap.size + 1, 0, none⟩) 1 1) (fun k => k < ((w22.alloc (.cells #[.string m.name, .string m.sort, .slice na m.kids.length nc] 24)).alloc (.cells #[.string m.name, .string m.sort, .slice ma m.kids.length mc] 24)).heap.size) ((w22.alloc (.cells #[.string m.name, .string m.sort, .slice na m.kids.length nc] 24)).alloc (.cells #[.string m.name, .string m.sort, .slice ma m.kids.length mc] 24)) (tl1_row HC.out (by simp) KM23a.out) (fun k hk => hk) (by simp))
        rw [HMB.out] at HCC
        go_wp2_with fail
        refine HCC.out.mono ?_
        clear HCC
        rintro e w24 ⟨rfl, h⟩
        clear m0_ m1_ m2_
        clear HC
        have HE24 := Lib.hid (HE23a.out.trans h)
        have HG24 := Lib.hid (h.heap HG23a.out (fun h => h))
        have HT24 := Lib.hid (h.heap HT23a.out (fun h => h))
        have HU24 := Lib.hid (h.heap HU23a.out (fun h => h))
        have HX24 := Lib.hid (h.heap HX23a.out (fun h => h))
        have HW24 := Lib.hid (h.heap HW23a.out (fun h => h))
        have HM24 := Lib.hid (h.heap HM23a.out (fun h => h))
        have HN24 := Lib.hid (h.heap HN23a.out (fun h => h))
        have KX24 := Lib.hid (kup KX23a.out h)
        have KW24 := Lib.hid (kup KW23a.out h)
        have KM24 := Lib.hid (kup KM23a.out h)
        have KN24 := Lib.hid (kup KN23a.out h)
        clear h HE23a HG23a HT23a HU23a HX23a HW23a HM23a HN23a KX23a KW23a KM23a KN23a
        have n0_ := cellRow HN24.out 0 (.string m.name) rfl
        have n1_ := cellRow HN24.out 1 (.string m.sort) rfl
        have n2_ := cellRow HN24.out 2 (.slice na m.kids.length nc) rfl
        have HC := Lib.hid (alloc0 w24 (.cells #[.string m.name, .string m.sort, .slice na m.kids.length nc] 24))
        have hz := (Upd.refl (fun _ => False) w24).alloc (.cells #[.string m.name, .string m.sort, .slice na m.kids.length nc] 24)
        have HE24a := Lib.hid (HE24.out.trans hz)
        have HG24a := Lib.hid (hz.heap HG24.out (fun h => h))
        have HT24a := Lib.hid (hz.heap HT24.out (fun h => h))
        have HU24a := Lib.hid (hz.heap HU24.out (fun h => h))
        have HX24a := Lib.hid (hz.heap HX24.out (fun h => h))
        have HW24a := Lib.hid (hz.heap HW24.out (fun h => h))
        have HM24a := Lib.hid (hz.heap HM24.out (fun h => h))
        have HN24a := Lib.hid (hz.heap HN24.out (fun h => h))
        have KX24a := Lib.hid (kup KX24.out hz)
        have KW24a := Lib.hid (kup KW24.out hz)
        have KM24a := Lib.hid (kup KM24.out hz)
        have KN24a := Lib.hid (kup KN24.out hz)
        clear hz HE24 HG24 HT24 HU24 HX24 HW24 HM24 HN24 KX24 KW24 KM24 KN24
        have HCC := Lib.hid (big_x [m] (.slice (some ⟨w24.heap.size, 0, none⟩) 1 1) (fun k => k < (w24.alloc (.cells #[.string m.name, .string m.sort, .slice na m.kids.length nc] 24)).heap.size) (w24.alloc (.cells #[.string m.name, .string m.sort, .slice na m.kids.length nc] 24)) (tl1_row HC.out (by simp) KN24a.out) (fun k hk => hk) (by simp))
        rw [HMB.out] at HCC
        go_wp2_with fail
        refine HCC.out.mono ?_
        clear HCC
        rintro e w25 ⟨rfl, h⟩
        clear n0_ n1_ n2_
        clear HC
        have HE25 := Lib.hid (HE24a.out.trans h)
        have HG25 := Lib.hid (h.heap HG24a.out (fun h => h))
        have HT25 := Lib.hid (h.heap HT24a.out (fun h => h))
        have HU25 := Lib.hid (h.heap HU24a.out (fun h => h))
        have HX25 := Lib.hid (h.heap HX24a.out (fun h => h))
        have HW25 := Lib.hid (h.heap HW24a.out (fun h => h))
        have HM25 := Lib.hid (h.heap HM24a.out (fun h => h))
        have HN25 := Lib.hid (h.heap HN24a.out (fun h => h))
        have KX25 := Lib.hid (kup KX24a.out h)
        have KW25 := Lib.hid (kup KW24a.out h)
        have KM25 := Lib.hid (kup KM24a.out h)
        have KN25 := Lib.hid (kup KN24a.out h)
        clear h HE24a HG24a HT24a HU24a HX24a HW24a HM24a HN24a KX24a KW24a KM24a KN24a
        have m0_ := cellRow HM25.out 0 (.string m.name) rfl
        have m1_ := cellRow HM25.out 1 (.string m.sort) rfl
        have m2_ := cellRow HM25.out 2 (.slice ma m.kids.length mc) rfl
        have n0_ := cellRow HN25.out 0 (.string m.name) rfl
        have n1_ := cellRow HN25.out 1 (.string m.sort) rfl
        have n2_ := cellRow HN25.out 2 (.slice na m.kids.length nc) rfl
        have HCC := Lib.hid (same_x m m (.agg #[.string m.name, .string m.sort, .slice ma m.kids.length mc]) (.agg #[.string m.name, .string m.sort, .slice na m.kids.length nc]) _ _ w25 (TmR.of KM25.out) (TmR.of KN25.out) (by omega))
        rw [decide_eq_true (rfl : m = m)] at HCC
        go_wp2_with fail
        refine HCC.out.mono ?_
        clear HCC
        rintro e w26 ⟨rfl, h⟩
        clear m0_ m1_ m2_ n0_ n1_ n2_
        have HE26 := Lib.hid (HE25.out.trans h)
        have HG26 := Lib.hid (h.heap HG25.out (fun h => h))
        have HT26 := Lib.hid (h.heap HT25.out (fun h => h))
        have HU26 := Lib.hid (h.heap HU25.out (fun h => h))
        have HX26 := Lib.hid (h.heap HX25.out (fun h => h))
        have HW26 := Lib.hid (h.heap HW25.out (fun h => h))
        have KX26 := Lib.hid (kup KX25.out h)
        have KW26 := Lib.hid (kup KW25.out h)
        clear h HE25 HG25 HT25 HU25 HX25 HW25 KX25 KW25
        clear HM25 HN25 KM25 KN25 HMB
        clear HBE HBX
        have h0 := HS0.out g
        have h1 := HS1.out g
        have h2 := HS2.out g
        have hsz1 := HWX.out
        have hsz3 := HSZ.out
        obtain ⟨⟨ts, te⟩, hst⟩ : ∃ y, sortF g t = y := ⟨_, rfl⟩
        obtain ⟨⟨ps, pe⟩, hss⟩ : ∃ y, sortF g s = y := ⟨_, rfl⟩
        obtain ⟨⟨us, ue⟩, hsu⟩ : ∃ y, sortF g u = y := ⟨_, rfl⟩
        obtain ⟨⟨xs, xe⟩, hsx⟩ : ∃ y, sortF g x = y := ⟨_, rfl⟩
        rw [hst, hss] at h0
        rw [hst, hss, hsu, hsx] at h1 h2
        dsimp only at h0 h1 h2
        have H0 := Lib.hid h0
        have H1 := Lib.hid h1
        have H2 := Lib.hid h2
        clear h0 h1 h2 HS0 HS1 HS2
        have hst := Lib.hid hst
        have hss := Lib.hid hss
        have hsu := Lib.hid hsu
        have hsx := Lib.hid hsx
        have g0_ := cellRow HG26.out 0 (.slice sa g.1.length sc) rfl
        have g1_ := cellRow HG26.out 1 (.slice oa g.2.length oc) rfl
        have t0_ := cellRow HT26.out 0 (.string t.name) rfl
        have t1_ := cellRow HT26.out 1 (.string t.sort) rfl
        have t2_ := cellRow HT26.out 2 (.slice a t.kids.length cap) rfl
        have HCC := Lib.hid (HSRT.out t (.agg #[.string t.name, .string t.sort, .slice a t.kids.length cap]) w26 HE26.out ((TmR.of (t := t) (HTS.out.ext HE26.out)).weaken (fun k hk => Nat.lt_of_lt_of_le hk HE26.out.size)) (by omega))
        rw [hst.out] at HCC; dsimp only at HCC
        go_wp2_with fail
        refine HCC.out.mono ?_
        clear HCC
        rintro e w27 ⟨rfl, h⟩
        clear g0_ g1_ t0_ t1_ t2_
        have HE27 := Lib.hid (HE26.out.trans h)
        have HG27 := Lib.hid (h.heap HG26.out (fun h => h))
        have HT27 := Lib.hid (h.heap HT26.out (fun h => h))
        have HU27 := Lib.hid (h.heap HU26.out (fun h => h))
        have HX27 := Lib.hid (h.heap HX26.out (fun h => h))
        have HW27 := Lib.hid (h.heap HW26.out (fun h => h))
        have KX27 := Lib.hid (kup KX26.out h)
        have KW27 := Lib.hid (kup KW26.out h)
        clear h HE26 HG26 HT26 HU26 HX26 HW26 KX26 KW26
        have g0_ := cellRow HG27.out 0 (.slice sa g.1.length sc) rfl
        have g1_ := cellRow HG27.out 1 (.slice oa g.2.length oc) rfl
        have w0_ := cellRow HW27.out 0 (.string s.name) rfl
        have w1_ := cellRow HW27.out 1 (.string s.sort) rfl
        have w2_ := cellRow HW27.out 2 (.slice wa s.kids.length wc) rfl
        have HCC := Lib.hid (HSRT.out s (.agg #[.string s.name, .string s.sort, .slice wa s.kids.length wc]) w27 HE27.out (TmR.of (t := s) KW27.out) (by omega))
        rw [hss.out] at HCC; dsimp only at HCC
        go_wp2_with fail
        refine HCC.out.mono ?_
        clear HCC
        rintro e w28 ⟨rfl, h⟩
        clear g0_ g1_ w0_ w1_ w2_
        have HE28 := Lib.hid (HE27.out.trans h)
        have HG28 := Lib.hid (h.heap HG27.out (fun h => h))
        have HT28 := Lib.hid (h.heap HT27.out (fun h => h))
        have HU28 := Lib.hid (h.heap HU27.out (fun h => h))
        have HX28 := Lib.hid (h.heap HX27.out (fun h => h))
        have HW28 := Lib.hid (h.heap HW27.out (fun h => h))
        have KX28 := Lib.hid (kup KX27.out h)
        have KW28 := Lib.hid (kup KW27.out h)
        clear h HE27 HG27 HT27 HU27 HX27 HW27 KX27 KW27
        have g0_ := cellRow HG28.out 0 (.slice sa g.1.length sc) rfl
        have g1_ := cellRow HG28.out 1 (.slice oa g.2.length oc) rfl
        have u0_ := cellRow HU28.out 0 (.string u.name) rfl
        have u1_ := cellRow HU28.out 1 (.string u.sort) rfl
        have u2_ := cellRow HU28.out 2 (.slice ua u.kids.length uc) rfl
        have HCC := Lib.hid (HSRT.out u (.agg #[.string u.name, .string u.sort, .slice ua u.kids.length uc]) w28 HE28.out ((TmR.of (t := u) (HUS.out.ext HE28.out)).weaken (fun k hk => Nat.lt_of_lt_of_le hk HE28.out.size)) (by omega))
        rw [hsu.out] at HCC; dsimp only at HCC
        go_wp2_with fail
        refine HCC.out.mono ?_
        clear HCC
        rintro e w29 ⟨rfl, h⟩
        clear g0_ g1_ u0_ u1_ u2_
        have HE29 := Lib.hid (HE28.out.trans h)
        have HG29 := Lib.hid (h.heap HG28.out (fun h => h))
        have HT29 := Lib.hid (h.heap HT28.out (fun h => h))
        have HU29 := Lib.hid (h.heap HU28.out (fun h => h))
        have HX29 := Lib.hid (h.heap HX28.out (fun h => h))
        have HW29 := Lib.hid (h.heap HW28.out (fun h => h))
        have KX29 := Lib.hid (kup KX28.out h)
        have KW29 := Lib.hid (kup KW28.out h)
        clear h HE28 HG28 HT28 HU28 HX28 HW28 KX28 KW28
        by_cases ht : te = 0
        case neg =>
          go_wp2_with fail
          refine bodyPost_ret (v := .bool true) (by simp [results, Tryz.results6, go_sem]) rfl ?_
          exact ⟨rfl, HE29.out⟩
        case pos =>
          subst ht
          by_cases hu : ue = 0
          case neg =>
            go_wp2_with fail
            refine bodyPost_ret (v := .bool true) (by simp [results, Tryz.results6, go_sem]) rfl ?_
            exact ⟨rfl, HE29.out⟩
          case pos =>
            subst hu
            obtain rfl := H0.out rfl
            have g0_ := cellRow HG29.out 0 (.slice sa g.1.length sc) rfl
            have g1_ := cellRow HG29.out 1 (.slice oa g.2.length oc) rfl
            have x0_ := cellRow HX29.out 0 (.string x.name) rfl
            have x1_ := cellRow HX29.out 1 (.string x.sort) rfl
            have x2_ := cellRow HX29.out 2 (.slice xa x.kids.length xc) rfl
            have HCC := Lib.hid (HSRT.out x (.agg #[.string x.name, .string x.sort, .slice xa x.kids.length xc]) w29 HE29.out (TmR.of (t := x) KX29.out) (by omega))
            rw [hsx.out] at HCC; dsimp only at HCC
            go_wp2_with fail
            refine HCC.out.mono ?_
            clear HCC
            rintro e w30 ⟨rfl, h⟩
            clear g0_ g1_ x0_ x1_ x2_
            have HE30 := Lib.hid (HE29.out.trans h)
            have HG30 := Lib.hid (h.heap HG29.out (fun h => h))
            have HT30 := Lib.hid (h.heap HT29.out (fun h => h))
            have HU30 := Lib.hid (h.heap HU29.out (fun h => h))
            have HX30 := Lib.hid (h.heap HX29.out (fun h => h))
            have HW30 := Lib.hid (h.heap HW29.out (fun h => h))
            have KX30 := Lib.hid (kup KX29.out h)
            have KW30 := Lib.hid (kup KW29.out h)
            clear h HE29 HG29 HT29 HU29 HX29 HW29 KX29 KW29
            by_cases hp0 : p.length = 0
            · obtain ⟨rfl, hxs⟩ := H1.out (by simp) (by simp) (.inl hp0)
              have hpi : (p.length : Int) = 0 := by omega
              by_cases hxt : xs = ts
              · subst hxt
                clear H1 H2 hst hss hsu hsx hxs
                go_wp2_with fail
                refine bodyPost_ret (v := .bool true) (by simp [results, Tryz.results6, go_sem]) rfl ?_
                exact ⟨rfl, HE30.out⟩
              · have hq := tl_ne hxt
                obtain rfl := (hxs.resolve_left hxt).2
                clear H1 H2 hst hss hsu hsx hxs
                go_wp2_with fail
                all_goals first
                  | (rename_i hh; exfalso; first | exact hq (by simpa using hh) | (rcases hh with hh | hh <;> first | exact hpi (by simpa using hh) | exact hq (by simpa using hh)))
                  | (refine bodyPost_ret (v := .bool true) (by simp [results, Tryz.results6, go_sem]) rfl ?_; exact ⟨rfl, HE30.out⟩)
            have hpi : ¬ (p.length : Int) = 0 := by omega
            by_cases hpu : ps = us
            · obtain ⟨rfl, hxs⟩ := H1.out (by simp) (by simp) (.inr hpu)
              subst hpu
              obtain rfl := hxs.resolve_right (fun h => hp0 h.1)
              clear H1 H2 hst hss hsu hsx hxs
              go_wp2_with fail
              refine bodyPost_ret (v := .bool true) (by simp [results, Tryz.results6, go_sem]) rfl ?_
              exact ⟨rfl, HE30.out⟩
            obtain rfl := H2.out (by simp) (by simp) (fun h => h.elim hp0 hpu)
            have hq := tl_ne hpu
            clear H1 H2 hst hss hsu hsx
            go_wp2_with fail
            all_goals first
              | (rename_i hh; exfalso; first | exact hq (by simpa using hh) | (rcases hh with hh | hh <;> first | exact hpi (by simpa using hh) | exact hq (by simpa using hh)))
              | (refine bodyPost_ret (v := .bool true) (by simp [results, Tryz.results6, go_sem]) rfl ?_; exact ⟨rfl, HE30.out⟩)

end Go.Proofs.YtjjaknmnhhfjeaaGreatDoor
