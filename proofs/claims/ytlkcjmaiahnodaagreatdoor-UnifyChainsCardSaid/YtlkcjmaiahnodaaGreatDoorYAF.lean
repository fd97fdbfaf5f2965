/- The texts UQ UR, one behind the other. -/
import Derived.Test.YtlkcjmaiahnodaaGreatDoorYAE
/- Composition does one after the other: pure. -/
namespace Go.Hw
open Tm
set_option linter.unusedVariables false
set_option linter.unusedSimpArgs false
section
variable {nm : By → Bool}
theorem app1_ok {s : List Bd} {t u : Tm} (h : app1 nm s t = (u, 0)) : clsh s t = false ∧ u = sbB s t ∧ wf nm u = true := by
  unfold app1 at h
  by_cases h1 : clsh s t = true
  · rw [if_pos h1] at h; simp at h
  rw [if_neg h1] at h
  by_cases h2 : 1000 < (sbB s t).size ∨ 60 < (sbB s t).depth
  · rw [if_pos h2] at h; simp at h
  rw [if_neg h2] at h
  by_cases h3 : wf nm (sbB s t) = false
  · rw [if_pos h3] at h; simp at h
  rw [if_neg h3] at h
  injection h with h _
  exact ⟨by simpa using h1, h.symm, by rw [← h]; simpa using h3⟩
theorem app1_of {s : List Bd} {t : Tm} (h1 : clsh s t = false) (h2 : wf nm (sbB s t) = true) : app1 nm s t = (sbB s t, 0) := by
  unfold app1
  have h3 := wf_iff.1 h2
  rw [if_neg (by rw [h1]; simp), if_neg (by omega), if_neg (by rw [h2]; simp)]
theorem clsh_false {s : List Bd} {t : Tm} (ht : wf nm t = true) : clsh s t = false ↔ ∀ f ∈ vof t, ∀ so, bsrt s f.1 = some so → so = f.2 := by
  unfold clsh
  rw [List.any_eq_false]
  have hm := (varsT_mem ht).2
  constructor
  · intro h f hf so hso
    have h1 := h f ((hm f).2 hf)
    rw [hso] at h1
    simpa using h1
  · intro h f hf
    have h1 := h f ((hm f).1 hf)
    cases hb : bsrt s f.1 with
    | none => simp
    | some so => simp [h1 so hb]
theorem cmpA_ok {b : List Bd} : ∀ {a l : List Bd}, cmpA nm b a = (l, 0) → (∀ x ∈ a, (app1 nm b x.2.2).2 = 0) ∧ l = a.map fun x => (x.1, x.2.1, sbB b x.2.2)
  | [], l, h => by
    injection h with h _
    exact ⟨fun x hx => (by cases hx), h.symm⟩
  | x :: a, l, h => by
    unfold cmpA at h
    by_cases h1 : (app1 nm b x.2.2).2 = 0
    · rw [if_pos h1] at h
      by_cases h2 : (cmpA nm b a).2 = 0
      · rw [if_pos h2] at h
        obtain ⟨g1, g2⟩ := cmpA_ok (a := a) (l := (cmpA nm b a).1) (by rw [← h2])
        injection h with h _
        have h3 := app1_ok (u := (app1 nm b x.2.2).1) (show app1 nm b x.2.2 = (_, 0) by rw [← h1])
        refine ⟨fun y hy => ?_, ?_⟩
        · rcases List.mem_cons.1 hy with e | hy
          · rw [e]; exact h1
          · exact g1 y hy
        · rw [← h, g2, List.map_cons, h3.2.1]
      · rw [if_neg h2] at h
        injection h with _ h
        exact absurd h h2
    · rw [if_neg h1] at h
      injection h with _ h
      exact absurd h h1
theorem cmpA_of {b : List Bd} : ∀ {a : List Bd}, (∀ x ∈ a, (app1 nm b x.2.2).2 = 0) → cmpA nm b a = (a.map fun x => (x.1, x.2.1, sbB b x.2.2), 0)
  | [], _ => rfl
  | x :: a, h => by
    have h1 := h x (List.mem_cons_self ..)
    have h2 := cmpA_of (a := a) (fun y hy => h y (List.mem_cons_of_mem _ hy))
    have h3 := app1_ok (u := (app1 nm b x.2.2).1) (show app1 nm b x.2.2 = (_, 0) by rw [← h1])
    unfold cmpA
    rw [if_pos h1, h2, if_pos rfl, h3.2.1]
    rfl
structure Cm (nm : By → Bool) (a b s : List Bd) : Prop where
  va : vldB nm a = true
  vb : vldB nm b = true
  app : ∀ x ∈ a, app1 nm b x.2.2 = (sbB b x.2.2, 0)
  asc : AscK (Prod.fst : Bd → By) s
  mem : ∀ x, x ∈ s ↔ slfB x = false ∧ ((∃ T, (x.1, x.2.1, T) ∈ a ∧ x.2.2 = sbB b T) ∨ (x ∈ b ∧ bget a x.1 = none))
  len : s.length ≤ 1000
theorem slf_of_vld (hnm : nm nul = false) {b : List Bd} (h : vldB nm b = true) {x : Bd} (hx : x ∈ b) : slfB x = false := by
  obtain ⟨_, _, h3⟩ := vldB_spec h
  obtain ⟨n1, n2, _, d⟩ := h3 x hx
  unfold slfB
  rw [decide_eq_false_iff_not]
  intro e
  by_cases hs : x.2.2.sort = nul
  · rw [e] at hs
    have hs : x.2.1 = nul := hs
    rw [hs, hnm] at n2
    cases n2
  · exact (d hs).2 (by rw [e]; rfl)
theorem mem_bget {s : List Bd} (hd : s.Pairwise fun a b => a.1 ≠ b.1) {n : By} {T : Tm} (h : bget s n = some T) : ∃ so, (n, so, T) ∈ s ∧ bsrt s n = some so := by
  obtain ⟨b, hb, h1, h2⟩ := bget_some h
  obtain ⟨_, h4⟩ := bget_of hd hb
  refine ⟨b.2.1, ?_, by rw [← h1]; exact h4⟩
  rw [← h1, ← h2]
  exact hb
theorem bget_mem {s : List Bd} (hd : s.Pairwise fun a b => a.1 ≠ b.1) {n so : By} {T : Tm} (h : (n, so, T) ∈ s) : bget s n = some T ∧ bsrt s n = some so := bget_of hd h
theorem bget_no {s : List Bd} {n : By} (h : ∀ x ∈ s, x.1 ≠ n) : bget s n = none := by
  cases hb : bget s n with
  | none => rfl
  | some T =>
    obtain ⟨b, hb, h1, _⟩ := bget_some hb
    exact absurd h1 (h b hb)
theorem Cm.of {a b s : List Bd} (h : cmpF nm a b = (s, 0)) : Cm nm a b s := by
  unfold cmpF at h
  by_cases h1 : (vldB nm a && vldB nm b) = false
  · rw [if_pos h1] at h; simp at h
  rw [if_neg h1] at h
  have hv : vldB nm a = true ∧ vldB nm b = true := by
    rw [← Bool.and_eq_true]
    simpa using h1
  by_cases h2 : (cmpA nm b a).2 = 0
  · rw [if_pos h2] at h
    obtain ⟨g1, g2⟩ := cmpA_ok (a := a) (b := b) (l := (cmpA nm b a).1) (by rw [← h2])
    generalize hl : (cmpA nm b a).1 ++ b.filter (fun x => (bget a x.1).isNone) = l at h
    by_cases h3 : 1000 < (srtB l).length
    · rw [if_pos h3] at h; simp at h
    rw [if_neg h3] at h
    injection h with h _
    obtain ⟨_, aa, _⟩ := vldB_spec hv.1
    obtain ⟨_, ab, _⟩ := vldB_spec hv.2
    have hd : l.Pairwise fun a b => a.1 ≠ b.1 := by
      rw [← hl, g2, List.pairwise_append]
      refine ⟨?_, (asc_dist ab).filter _, fun x hx y hy => ?_⟩
      · rw [List.pairwise_map]
        exact asc_dist aa
      · obtain ⟨z, hz, rfl⟩ := List.mem_map.1 hx
        have hy2 := (List.mem_filter.1 hy).2
        intro e
        have := (bget_of (asc_dist aa) hz).1
        rw [show z.1 = y.1 from e] at this
        rw [this] at hy2
        cases hy2
    obtain ⟨s1, s2⟩ := srtB_spec l hd
    rw [h] at s1 s2
    refine ⟨hv.1, hv.2, fun x hx => ?_, s1, fun x => ?_, by rw [← h]; omega⟩
    · have h5 := g1 x hx
      have h6 := app1_ok (u := (app1 nm b x.2.2).1) (show app1 nm b x.2.2 = (_, 0) by rw [← h5])
      rw [← h6.2.1, ← h5]
    · rw [s2 x, ← hl, g2, List.mem_append, List.mem_map, List.mem_filter]
      constructor
      · rintro ⟨h7 | h7, h8⟩
        · obtain ⟨y, hy, rfl⟩ := h7
          exact ⟨h8, .inl ⟨y.2.2, hy, rfl⟩⟩
        · exact ⟨h8, .inr ⟨h7.1, by simpa using h7.2⟩⟩
      · rintro ⟨h8, h7 | h7⟩
        · obtain ⟨T, hT, e⟩ := h7
          refine ⟨.inl ⟨_, hT, ?_⟩, h8⟩
          rw [← e]
        · exact ⟨.inr ⟨h7.1, by rw [h7.2]; rfl⟩, h8⟩
  · rw [if_neg h2] at h
    injection h with _ h
    exact absurd h h2
theorem Cm.bsu (hnm : nm nul = false) {a b s : List Bd} (h : Cm nm a b s) {f : Vd} (hf : f.2 ≠ nul) (hc : ∀ so, bsrt a f.1 = some so → so = f.2) : Go.Hw.bsu s f.1 f.2 = sbT (Go.Hw.bsu b) (Go.Hw.bsu a f.1 f.2) := by
  obtain ⟨_, aa, _⟩ := vldB_spec h.va
  obtain ⟨_, ab, _⟩ := vldB_spec h.vb
  have da := asc_dist aa
  have db := asc_dist ab
  have ds := asc_dist h.asc
  cases hg : bget a f.1 with
  | some T =>
    obtain ⟨so, hm, hso⟩ := mem_bget da hg
    obtain rfl : so = f.2 := hc so hso
    have e1 : Go.Hw.bsu a f.1 f.2 = T := by show (bget a f.1).getD _ = T; rw [hg]; rfl
    rw [e1]
    cases hs : slfB (f.1, f.2, sbB b T) with
    | false =>
      have hx : (f.1, f.2, sbB b T) ∈ s := (h.mem _).2 ⟨hs, .inl ⟨T, hm, rfl⟩⟩
      have := (bget_mem ds hx).1
      show (bget s f.1).getD _ = _
      rw [this]
      rfl
    | true =>
      have hn : bget s f.1 = none := bget_no (fun x hx e => by
        obtain ⟨h1, h2⟩ := (h.mem x).1 hx
        rcases h2 with ⟨T2, hT2, e2⟩ | ⟨_, h2⟩
        · rw [e] at hT2
          obtain ⟨g1, g2⟩ := bget_mem da hT2
          rw [hg] at g1
          injection g1 with g1
          rw [hso] at g2
          injection g2 with g2
          have hxx : x = (f.1, f.2, sbB b T) := by
            rw [← e, g2, g1, ← e2]
          rw [hxx, hs] at h1
          cases h1
        · rw [e, hg] at h2
          cases h2)
      have := of_decide_eq_true hs
      show (bget s f.1).getD _ = _
      rw [hn]
      exact this.symm
  | none =>
    have e1 : Go.Hw.bsu a f.1 f.2 = vr f.1 f.2 := by show (bget a f.1).getD _ = _; rw [hg]; rfl
    rw [e1, sbT_var _ hf]
    cases hb : bget b f.1 with
    | some T =>
      obtain ⟨so, hm, hso⟩ := mem_bget db hb
      have hx : (f.1, so, T) ∈ s := (h.mem _).2 ⟨slf_of_vld hnm h.vb hm, .inr ⟨hm, hg⟩⟩
      show (bget s f.1).getD _ = (bget b f.1).getD _
      rw [(bget_mem ds hx).1, hb]
    | none =>
      have hn : bget s f.1 = none := bget_no (fun x hx e => by
        obtain ⟨_, h2⟩ := (h.mem x).1 hx
        rcases h2 with ⟨T2, hT2, _⟩ | ⟨h2, _⟩
        · rw [e] at hT2
          rw [(bget_mem da hT2).1] at hg
          cases hg
        · have := (bget_of db h2).1
          rw [e, hb] at this
          cases this)
      show (bget s f.1).getD _ = (bget b f.1).getD _
      rw [hn, hb]
theorem Cm.sbB (hnm : nm nul = false) {a b s : List Bd} (h : Cm nm a b s) {t : Tm} (ht : wf nm t = true) (hc : clsh a t = false) : Go.Hw.sbB s t = Go.Hw.sbB b (Go.Hw.sbB a t) := by
  unfold Go.Hw.sbB
  rw [sbT_comp]
  have h1 := (clsh_false ht).1 hc
  exact sbT_congr t (fun f hf => h.bsu hnm (vof_ne hf) (h1 f hf))
theorem bsu_sort {s : List Bd} (hv : vldB nm s = true) {f g : Vd} (hg : g.2 ≠ nul) (hc : ∀ so, bsrt s f.1 = some so → so = f.2) (h : bsu s f.1 f.2 = vr g.1 g.2) : g.2 = f.2 := by
  obtain ⟨_, aa, h3⟩ := vldB_spec hv
  have da := asc_dist aa
  cases hb : bget s f.1 with
  | none =>
    have : bsu s f.1 f.2 = vr f.1 f.2 := by show (bget s f.1).getD _ = _; rw [hb]; rfl
    rw [this] at h
    injection h with _ h _
    exact h.symm
  | some T =>
    obtain ⟨so, hm, hso⟩ := mem_bget da hb
    have : bsu s f.1 f.2 = T := by show (bget s f.1).getD _ = _; rw [hb]; rfl
    rw [this] at h
    have h4 := (h3 _ hm).2.2.2
    simp only at h4
    rw [h] at h4
    have h5 := (h4 hg).1
    rw [← hc so hso]
    exact h5
theorem Cm.vld (hnm : nm nul = false) {a b s : List Bd} (h : Cm nm a b s) : vldB nm s = true := by
  obtain ⟨_, aa, ha⟩ := vldB_spec h.va
  obtain ⟨_, ab, hb⟩ := vldB_spec h.vb
  refine vldB_mk h.len h.asc (fun x hx => ?_)
  obtain ⟨h1, h2⟩ := (h.mem x).1 hx
  rcases h2 with ⟨T, hT, e⟩ | ⟨h2, _⟩
  · obtain ⟨n1, n2, n3, n4⟩ := ha _ hT
    simp only at n1 n2 n3 n4
    have hok := app1_ok (h.app _ hT)
    simp only at hok
    refine ⟨n1, n2, by rw [e]; exact hok.2.2, fun hs => ?_⟩
    have hcl := (clsh_false n3).1 hok.1
    -- the value is a variable, so what was bound is one
    obtain ⟨xn, xs, xt⟩ := x
    simp only at e hs h1 hT n1 n2 n4 ⊢
    cases hTt : T with
    | mk m r L =>
      rw [hTt] at n3 n4 hcl hok
      by_cases hr : r = nul
      · subst hr
        rw [e, hTt] at hs
        unfold Go.Hw.sbB at hs
        rw [sbT_opn] at hs
        exact absurd rfl hs
      · have hL : L = [] := wf_nop' n3 _ (mem_sbts_self _) hr
        subst hL
        obtain ⟨m1, m2⟩ := n4 hr
        have e2 : xt = Go.Hw.bsu b m r := by
          rw [e, hTt]
          unfold Go.Hw.sbB
          rw [sbT_var _ hr]
        have hxk : xt.kids = [] := by
          have := wf_nop' hok.2.2
          rw [← hTt, ← e] at this
          exact this _ (mem_sbts_self _) hs
        have hxe : xt = vr xt.name xt.sort := by
          have := eta xt
          rw [hxk] at this
          exact this.symm
        have h5 := bsu_sort h.vb (f := (m, r)) (g := (xt.name, xt.sort)) hs (hcl _ (vof_self hr [])) (e2.symm.trans hxe)
        have h6 : xt.sort = xs := h5.trans m1
        refine ⟨h6, fun hn => ?_⟩
        have := of_decide_eq_false h1
        apply this
        rw [hxe, hn, h6]
  · exact hb x h2
theorem chain_law (hnm : nm nul = false) {a b s : List Bd} {t x y : Tm} (h1 : appF nm a t = (x, 0)) (h2 : appF nm b x = (y, 0)) (h3 : cmpF nm a b = (s, 0)) : appF nm s t = (y, 0) := by
  have hC := Cm.of h3
  unfold appF at h1 h2 ⊢
  split at h1
  · rename_i c1
    rw [Bool.and_eq_true] at c1
    split at h2
    · rename_i c2
      obtain ⟨k1, k2, k3⟩ := app1_ok h1
      obtain ⟨m1, m2, m3⟩ := app1_ok h2
      have hsb : Go.Hw.sbB s t = y := by rw [hC.sbB hnm c1.2 k1, ← k2, m2]
      rw [if_pos (by rw [hC.vld hnm, c1.2]; rfl)]
      rw [app1_of ?_ (by rw [hsb]; exact m3), hsb]
      refine (clsh_false c1.2).2 (fun f hf so hso => ?_)
      have ha := (clsh_false c1.2).1 k1 f hf
      have hx := (clsh_false k3).1 m1
      obtain ⟨z, hz, z1, z2⟩ := bsrt_some hso
      obtain ⟨_, h5⟩ := (hC.mem z).1 hz
      have da := asc_dist (vldB_spec hC.va).2.1
      have db := asc_dist (vldB_spec hC.vb).2.1
      rcases h5 with ⟨T, hT, _⟩ | ⟨h5, h6⟩
      · have := (bget_mem da hT).2
        rw [z1] at this
        rw [← z2]
        exact ha _ this
      · have hfx : f ∈ vof x := by
          rw [k2]
          unfold Go.Hw.sbB
          refine vof_sbT_of t hf (wf_nop' c1.2) ?_
          have : Go.Hw.bsu a f.1 f.2 = vr f.1 f.2 := by show (bget a f.1).getD _ = _; rw [← z1, h6]; rfl
          rw [this, vof_vr (vof_ne hf)]
          exact List.mem_singleton.2 rfl
        have := (bget_of db h5).2
        rw [z1, z2] at this
        exact hx f hfx so this
    · simp at h2
  · simp at h1
theorem assoc_law (hnm : nm nul = false) {a b c s u l m : List Bd} (h1 : cmpF nm a b = (s, 0)) (h2 : cmpF nm b c = (u, 0)) (h3 : cmpF nm s c = (l, 0)) (h4 : cmpF nm a u = (m, 0)) : l = m := by
  have C1 := Cm.of h1
  have C2 := Cm.of h2
  have C3 := Cm.of h3
  have C4 := Cm.of h4
  have da := asc_dist (vldB_spec C1.va).2.1
  have db := asc_dist (vldB_spec C1.vb).2.1
  have dc := asc_dist (vldB_spec C2.vb).2.1
  have ds := asc_dist C1.asc
  refine asc_uniq Prod.fst C3.asc C4.asc (fun x => ?_)
  rw [C3.mem x, C4.mem x]
  -- what is bound by a, then b, then c
  have hab : ∀ T, (x.1, x.2.1, T) ∈ a → Go.Hw.sbB u T = Go.Hw.sbB c (Go.Hw.sbB b T) := fun T hT => by
    have hT2 := ((vldB_spec C1.va).2.2 _ hT).2.2.1
    exact C2.sbB hnm hT2 (app1_ok (C1.app _ hT)).1
  constructor
  · rintro ⟨hs, h⟩
    refine ⟨hs, ?_⟩
    rcases h with ⟨T, hT, e⟩ | ⟨hx, hn⟩
    · obtain ⟨_, h⟩ := (C1.mem _).1 hT
      rcases h with ⟨T0, hT0, e0⟩ | ⟨hb, hna⟩
      · exact .inl ⟨T0, hT0, by rw [e, hab T0 hT0]; simp only at e0; rw [e0]⟩
      · refine .inr ⟨(C2.mem x).2 ⟨hs, .inl ⟨T, hb, e⟩⟩, hna⟩
    · by_cases hna : bget a x.1 = none
      · refine .inr ⟨(C2.mem x).2 ⟨hs, .inr ⟨hx, ?_⟩⟩, hna⟩
        cases hb : bget b x.1 with
        | none => rfl
        | some T =>
          obtain ⟨so, hm, _⟩ := mem_bget db hb
          have : (x.1, so, T) ∈ s := (C1.mem _).2 ⟨slf_of_vld hnm C1.vb hm, .inr ⟨hm, hna⟩⟩
          rw [(bget_mem ds this).1] at hn
          cases hn
      · obtain ⟨T0, hT0⟩ : ∃ T0, bget a x.1 = some T0 := by
          cases h : bget a x.1 with
          | none => exact absurd h hna
          | some T0 => exact ⟨T0, rfl⟩
        obtain ⟨so, hm, hso⟩ := mem_bget da hT0
        -- b leads it back to itself
        have hself : Go.Hw.sbB b T0 = vr x.1 so := by
          cases hs2 : slfB (x.1, so, Go.Hw.sbB b T0) with
          | true => exact of_decide_eq_true hs2
          | false =>
            have : (x.1, so, Go.Hw.sbB b T0) ∈ s := (C1.mem _).2 ⟨hs2, .inl ⟨T0, hm, rfl⟩⟩
            rw [(bget_mem ds this).1] at hn
            cases hn
        have hso2 : so ≠ nul := fun e => by
          have := ((vldB_spec C1.va).2.2 _ hm).2.1
          simp only at this
          rw [e, hnm] at this
          cases this
        -- the sort that c knows
        have hsc : x.2.1 = so := by
          have hb1 := (bget_of dc hx).2
          have hT0w := ((vldB_spec C1.va).2.2 _ hm).2.2.1
          simp only at hT0w
          have hok := app1_ok (C1.app _ hm)
          simp only at hok
          cases hTt : T0 with
          | mk p r L =>
            rw [hTt] at hself hT0w hok
            by_cases hr : r = nul
            · subst hr
              unfold Go.Hw.sbB at hself
              rw [sbT_opn] at hself
              injection hself with _ e _
              exact absurd e.symm hso2
            · unfold Go.Hw.sbB at hself
              rw [sbT_var _ hr] at hself
              cases hbp : bget b p with
              | none =>
                have : Go.Hw.bsu b p r = vr p r := by show (bget b p).getD _ = _; rw [hbp]; rfl
                rw [this] at hself
                injection hself with e1 e2 _
                have hd := ((vldB_spec C1.va).2.2 _ hm).2.2.2
                simp only at hd
                rw [hTt] at hd
                exact absurd e1 (hd hr).2
              | some W =>
                have : Go.Hw.bsu b p r = W := by show (bget b p).getD _ = _; rw [hbp]; rfl
                rw [this] at hself
                obtain ⟨so2, hm2, _⟩ := mem_bget db hbp
                have hok2 := app1_ok (C2.app _ hm2)
                simp only at hok2
                have hw2 := ((vldB_spec C1.vb).2.2 _ hm2).2.2.1
                simp only at hw2
                rw [hself] at hok2 hw2
                exact (clsh_false hw2).1 hok2.1 (x.1, so) (vof_self hso2 []) _ hb1
        refine .inl ⟨T0, by rw [hsc]; exact hm, ?_⟩
        rw [hab T0 (by rw [hsc]; exact hm), hself]
        unfold Go.Hw.sbB
        rw [sbT_var _ hso2]
        show _ = (bget c x.1).getD _
        rw [(bget_of dc hx).1]
        rfl
  · rintro ⟨hs, h⟩
    refine ⟨hs, ?_⟩
    rcases h with ⟨T0, hT0, e⟩ | ⟨hx, hna⟩
    · rw [hab T0 hT0] at e
      cases hs2 : slfB (x.1, x.2.1, Go.Hw.sbB b T0) with
      | false => exact .inl ⟨_, (C1.mem _).2 ⟨hs2, .inl ⟨T0, hT0, rfl⟩⟩, e⟩
      | true =>
        have hself := of_decide_eq_true hs2
        simp only at hself
        have hso2 : x.2.1 ≠ nul := fun e => by
          have := ((vldB_spec C1.va).2.2 _ hT0).2.1
          simp only at this
          rw [e, hnm] at this
          cases this
        rw [hself] at e
        unfold Go.Hw.sbB at e
        rw [sbT_var _ hso2] at e
        have hns : bget s x.1 = none := bget_no (fun z hz ez => by
          obtain ⟨g1, g2⟩ := (C1.mem z).1 hz
          rcases g2 with ⟨T2, hT2, e2⟩ | ⟨_, g3⟩
          · rw [ez] at hT2
            obtain ⟨k1, k2⟩ := bget_mem da hT2
            obtain ⟨k3, k4⟩ := bget_mem da hT0
            rw [k3] at k1
            injection k1 with k1
            rw [k4] at k2
            injection k2 with k2
            have := of_decide_eq_false g1
            apply this
            rw [e2, ← k1, hself, ez, k2]
          · rw [ez, (bget_mem da hT0).1] at g3
            cases g3)
        cases hbc : bget c x.1 with
        | none =>
          have : Go.Hw.bsu c x.1 x.2.1 = vr x.1 x.2.1 := by show (bget c x.1).getD _ = _; rw [hbc]; rfl
          rw [this] at e
          have := of_decide_eq_false hs
          exact absurd e this
        | some W =>
          have hW : Go.Hw.bsu c x.1 x.2.1 = W := by show (bget c x.1).getD _ = _; rw [hbc]; rfl
          rw [hW] at e
          obtain ⟨so, hm, hso⟩ := mem_bget dc hbc
          -- the sort
          have hsc : so = x.2.1 := by
            have hT0w := ((vldB_spec C1.va).2.2 _ hT0).2.2.1
            simp only at hT0w
            cases hTt : T0 with
            | mk p r L =>
              rw [hTt] at hself hT0w
              by_cases hr : r = nul
              · subst hr
                unfold Go.Hw.sbB at hself
                rw [sbT_opn] at hself
                injection hself with _ e _
                exact absurd e.symm hso2
              · unfold Go.Hw.sbB at hself
                rw [sbT_var _ hr] at hself
                cases hbp : bget b p with
                | none =>
                  have : Go.Hw.bsu b p r = vr p r := by show (bget b p).getD _ = _; rw [hbp]; rfl
                  rw [this] at hself
                  injection hself with e1 e2 _
                  have hd := ((vldB_spec C1.va).2.2 _ hT0).2.2.2
                  simp only at hd
                  rw [hTt] at hd
                  exact absurd e1 (hd hr).2
                | some V =>
                  have : Go.Hw.bsu b p r = V := by show (bget b p).getD _ = _; rw [hbp]; rfl
                  rw [this] at hself
                  obtain ⟨so2, hm2, _⟩ := mem_bget db hbp
                  have hok2 := app1_ok (C2.app _ hm2)
                  simp only at hok2
                  have hw2 := ((vldB_spec C1.vb).2.2 _ hm2).2.2.1
                  simp only at hw2
                  rw [hself] at hok2 hw2
                  exact (clsh_false hw2).1 hok2.1 (x.1, x.2.1) (vof_self hso2 []) _ hso
          refine .inr ⟨?_, hns⟩
          rw [hsc, ← e] at hm
          exact hm
    · obtain ⟨_, g⟩ := (C2.mem x).1 hx
      rcases g with ⟨T, hT, e⟩ | ⟨hc, hnb⟩
      · refine .inl ⟨T, (C1.mem _).2 ⟨slf_of_vld hnm C1.vb hT, .inr ⟨hT, hna⟩⟩, e⟩
      · refine .inr ⟨hc, bget_no (fun z hz ez => ?_)⟩
        obtain ⟨_, g2⟩ := (C1.mem z).1 hz
        rcases g2 with ⟨T2, hT2, _⟩ | ⟨g2, _⟩
        · rw [ez] at hT2
          rw [(bget_mem da hT2).1] at hna
          cases hna
        · have := (bget_of db g2).1
          rw [ez, hnb] at this
          cases this
end
end Go.Hw

/- What matches and what unifies: the laws, pure. -/
namespace Go.Hw
open Tm
set_option linter.unusedVariables false
set_option linter.unusedSimpArgs false
section
variable {nm : By → Bool}
theorem vof_node {t : Tm} {f : Vd} (h : f ∈ vof t) : ∃ x ∈ sbts t, x.name = f.1 ∧ x.sort = f.2 := by
  unfold vof vl at h
  rw [List.mem_filterMap] at h
  obtain ⟨x, hx, e⟩ := h
  by_cases hs : x.sort = nul
  · rw [if_pos hs] at e; cases e
  · rw [if_neg hs] at e
    injection e with e
    exact ⟨x, hx, by rw [← e], by rw [← e]⟩
theorem vof_nm {t : Tm} (ht : ∀ x ∈ sbts t, NdOk nm x) {f : Vd} (h : f ∈ vof t) : nm f.1 = true ∧ nm f.2 = true := by
  have hne := vof_ne h
  obtain ⟨x, hx, h1, h2⟩ := vof_node h
  have := ht x hx
  rw [← h1, ← h2]
  exact ⟨this.1, this.2.2.elim (fun e => absurd (h2.symm.trans e) hne) (fun e => e.1)⟩
structure Un (nm : By → Bool) (X : List Vd) (a b : Tm) (θ : Su) : Prop where
  mg : Mg X (Eqs a b) θ
  asc : AscK (Prod.fst : Vd → By) X
  va : ∀ f ∈ vof a, f ∈ X
  vb : ∀ f ∈ vof b, f ∈ X
  vX : ∀ f ∈ X, f ∈ vof a ∨ f ∈ vof b
  cons : Cons X
  wa : wf nm a = true
  wb : wf nm b = true
  nodes : ∀ f ∈ X, ∀ x ∈ sbts (θ f.1 f.2), x.sort = nul → ∃ y, (y ∈ sbts a ∨ y ∈ sbts b) ∧ x.name = y.name ∧ x.kids.length = y.kids.length
  small : ¬ BigT X θ
  pure' : ¬ MixT X θ
  few : X.length ≤ 1000
variable {X : List Vd} {a b : Tm} {θ : Su}
theorem Un.names (h : Un nm X a b θ) {f : Vd} (hf : f ∈ X) : nm f.1 = true ∧ nm f.2 = true := by
  rcases h.vX f hf with h1 | h1
  · exact vof_nm (wf_iff.1 h.wa).2.2.1 h1
  · exact vof_nm (wf_iff.1 h.wb).2.2.1 h1
theorem Un.ne (hnm : nm nul = false) (h : Un nm X a b θ) {f : Vd} (hf : f ∈ X) : f.2 ≠ nul := fun e => by
  have := (h.names hf).2
  rw [e, hnm] at this
  cases this
theorem Un.wf_sbT (h : Un nm X a b θ) {t : Tm} (ht : ∀ x ∈ sbts t, NdOk nm x) (hv : ∀ f ∈ vof t, f ∈ X) (hs : (sbT θ t).size ≤ 1000) (hd : (sbT θ t).depth ≤ 60) : wf nm (sbT θ t) = true := by
  have hvX : ∀ g ∈ vof (sbT θ t), g ∈ X := fun g hg => by
    obtain ⟨f, hf, hgf⟩ := mem_vof_sbT t hg
    exact h.mg.inX f (hv f hf) g hgf
  have hnp : NoP (sbT θ t) := nop_sbT t (fun f hf => h.mg.nop f (hv f hf))
  refine wf_iff.2 ⟨hs, hd, fun x hx => ?_, fun f hf g hg e => h.cons f (hvX f hf) g (hvX g hg) e⟩
  by_cases hxs : x.sort = nul
  · rcases sbts_sbT t x hx with ⟨y, hy, y1, _, y3, y4⟩ | ⟨f, hf, hxf⟩
    · exact ndok_op (ht y hy) hxs y3 y4
    · obtain ⟨y, hy, y1, y2⟩ := h.nodes f (hv f hf) x hxf hxs
      refine ndok_op (y := y) ?_ hxs y1 y2
      rcases hy with hy | hy
      · exact (wf_iff.1 h.wa).2.2.1 y hy
      · exact (wf_iff.1 h.wb).2.2.1 y hy
  · have hk := hnp x hx hxs
    have hg : (x.name, x.sort) ∈ vof (sbT θ t) := by
      unfold vof vl
      rw [List.mem_filterMap]
      exact ⟨x, hx, by rw [if_neg hxs]⟩
    obtain ⟨n1, n2⟩ := h.names (hvX _ hg)
    exact ⟨n1, by rw [hk]; simp, .inr ⟨n2, hk⟩⟩
theorem Un.wf_val (hnm : nm nul = false) (h : Un nm X a b θ) {f : Vd} (hf : f ∈ X) : wf nm (θ f.1 f.2) = true := by
  have hb : ¬ (1000 < (θ f.1 f.2).size ∨ 60 < (θ f.1 f.2).depth) := fun e => h.small ⟨f, hf, e⟩
  have e : sbT θ (vr f.1 f.2) = θ f.1 f.2 := sbT_var _ (h.ne hnm hf) []
  rw [← e]
  refine h.wf_sbT (fun x hx => ?_) (fun g hg => ?_) (by rw [e]; omega) (by rw [e]; omega)
  · rw [sbts_eq, List.mem_cons] at hx
    rcases hx with hx | hx
    · obtain ⟨n1, n2⟩ := h.names hf
      rw [hx]
      exact ⟨n1, by simp [Tm.kids], .inr ⟨n2, rfl⟩⟩
    · cases hx
  · rw [vof_vr (h.ne hnm hf), List.mem_singleton] at hg
    rw [hg]; exact hf
theorem Un.bget (h : Un nm X a b θ) {f : Vd} (hf : f ∈ X) : bsu (bds X θ) f.1 f.2 = θ f.1 f.2 ∧ ∀ so, bsrt (bds X θ) f.1 = some so → so = f.2 := by
  have hd := asc_dist (bds_asc h.asc θ)
  constructor
  · by_cases e : θ f.1 f.2 = vr f.1 f.2
    · have hn : Go.Hw.bget (bds X θ) f.1 = none := bget_no (fun z hz ez => by
        obtain ⟨z1, z2, z3⟩ := mem_bds.1 hz
        have : z.2.1 = f.2 := h.cons _ z1 _ hf ez
        rw [ez, this] at z3
        exact z3 e)
      show (Go.Hw.bget _ _).getD _ = _
      rw [hn, e]
      rfl
    · have hm : (f.1, f.2, θ f.1 f.2) ∈ bds X θ := mem_bds.2 ⟨hf, rfl, e⟩
      show (Go.Hw.bget _ _).getD _ = _
      rw [(bget_of hd hm).1]
      rfl
  · intro so hso
    obtain ⟨z, hz, z1, z2⟩ := bsrt_some hso
    have := (mem_bds.1 hz).1
    rw [z1, z2] at this
    exact h.cons _ this _ hf rfl
theorem Un.vld (hnm : nm nul = false) (h : Un nm X a b θ) : vldB nm (bds X θ) = true := by
  refine vldB_mk ?_ (bds_asc h.asc θ) (fun x hx => ?_)
  · have : (bds X θ).length ≤ X.length := List.length_filterMap_le _ _
    have := h.few
    omega
  · obtain ⟨h1, h2, h3⟩ := mem_bds.1 hx
    obtain ⟨n1, n2⟩ := h.names h1
    have hw := h.wf_val hnm h1
    simp only at hw
    refine ⟨n1, n2, by rw [h2]; exact hw, fun hs => ?_⟩
    rw [h2] at hs ⊢
    have hk : (θ x.1 x.2.1).kids = [] := wf_nop' hw _ (mem_sbts_self _) hs
    have he : θ x.1 x.2.1 = vr (θ x.1 x.2.1).name (θ x.1 x.2.1).sort := by
      have e := eta (θ x.1 x.2.1)
      rw [hk] at e
      exact e.symm
    have hss : (θ x.1 x.2.1).sort = x.2.1 := by
      by_cases e : (θ x.1 x.2.1).sort = x.2.1
      · exact e
      · exact absurd ⟨_, h1, ((θ x.1 x.2.1).name, (θ x.1 x.2.1).sort), hs, he, e⟩ h.pure'
    refine ⟨hss, fun hn => h3 ?_⟩
    rw [hn, hss] at he
    exact he
theorem Un.sbB (h : Un nm X a b θ) {t : Tm} (hv : ∀ f ∈ vof t, f ∈ X) : sbB (bds X θ) t = sbT θ t := sbT_congr t (fun f hf => (h.bget (hv f hf)).1)
theorem Un.app1 (h : Un nm X a b θ) {t : Tm} (ht : wf nm t = true) (hv : ∀ f ∈ vof t, f ∈ X) : app1 nm (bds X θ) t = if 1000 < (sbT θ t).size ∨ 60 < (sbT θ t).depth then (.mk nul nul [], 4) else (sbT θ t, 0) := by
  have hc : clsh (bds X θ) t = false := (clsh_false ht).2 (fun f hf => (h.bget (hv f hf)).2)
  by_cases hb : 1000 < (sbT θ t).size ∨ 60 < (sbT θ t).depth
  · rw [if_pos hb]
    unfold Go.Hw.app1
    rw [if_neg (by rw [hc]; simp), h.sbB hv, if_pos hb]
  · rw [if_neg hb]
    have hw := h.wf_sbT (wf_iff.1 ht).2.2.1 hv (by omega) (by omega)
    rw [app1_of hc (by rw [h.sbB hv]; exact hw), h.sbB hv]
theorem Un.idem (h : Un nm X a b θ) {t : Tm} (hv : ∀ f ∈ vof t, f ∈ X) : sbT θ (sbT θ t) = sbT θ t := by
  rw [sbT_comp]
  exact sbT_congr t (fun f hf => h.mg.gen θ h.mg.uni f (hv f hf))
end
end Go.Hw
