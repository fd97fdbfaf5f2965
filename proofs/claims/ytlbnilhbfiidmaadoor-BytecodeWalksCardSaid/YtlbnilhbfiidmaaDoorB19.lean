/- heights. -/
import Derived.Test.YtlbnilhbfiidmaaDoorB18
import Derived.Test.YtlbnilhbfiidmaaDoorB17
import Derived.Test.YtlbnilhbfiidmaaDoorB14
namespace Go.Proofs.YtlbnilhbfiidmaaDoor
open Go.RowKit Go.Hw
set_option linter.unusedVariables false
set_option linter.unusedSimpArgs false

theorem info77 : (Tryd.prog.info? 77).map (fun i => (i.zero, i.size, i.bytes)) = some (some (.int .u64 0), 1, 8) := by kernel_rfl
theorem words_zero (n : Nat) : (madeCells #[Value.int .u64 0] n).toList = words (List.replicate n 0) := by
  rw [made_list]
  simp [words]
theorem getD_rep0 (n j : Nat) : (List.replicate n (0 : Nat)).getD j 0 = 0 := by simp [List.getElem?_replicate]; split <;> simp
theorem bit_zero (n j : Nat) : bitOf (List.replicate n 0) j = false := by unfold bitOf; rw [getD_rep0]; simp
theorem u64_zero (n : Nat) : U64s (List.replicate n 0) := by intro j; rw [getD_rep0]; decide
theorem wpList_run0 : True := trivial
theorem set_same (h : List Int) (t : Nat) (v : Int) (ht : t < h.length) (hv : h.getD t (-1) = v) : h.set t v = h := by
  apply List.ext_getElem (by simp)
  intro i h1 h2
  by_cases e : i = t
  · subst e
    rw [List.getElem_set_self]
    rw [List.getD_eq_getElem?_getD, List.getElem?_eq_getElem ht] at hv
    exact hv.symm
  · rw [List.getElem_set_ne (Ne.symm e)]
theorem pend_out (h : List Int) (d : List Bool) (j : Nat) (hj : h.length ≤ j) : pend h d j = false := by
  unfold pend
  rw [List.getD_eq_getElem?_getD, List.getElem?_eq_none hj]
  rfl
theorem pend_mk (h : List Int) (d : List Bool) (j : Nat) : pend h d j = (decide (0 ≤ h.getD j (-1)) && !d.getD j true) := rfl
/-- the bits behind a new height -/
theorem bits_new (h : List Int) (d : List Bool) (ws : List Nat) (t : Nat) (v : Int) (ht : t < h.length) (hd : d.getD t true = false) (hv : 0 ≤ v) (hw : t / 64 < ws.length) (hb : ∀ j, bitOf ws j = pend h d j) :
    ∀ j, bitOf (ws.set (t / 64) (ws.getD (t / 64) 0 ||| 2 ^ (t % 64))) j = pend (h.set t v) d j := by
  intro j
  rw [bit_add _ _ _ hw, hb]
  unfold pend
  rw [getD_set_int _ _ _ _ ht]
  by_cases e : j = t
  · subst e; rw [if_pos rfl, hd, decide_eq_true hv]; simp
  · rw [if_neg e, decide_eq_false e, Bool.false_or]
theorem u64s_add (ws : List Nat) (i : Nat) (hu : U64s ws) : U64s (ws.set (i / 64) (ws.getD (i / 64) 0 ||| 2 ^ (i % 64))) := by
  refine u64s_set hu _ _ ?_
  have h1 : (2 : Nat) ^ (i % 64) < 2 ^ 64 := Nat.pow_lt_pow_right (by decide) (by omega)
  exact Nat.or_lt_two_pow (n := 64) (hu _) h1

set_option maxRecDepth 100000 in
set_option maxHeartbeats 4000000 in
/-- heights -/
theorem heights_x (a fv : Value) (c : Cd) (f : Fn) (w : World) (h : CdR w a fv c) (hf : FnR w f) (hform : formB c = true) (hmem : f ∈ c.funcs) (hT : ∀ W, Ext w W → TabAt 0 Lib.deBruijn64tab W) : Calls Tryd.prog 18 #[.agg #[a, .int .i64 c.glob, fv], .agg #[.string f.name, .int .i64 f.params, .int .i64 f.locals, .bool f.result, f.v]] w (HtsP c f w) := by
  obtain ⟨hhead, _⟩ := formed_parts hform
  obtain ⟨_, _, _, _, _, hL1, hL2⟩ := fn1_parts (head_fn hhead hmem)
  have HRT : Hid (∀ k, k < f.code.length → rightB c f (f.code.getD k (0, 0)).1 (f.code.getD k (0, 0)).2 = true) := fun k hk => formed_right hform hmem hk
  have HMB : Hid (∀ op x, rightB c f op x = true → 0 ≤ (mvP c f op x).1 ∧ (mvP c f op x).1 ≤ 6 ∧ 0 ≤ (mvP c f op x).2 ∧ (mvP c f op x).2 ≤ 2) := fun op x hr => mv_bd hhead f op x hr
  clear hhead hform hmem
  obtain ⟨⟨xa, ca, rfl⟩, xf, cf, rfl⟩ := h.shapes
  obtain ⟨xv, cv, hxv⟩ := hf.shape
  have HN := Lib.hid h
  have HFN := Lib.hid hf
  have HXV := Lib.hid hxv
  have hl1 := h.l1
  have hl2 := h.l2
  have HE0 : Hid (Ext w ((w.alloc (.cells #[.slice xa c.fields.length ca, .int .i64 c.glob, .slice xf c.funcs.length cf] 25)).alloc (.cells #[.string f.name, .int .i64 f.params, .int .i64 f.locals, .bool f.result, .slice xv f.code.length cv] 39))) := ((Upd.refl _ w).alloc _).alloc _
  have HXA : Hid (∀ W, Ext ((w.alloc (.cells #[.slice xa c.fields.length ca, .int .i64 c.glob, .slice xf c.funcs.length cf] 25)).alloc (.cells #[.string f.name, .int .i64 f.params, .int .i64 f.locals, .bool f.result, .slice xv f.code.length cv] 39)) W → W.heap[w.heap.size]? = some (.cells #[.slice xa c.fields.length ca, .int .i64 c.glob, .slice xf c.funcs.length cf] 25)) := fun W hW => hW.heap (allocOld (alloc0 w _) _) (fun h => h)
  have HXF : Hid (∀ W, Ext ((w.alloc (.cells #[.slice xa c.fields.length ca, .int .i64 c.glob, .slice xf c.funcs.length cf] 25)).alloc (.cells #[.string f.name, .int .i64 f.params, .int .i64 f.locals, .bool f.result, .slice xv f.code.length cv] 39)) W → W.heap[w.heap.size + 1]? = some (.cells #[.string f.name, .int .i64 f.params, .int .i64 f.locals, .bool f.result, .slice xv f.code.length cv] 39)) := fun W hW => hW.heap (alloc_at (w.alloc (.cells #[.slice xa c.fields.length ca, .int .i64 c.glob, .slice xf c.funcs.length cf] 25)) _ (n := w.heap.size + 1) (by simp)) (fun h => h)
  have HINS : Hid (∀ W, Ext ((w.alloc (.cells #[.slice xa c.fields.length ca, .int .i64 c.glob, .slice xf c.funcs.length cf] 25)).alloc (.cells #[.string f.name, .int .i64 f.params, .int .i64 f.locals, .bool f.result, .slice xv f.code.length cv] 39)) W → ∀ k, k < f.code.length → ∃ g off, xv = some ⟨g, off, none⟩ ∧ W.cell? ⟨g, off + k * 2, none⟩ = some (.int .i64 (f.code.getD k (0, 0)).1) ∧ W.cell? ⟨g, off + k * 2 + 1, none⟩ = some (.int .i64 (f.code.getD k (0, 0)).2)) := fun W hW k hk => by
    obtain ⟨g, off, cap, hv, _, d0, d1⟩ := (HFN.out.kept (HE0.out.ext hW)).at hk
    rw [HXV.out] at hv
    injection hv with e1 _ _
    exact ⟨g, off, e1, d0, d1⟩
  rw [hxv]
  clear h hf hxv
  obtain ⟨⟨xl, xa', xe⟩, hX⟩ : ∃ X, hP c f = X := ⟨_, rfl⟩
  have HX0 : Hid (hts c f (f.code.length + 1) ((List.replicate f.code.length (-1)).set 0 0) (List.replicate f.code.length false) = (xl, xa', xe)) := hX
  unfold HtsP
  rw [hX]
  clear hX
  dsimp only
  have HTB := Lib.hid hT
  clear hT
  obtain ⟨i3, hi3, hz03, hz13, hz23⟩ := info_parts info3
  obtain ⟨i7, hi7, hz07, hz17, hz27⟩ := info_parts info77
  have hmk := fun W => made_one Tryd.prog 65 77 i7 (.int .u64 0) Tryd.underlying65 hi7 hz07 hz17 rfl (by rw [hz27]; omega) (f.code.length / 64 + 1) (by omega) W
  obtain ⟨gh, hgh⟩ : ∃ gh, gh = w.heap.size + 1 + 1 + 1 := ⟨_, rfl⟩
  have hw1 : (((w.alloc (.cells #[.slice xa c.fields.length ca, .int .i64 c.glob, .slice xf c.funcs.length cf] 25)).alloc (.cells #[.string f.name, .int .i64 f.params, .int .i64 f.locals, .bool f.result, .slice xv f.code.length cv] 39)).alloc (.cells #[.int .i64 (-1)] 3)).heap.size = gh := by rw [hgh]; simp
  have HREP : Hid (Calls Tryd.prog 31 #[.slice (some ⟨w.heap.size + 1 + 1, 0, none⟩) 1 1, .int .i64 f.code.length] (((w.alloc (.cells #[.slice xa c.fields.length ca, .int .i64 c.glob, .slice xf c.funcs.length cf] 25)).alloc (.cells #[.string f.name, .int .i64 f.params, .int .i64 f.locals, .bool f.result, .slice xv f.code.length cv] 39)).alloc (.cells #[.int .i64 (-1)] 3)) fun e w' => e = .returned (.slice (some ⟨gh, 0, none⟩) f.code.length f.code.length) ∧ w'.heap[gh]? = some (.cells (List.replicate f.code.length (Value.int .i64 (-1))).toArray 3) ∧ Ext (((w.alloc (.cells #[.slice xa c.fields.length ca, .int .i64 c.glob, .slice xf c.funcs.length cf] 25)).alloc (.cells #[.string f.name, .int .i64 f.params, .int .i64 f.locals, .bool f.result, .slice xv f.code.length cv] 39)).alloc (.cells #[.int .i64 (-1)] 3)) w') := by
    have := repeat_any (-1) (w.heap.size + 1 + 1) 1 f.code.length (((w.alloc (.cells #[.slice xa c.fields.length ca, .int .i64 c.glob, .slice xf c.funcs.length cf] 25)).alloc (.cells #[.string f.name, .int .i64 f.params, .int .i64 f.locals, .bool f.result, .slice xv f.code.length cv] 39)).alloc (.cells #[.int .i64 (-1)] 3)) (cellRow (alloc_at ((w.alloc (.cells #[.slice xa c.fields.length ca, .int .i64 c.glob, .slice xf c.funcs.length cf] 25)).alloc (.cells #[.string f.name, .int .i64 f.params, .int .i64 f.locals, .bool f.result, .slice xv f.code.length cv] 39)) _ (n := w.heap.size + 1 + 1) (by simp)) 0 _ rfl) hL1 (by omega)
    rw [hw1] at this
    exact this
  have HEL : Hid (Ext ((w.alloc (.cells #[.slice xa c.fields.length ca, .int .i64 c.glob, .slice xf c.funcs.length cf] 25)).alloc (.cells #[.string f.name, .int .i64 f.params, .int .i64 f.locals, .bool f.result, .slice xv f.code.length cv] 39)) (((w.alloc (.cells #[.slice xa c.fields.length ca, .int .i64 c.glob, .slice xf c.funcs.length cf] 25)).alloc (.cells #[.string f.name, .int .i64 f.params, .int .i64 f.locals, .bool f.result, .slice xv f.code.length cv] 39)).alloc (.cells #[.int .i64 (-1)] 3))) := (Upd.refl _ _).alloc _
  have HGH : Hid (gh = w.heap.size + 1 + 1 + 1) := hgh
  have q1 : IntKind.i64.wrap ((f.code.length : Int) / 64) = (f.code.length : Int) / 64 := IntWalk.i64_in _ (by omega)
  have q2 : IntKind.i64.wrap ((f.code.length : Int) / 64 + 1) = (f.code.length : Int) / 64 + 1 := IntWalk.i64_in _ (by omega)
  have hz := HXF.out (((w.alloc (.cells #[.slice xa c.fields.length ca, .int .i64 c.glob, .slice xf c.funcs.length cf] 25)).alloc (.cells #[.string f.name, .int .i64 f.params, .int .i64 f.locals, .bool f.result, .slice xv f.code.length cv] 39)).alloc (.cells #[.int .i64 (-1)] 3)) HEL.out
  have m0 := cellRow hz 0 _ rfl
  have m1 := cellRow hz 1 _ rfl
  have m2 := cellRow hz 2 _ rfl
  have m3 := cellRow hz 3 _ rfl
  have m4 := cellRow hz 4 _ rfl
  clear hz
  clear hz07 hz17 hz27 hi7 hw1 hgh
  go_enter Tryd.func18, Tryd.ntmps18
  go_wp2_with fail
  refine HREP.out.mono ?_
  rintro e w3 ⟨rfl, hb3, h3⟩
  have H3 := Lib.hid (HEL.out.ext h3)
  have HB3 := Lib.hid hb3
  clear hb3 h3 m0 m1 m2 m3 m4
  have hsz3 : gh < w3.heap.size := (Array.getElem?_eq_some_iff.1 HB3.out).1
  have hghw : w.heap.size + 1 + 1 ≤ gh := by have := HGH.out; omega
  obtain ⟨gp, hgp⟩ : ∃ gp, w3.heap.size = gp := ⟨_, rfl⟩
  have HGP := Lib.hid hgp
  obtain ⟨w4, hw4⟩ : ∃ w4, w3.alloc (.cells (madeCells #[.int .u64 0] (f.code.length / 64 + 1)) 77) = w4 := ⟨_, rfl⟩
  have hmk3 := hmk w3
  rw [hgp, hw4] at hmk3
  have hmk4 : (Instr.makeSlice 65 (.int .i64 ((f.code.length : Int) / 64 + 1)) (.int .i64 ((f.code.length : Int) / 64 + 1))).run Tryd.prog w3 = .ok (.slice (some ⟨gp, 0, none⟩) (f.code.length / 64 + 1) (f.code.length / 64 + 1)) w4 := hmk3
  clear hmk3
  have HE4 : Hid (Ext ((w.alloc (.cells #[.slice xa c.fields.length ca, .int .i64 c.glob, .slice xf c.funcs.length cf] 25)).alloc (.cells #[.string f.name, .int .i64 f.params, .int .i64 f.locals, .bool f.result, .slice xv f.code.length cv] 39)) w4) := by rw [← hw4]; exact H3.out.alloc _
  have hAp : Arr w4 gp 77 (words (List.replicate (f.code.length / 64 + 1) 0)) := by
    rw [← hw4, ← hgp, ← words_zero]
    exact Arr.new w3 77 _
  have hAh : Arr w4 gh 3 (ints (List.replicate f.code.length (-1))) := by
    rw [← hw4]
    have e : ints (List.replicate f.code.length (-1)) = List.replicate f.code.length (.int .i64 (-1)) := by simp [ints]
    rw [e]
    exact ⟨_, allocOld HB3.out _, fun j v hv => by rw [← hv]; simp [List.getElem?_replicate, Array.getElem?_replicate]⟩
  have hne : gh ≠ gp := by rw [← hgp]; omega
  have hgpw : w.heap.size + 1 + 1 ≤ gp := by rw [← hgp]; omega
  have a0 := hAh.cell (ints_get (List.replicate f.code.length (-1)) 0 (by simp; omega))
  have a1 := hAh.mark 0
  have a0' : w4.cell? ⟨gh, 0, none⟩ = some (.int .i64 (-1)) := by
    rw [a0]; congr 2
    simp [List.getElem?_replicate]; split <;> simp
  have j0' : (0 : Int) < (f.code.length : Int) := by omega
  have HA5 : Hid (Arr (w4.setCell ⟨gh, 0, none⟩ (.int .i64 0)) gh 3 (ints ((List.replicate f.code.length (-1)).set 0 0))) := by
    have := hAh.set (j := 0) (by rw [ints_len]; simp; omega) (.int .i64 0)
    rw [ints_set] at this
    exact this
  have HP5 := Lib.hid (hAp.kept (updAt (g := gh) (j := 0) (.int .i64 0)) hne.symm)
  have HE5 : Hid (Ext ((w.alloc (.cells #[.slice xa c.fields.length ca, .int .i64 c.glob, .slice xf c.funcs.length cf] 25)).alloc (.cells #[.string f.name, .int .i64 f.params, .int .i64 f.locals, .bool f.result, .slice xv f.code.length cv] 39)) (w4.setCell ⟨gh, 0, none⟩ (.int .i64 0))) := HE4.out.setNew (by simpa using hghw) _
  clear a0 hAp hAh hmk hgp hw4 HE4 HREP HEL
  go_wp2_with fail
  clear hmk4 q1 q2 a0' a1 j0'
  obtain ⟨w5, hw5⟩ : ∃ w5, w4.setCell ⟨gh, 0, none⟩ (.int .i64 0) = w5 := ⟨_, rfl⟩
  rw [hw5] at HA5 HP5 HE5 ⊢
  clear hw5
  have HADD := add_x gp (f.code.length / 64 + 1) (List.replicate (f.code.length / 64 + 1) 0) 0 w5 HP5.out (u64_zero _) (by simp) (by omega)
  have hb1 := fun j => bit_add (List.replicate (f.code.length / 64 + 1) 0) 0 j (by simp)
  have hu1 := u64s_add (List.replicate (f.code.length / 64 + 1) 0) 0 (u64_zero _)
  have hl1' : ((List.replicate (f.code.length / 64 + 1) 0).set (0 / 64) ((List.replicate (f.code.length / 64 + 1) 0).getD (0 / 64) 0 ||| 2 ^ (0 % 64))).length = (f.code.length / 64 + 1) := by simp
  obtain ⟨ws1, hws1⟩ : ∃ ws1, (List.replicate (f.code.length / 64 + 1) 0).set (0 / 64) ((List.replicate (f.code.length / 64 + 1) 0).getD (0 / 64) 0 ||| 2 ^ (0 % 64)) = ws1 := ⟨_, rfl⟩
  rw [hws1] at HADD hb1 hu1 hl1'
  rw [List.length_replicate] at HADD
  have HB1 : Hid (∀ j, bitOf ws1 j = decide (j = 0)) := fun j => by rw [hb1, bit_zero, Bool.or_false]
  have HU1 := Lib.hid hu1
  have HL1 := Lib.hid hl1'
  clear hws1 hb1 hu1 hl1'
  refine HADD.mono ?_
  rintro e w6 ⟨rfl, hp6, hu6⟩
  have HP6 := Lib.hid hp6
  have HA6 := Lib.hid (HA5.out.kept hu6 hne)
  have HE6 : Hid (Ext ((w.alloc (.cells #[.slice xa c.fields.length ca, .int .i64 c.glob, .slice xf c.funcs.length cf] 25)).alloc (.cells #[.string f.name, .int .i64 f.params, .int .i64 f.locals, .bool f.result, .slice xv f.code.length cv] 39)) w6) := HE5.out.trans' hu6 (fun j hj e => by simp at hj; omega)
  clear hp6 hu6 HADD HP5 HA5 HE5
  go_wp2_with fail
  have HNX := next_x gp (f.code.length / 64 + 1) ws1 0 w6 HP6.out HU1.out (by rw [HL1.out]; omega) (by omega) (fun W hW => HTB.out W ((HE0.out.ext HE6.out).trans' hW (fun j hj e => by omega)))
  rw [HL1.out] at HNX
  refine HNX.mono ?_
  rintro e w7 ⟨r, ws2, rfl, hp7, hl2', hu2, hup, hcase⟩
  have HP7 := Lib.hid hp7
  have HU2 := Lib.hid hu2
  have hl2'' : ws2.length = (f.code.length / 64 + 1) := hl2'.trans HL1.out
  have HA7 := Lib.hid (HA6.out.kept hup hne)
  have HE7 : Hid (Ext ((w.alloc (.cells #[.slice xa c.fields.length ca, .int .i64 c.glob, .slice xf c.funcs.length cf] 25)).alloc (.cells #[.string f.name, .int .i64 f.params, .int .i64 f.locals, .bool f.result, .slice xv f.code.length cv] 39)) w7) := HE6.out.trans' hup (fun j hj e => by simp at hj; omega)
  have hr0 : r = 0 ∧ ∀ j, bitOf ws2 j = false := by
    rcases hcase with ⟨_, _, hz⟩ | ⟨k, hk, _, hbk, _, hb2⟩
    · have := hz 0 (by omega)
      rw [HB1.out] at this
      simp at this
    · rw [HB1.out] at hbk
      have hk0 : k = 0 := of_decide_eq_true hbk
      subst hk0
      refine ⟨hk, fun j => ?_⟩
      rw [hb2, HB1.out]
      by_cases e : j = 0 <;> simp [e]
  obtain ⟨rfl, hb2⟩ := hr0
  have HB2 := Lib.hid hb2
  clear hcase hup hp7 hu2 hl2' hb2 HNX HP6 HA6 HE6 HB1 HU1 HL1 HB3 H3 hsz3
  have hgetL : ∀ j, ((List.replicate f.code.length (-1 : Int)).set 0 0).getD j (-1) = if j = 0 then 0 else -1 := fun j => by
    rw [getD_set_int _ _ _ _ (by simp; omega)]
    by_cases e : j = 0
    · rw [if_pos e, if_pos e]
    · rw [if_neg e, if_neg e]; simp [List.getElem?_replicate]; split <;> simp
  have hgetD : ∀ j, j < f.code.length → (List.replicate f.code.length false).getD j true = false := fun j hj => by simp [hj]
  have HST0 : Hid (((List.replicate f.code.length (-1)).set 0 0).length = f.code.length ∧ (List.replicate f.code.length false).length = f.code.length ∧ cntF (List.replicate f.code.length false) < (f.code.length + 1) ∧ (f.code.length + 1) ≤ f.code.length + 1 ∧ Hid (hts c f (f.code.length + 1) ((List.replicate f.code.length (-1)).set 0 0) (List.replicate f.code.length false) = (xl, xa', xe)) ∧ Hid (∀ j, -1 ≤ ((List.replicate f.code.length (-1)).set 0 0).getD j (-1) ∧ ((List.replicate f.code.length (-1)).set 0 0).getD j (-1) ≤ 2 * ((f.code.length : Int) + 1 - (f.code.length + 1))) ∧ Hid (∀ j, j < f.code.length → (List.replicate f.code.length false).getD j true = true → 0 ≤ ((List.replicate f.code.length (-1)).set 0 0).getD j (-1)) ∧ Hid ((((0 : Int) = -1 ∧ ∀ j, pend ((List.replicate f.code.length (-1)).set 0 0) (List.replicate f.code.length false) j = false) ∨ ∃ k : Nat, (0 : Int) = k ∧ k < f.code.length ∧ pend ((List.replicate f.code.length (-1)).set 0 0) (List.replicate f.code.length false) k = true ∧ ∀ j, j < k → pend ((List.replicate f.code.length (-1)).set 0 0) (List.replicate f.code.length false) j = false)) ∧ Hid (∀ j, bitOf ws2 j = (pend ((List.replicate f.code.length (-1)).set 0 0) (List.replicate f.code.length false) j && decide ((j : Int) ≠ (0 : Int)))) ∧ Hid (Arr w7 gh 3 (ints ((List.replicate f.code.length (-1)).set 0 0))) ∧ Hid (Arr w7 gp 77 (words ws2)) ∧ ws2.length = (f.code.length / 64 + 1) ∧ Hid (U64s ws2) ∧ Hid (Ext ((w.alloc (.cells #[.slice xa c.fields.length ca, .int .i64 c.glob, .slice xf c.funcs.length cf] 25)).alloc (.cells #[.string f.name, .int .i64 f.params, .int .i64 f.locals, .bool f.result, .slice xv f.code.length cv] 39)) w7)) := by
    refine ⟨by simp, by simp, by have := cntF_le (List.replicate f.code.length false); simp at this; omega, Nat.le_refl _, HX0, fun j => ?_, fun j hj hd => ?_, .inr ⟨0, rfl, hL1, ?_, fun j hj => by omega⟩, fun j => ?_, HA7.out, HP7.out, hl2'', HU2.out, HE7.out⟩
    · rw [hgetL]; split <;> omega
    · rw [hgetD j hj] at hd; cases hd
    · unfold pend; rw [hgetL, if_pos rfl, hgetD 0 (by omega)]; rfl
    · rw [HB2.out]
      unfold pend
      rw [hgetL]
      by_cases e : j = 0
      · subst e; simp
      · rw [if_neg e]; rfl
  clear HA7 HP7 hl2'' HU2 HE7 HB2 HX0 hgetL hgetD HGP
  go_wp2_with fail
  go_loopg [9, 10, 11, 12, 13, 14, 15, 17] (f.code.length + 1) (fun gk _ s10 _ _ _ _ _ _ wr => ∃ (h : List Int) (d : List Bool) (ws : List Nat) (at_ : Int), s10 = .int .i64 at_ ∧ h.length = f.code.length ∧ d.length = f.code.length ∧ cntF d < gk ∧ gk ≤ f.code.length + 1 ∧ Hid (hts c f gk h d = (xl, xa', xe)) ∧ Hid (∀ j, -1 ≤ h.getD j (-1) ∧ h.getD j (-1) ≤ 2 * ((f.code.length : Int) + 1 - gk)) ∧ Hid (∀ j, j < f.code.length → d.getD j true = true → 0 ≤ h.getD j (-1)) ∧ Hid (((at_ = -1 ∧ ∀ j, pend h d j = false) ∨ ∃ k : Nat, at_ = k ∧ k < f.code.length ∧ pend h d k = true ∧ ∀ j, j < k → pend h d j = false)) ∧ Hid (∀ j, bitOf ws j = (pend h d j && decide ((j : Int) ≠ at_))) ∧ Hid (Arr wr gh 3 (ints h)) ∧ Hid (Arr wr gp 77 (words ws)) ∧ ws.length = (f.code.length / 64 + 1) ∧ Hid (U64s ws) ∧ Hid (Ext ((w.alloc (.cells #[.slice xa c.fields.length ca, .int .i64 c.glob, .slice xf c.funcs.length cf] 25)).alloc (.cells #[.string f.name, .int .i64 f.params, .int .i64 f.locals, .bool f.result, .slice xv f.code.length cv] 39)) wr))
  case atStart => exact ⟨_, _, ws2, 0, rfl, HST0.out⟩
  case round =>
    obtain ⟨h, d, ws, at_, rfl, hhl, hdl, hcnt, hgk, HX, HBD, HDN, HAT, HBI, HA, HP, hwl, HU, HE⟩ := hrel
    clear HST0
    rcases HAT.out with ⟨rfl, hnone⟩ | ⟨k, rfl, hkl, hpk, hpl⟩
    · have hx := HX.out
      obtain ⟨gk', rfl⟩ : ∃ g', gk = g' + 1 := ⟨gk - 1, by omega⟩
      unfold hts at hx
      rw [if_pos (by rw [hhl]; exact fst1_is _ _ _ _ (by omega) (by omega) (fun i _ _ => hnone i) (fun hlt => by omega))] at hx
      injection hx with q1 q2
      injection q2 with q2 q3
      subst q1; subst q2; subst q3
      have hs : SlR Any1 wr 1 (.slice (some ⟨gh, 0, none⟩) f.code.length f.code.length) h.length (ints h) := by
        have := HA.out.slR (cap := f.code.length) (by rw [ints_len, hhl]; exact Nat.le_refl _) (S := Any1) trivial
        rw [ints_len, hhl] at this
        rw [hhl]; exact this
      have HS := Lib.hid hs
      clear HX HA HP HAT HBI hs hnone HBD HDN
      go_wp2_with fail
      exact bodyPost_ret (v := .tuple #[.slice (some ⟨gh, 0, none⟩) f.code.length f.code.length, .int .i64 0, .int .i64 0]) (by simp [results, Tryd.results18, go_sem]) rfl ⟨_, rfl, HS.out, HE0.out.ext HE.out⟩
    · obtain ⟨hy0, hdk⟩ := pend_parts hpk
      obtain ⟨y, hy⟩ : ∃ y, h.getD k (-1) = y := ⟨_, rfl⟩
      rw [hy] at hy0
      have hfst : fst1 (pend h d) h.length 0 = k := fst1_is _ _ _ _ (by omega) (by omega) (fun i _ hi => hpl i hi) (fun _ => hpk)
      obtain ⟨op, hop⟩ : ∃ op, (f.code.getD k (0, 0)).1 = op := ⟨_, rfl⟩
      obtain ⟨x, hxx⟩ : ∃ x, (f.code.getD k (0, 0)).2 = x := ⟨_, rfl⟩
      have hr := HRT.out k hkl
      rw [hop, hxx] at hr
      obtain ⟨pops, hpp⟩ : ∃ p, (mvP c f op x).1 = p := ⟨_, rfl⟩
      obtain ⟨push, hpu⟩ : ∃ p, (mvP c f op x).2 = p := ⟨_, rfl⟩
      obtain ⟨v0, v1, v2, v3⟩ := HMB.out op x hr
      rw [hpp] at v0 v1
      rw [hpu] at v2 v3
      obtain ⟨gk', rfl⟩ : ∃ g', gk = g' + 1 := ⟨gk - 1, by omega⟩
      obtain ⟨⟨E, h'⟩, hsuc⟩ : ∃ r, suc (y - pops + push) (nxt op x k) h = r := ⟨_, rfl⟩
      have HST : Hid ((if y < pops then (([] : List Int), (k : Int), (14 : Int)) else if op = 10 ∧ pops < y then ([], (k : Int), 3) else if E = 0 then hts c f gk' h' (d.set k true) else ([], (k : Int), E)) = (xl, xa', xe)) := by
        have hx := HX.out
        rw [hts_step c f gk' h d k op x pops push y E h' hfst (by rw [← hop, ← hxx]) (by rw [← hpp, ← hpu]) hy hsuc, if_neg (by omega)] at hx
        exact hx
      obtain ⟨y0, y1⟩ := HBD.out k
      rw [hy] at y0 y1
      have hcs := cntF_set d k hdk
      have HBDD : Hid (∀ j, -1 ≤ h.getD j (-1) ∧ h.getD j (-1) ≤ 2 * ((f.code.length : Int) + 1 - gk')) := fun j => by have := HBD.out j; omega
      have HDN2 : Hid (∀ j, j < f.code.length → (d.set k true).getD j true = true → 0 ≤ h.getD j (-1)) := fun j hj hd => by
        rw [getD_set_bool _ _ _ _ (by omega)] at hd
        by_cases e : j = k
        · subst e; rw [hy]; exact hy0
        · rw [if_neg e] at hd; exact HDN.out j hj hd
      have HBI2 : Hid (∀ j, bitOf ws j = pend h (d.set k true) j) := fun j => by
        rw [HBI.out]
        unfold pend
        rw [getD_set_bool _ _ _ _ (by omega)]
        by_cases e : j = k
        · subst e; simp
        · rw [if_neg e, decide_eq_true (by omega : (j : Int) ≠ (k : Int)), Bool.and_true]
      have HWD : Hid (∀ j, bitOf ws j = true → 64 * (k / 64) ≤ j) := fun j hj => by
        rw [HBI.out] at hj
        simp only [Bool.and_eq_true, decide_eq_true_eq] at hj
        rcases Nat.lt_or_ge j k with q | q
        · rw [hpl j q] at hj; simp at hj
        · omega
      have HCK := Lib.hid hcs
      obtain ⟨gi, oi, hxi, d0, d1⟩ := HINS.out wr HE.out k hkl
      rw [hop] at d0
      rw [hxx] at d1
      subst hxi
      have HW5 : Hid (Ext ((w.alloc (.cells #[.slice xa c.fields.length ca, .int .i64 c.glob, .slice xf c.funcs.length cf] 25)).alloc (.cells #[.string f.name, .int .i64 f.params, .int .i64 f.locals, .bool f.result, .slice (some ⟨gi, oi, none⟩) f.code.length cv] 39)) (wr.alloc (.cells #[.int .i64 op, .int .i64 x] 46))) := HE.out.alloc _
      have HUM : Hid (Ext wr (wr.alloc (.cells #[.int .i64 op, .int .i64 x] 46))) := (Upd.refl _ _).alloc _
      have hMV : Hid (∀ W, Ext ((w.alloc (.cells #[.slice xa c.fields.length ca, .int .i64 c.glob, .slice xf c.funcs.length cf] 25)).alloc (.cells #[.string f.name, .int .i64 f.params, .int .i64 f.locals, .bool f.result, .slice (some ⟨gi, oi, none⟩) f.code.length cv] 39)) W → Calls Tryd.prog 34 #[.agg #[.slice xa c.fields.length ca, .int .i64 c.glob, .slice xf c.funcs.length cf], .agg #[.string f.name, .int .i64 f.params, .int .i64 f.locals, .bool f.result, .slice (some ⟨gi, oi, none⟩) f.code.length cv], .agg #[.int .i64 op, .int .i64 x]] W fun e w' => e = .returned (.tuple #[.int .i64 pops, .int .i64 push]) ∧ Ext W w') := fun W hW => by
        have := moves_x _ _ c f op x W (HN.out.kept (HE0.out.ext hW)) (HFN.out.kept (HE0.out.ext hW)) hr
        rw [HXV.out, hpp, hpu] at this
        exact this
      have hz := HXF.out wr HE.out
      have m0 := cellRow hz 0 _ rfl
      have m1 := cellRow hz 1 _ rfl
      have m2 := cellRow hz 2 _ rfl
      have m3 := cellRow hz 3 _ rfl
      have m4 := cellRow hz 4 _ rfl
      clear hz
      have hz := HXA.out (wr.alloc (.cells #[.int .i64 op, .int .i64 x] 46)) HW5.out
      have k0 := cellRow hz 0 _ rfl
      have k1 := cellRow hz 1 _ rfl
      have k2 := cellRow hz 2 _ rfl
      have hz := HXF.out (wr.alloc (.cells #[.int .i64 op, .int .i64 x] 46)) HW5.out
      have l0 := cellRow hz 0 _ rfl
      have l1 := cellRow hz 1 _ rfl
      have l2 := cellRow hz 2 _ rfl
      have l3 := cellRow hz 3 _ rfl
      have l4 := cellRow hz 4 _ rfl
      have HIB : Hid (∀ W, Ext (wr.alloc (.cells #[.int .i64 op, .int .i64 x] 46)) W → W.heap[wr.heap.size]? = some (.cells #[.int .i64 op, .int .i64 x] 46)) := fun W hW => hW.heap (alloc0 wr _) (fun h => h)
      have hz := HIB.out (wr.alloc (.cells #[.int .i64 op, .int .i64 x] 46)) (Upd.refl _ _)
      have n0 := cellRow hz 0 _ rfl
      have n1 := cellRow hz 1 _ rfl
      have i0' : (0 : Int) ≤ (k : Int) := by omega
      have i1' : (k : Int) < (f.code.length : Int) := by omega
      have z1 : IntKind.i64.wrap ((k : Int) / 64) = (k : Int) / 64 := IntWalk.i64_in _ (by omega)
      have HY := Lib.hid hy
      have HSU := Lib.hid hsuc
      have HHR := Lib.hid hr
      have HDK := Lib.hid hdk
      clear hz hop hxx hpp hpu hsuc hy hr hfst HX HBD HDN HBI HAT hdk hcs hpk hpl
      go_wp2_with fail
      refine (hMV.out _ HW5.out).mono ?_
      rintro e w6 ⟨rfl, h6⟩
      have HE6 := Lib.hid (HW5.out.ext h6)
      have HA6 := Lib.hid ((HA.out.kept HUM.out (fun h => h)).kept h6 (fun h => h))
      have HP6 := Lib.hid ((HP.out.kept HUM.out (fun h => h)).kept h6 (fun h => h))
      have a6 := HA6.out.cell (ints_get h k (by omega))
      rw [HY.out] at a6
      have hz := HIB.out w6 h6
      have hsw6 : wr.heap.size + 1 ≤ w6.heap.size := by have := h6.size; simpa using this
      clear k0 k1 k2 l0 l1 l2 l3 l4 m0 m1 m2 m3 m4 n0 n1 d0 d1 h6 HA HP HE HUM hMV HW5
      have n0 := cellRow hz 0 _ rfl
      have n1 := cellRow hz 1 _ rfl
      have hsz6 : w.heap.size + 1 + 1 ≤ w6.heap.size := by have := HE6.out.size; simpa using this
      have hgh6 := HA6.out.lt
      have hgp6 := HP6.out.lt
      clear hz
      by_cases r1 : y < pops
      · have hx := HST.out
        rw [if_pos r1] at hx
        injection hx with q1 q2
        injection q2 with q2 q3
        subst q1; subst q2; subst q3
        clear HST
        clear HSU
        go_wp2_with fail
        exact bodyPost_ret (v := .tuple #[.slice none 0 0, .int .i64 k, .int .i64 14]) (by simp [results, Tryd.results18, go_sem]) rfl ⟨_, rfl, SlR.nil _ _ _, HE0.out.ext HE6.out⟩
      · by_cases r2 : op = 10
        · by_cases r3 : pops < y
          · have hx := HST.out
            rw [if_neg r1, if_pos ⟨r2, r3⟩] at hx
            injection hx with q1 q2
            injection q2 with q2 q3
            subst q1; subst q2; subst q3
            clear HST
            clear HSU
            subst r2
            go_wp2_with fail
            exact bodyPost_ret (v := .tuple #[.slice none 0 0, .int .i64 k, .int .i64 3]) (by simp [results, Tryd.results18, go_sem]) rfl ⟨_, rfl, SlR.nil _ _ _, HE0.out.ext HE6.out⟩
          · have HC : Hid ((if E = 0 then hts c f gk' h' (d.set k true) else ([], (k : Int), E)) = (xl, xa', xe)) := by
              have hx := HST.out
              rw [if_neg r1, if_neg (fun q => r3 q.2)] at hx
              exact hx
            clear HST
            subst r2
            have hnl : nxt 10 x k = [] := by unfold nxt; rfl
            have HSUL : Hid (suc (y - pops + push) [] h = (E, h')) := by rw [← hnl]; exact HSU.out
            have HNN : Hid (∀ q ∈ ([] : List Int), (0 : Int) ≤ q) := by rw [← hnl]; exact nxt_nn HHR.out
            have HON : Hid (w6.ownsRow w6.heap.size 3 1 (.slice none 0 0) 0 []) := World.ownsRow_nil _ _ _ _
            clear hnl HSU
            have HNS : Hid (SlR (fun b => w6.heap.size ≤ b) w6 1 (.slice none 0 0) 0 (ints [])) := SlR.nil _ _ _
            have HNL : Hid (suc (y - pops + push) [] h = (E, h')) := HSUL.out
            have HK0 : Hid (((k / 64 : Nat) : Int) = (k : Int) / 64) := rfl
            clear HSUL
            go_wp2_with fail
            clear n0 n1 a6
            obtain ⟨wb, hwb⟩ : ∃ wb, wb = wr := ⟨_, rfl⟩
            subst hwb
            go_loopg [9, 17, 110] 0 (fun gk3 s9 _ s110 wr => ∃ (i : Nat) (h2 : List Int) (ws2 : List Nat) (wd : Nat), s110 = .int .i64 i ∧ s9 = .int .i64 wd ∧ gk3 = 0 - i ∧ i ≤ 0 ∧ h2.length = f.code.length ∧ wd ≤ 2000000 ∧ Hid (suc (y - pops + push) (([] : List Int).drop i) h2 = (E, h')) ∧ Hid (∀ j, -1 ≤ h2.getD j (-1) ∧ h2.getD j (-1) ≤ 2 * ((f.code.length : Int) + 1 - gk')) ∧ Hid (∀ j, j < f.code.length → (d.set k true).getD j true = true → 0 ≤ h2.getD j (-1)) ∧ Hid (∀ j, bitOf ws2 j = pend h2 (d.set k true) j) ∧ Hid (∀ j, bitOf ws2 j = true → 64 * wd ≤ j) ∧ Hid (Arr wr gh 3 (ints h2)) ∧ Hid (Arr wr gp 77 (words ws2)) ∧ ws2.length = (f.code.length / 64 + 1) ∧ Hid (U64s ws2) ∧ Hid (SlR (fun b => w6.heap.size ≤ b) wr 1 (.slice none 0 0) 0 (ints [])) ∧ Hid (Ext ((w.alloc (.cells #[.slice xa c.fields.length ca, .int .i64 c.glob, .slice xf c.funcs.length cf] 25)).alloc (.cells #[.string f.name, .int .i64 f.params, .int .i64 f.locals, .bool f.result, .slice (some ⟨gi, oi, none⟩) f.code.length cv] 39)) wr))
            case atStart => exact ⟨0, h, ws, k / 64, rfl, rfl, rfl, Nat.zero_le _, hhl, by omega, HNL.out, HBDD.out, HDN2.out, HBI2.out, HWD.out, HA6.out, HP6.out, hwl, HU.out, HNS.out, HE6.out⟩
            case round =>
              obtain ⟨i, h2, ws2, wd, rfl, rfl, rfl, hi, hl2, hwd, HSk, HBDk, HDNk, HBIk, HWDk, HAk, HPk, hwl2, HUk, HNk, HEk⟩ := hrel
              by_cases hil : i < 0
              · omega
              · obtain rfl : i = 0 := by omega
                have hsu := HSk.out
                rw [show ([] : List Int).drop 0 = [] from rfl] at hsu
                unfold suc at hsu
                injection hsu with u1 u2
                subst u1; subst u2
                have HX2 : Hid (hts c f gk' h2 (d.set k true) = (xl, xa', xe)) := by
                  have hx := HC.out
                  rw [if_pos rfl] at hx
                  exact hx
                have HNX := next_x gp (f.code.length / 64 + 1) ws2 wd wr HPk.out HUk.out (by rw [hwl2]; omega) hwd (fun W hW => HTB.out W ((HE0.out.ext HEk.out).trans' hW (fun j hj e => by omega)))
                rw [hwl2] at HNX
                have HNXH := Lib.hid HNX
                clear HC HSk HNX
                go_wp2_with fail
                refine HNXH.out.mono ?_
                rintro e w7 ⟨r, ws4, rfl, hp7, hl4, hu4, hup, hcase⟩
                have HP7 := Lib.hid hp7
                have HU4 := Lib.hid hu4
                have hl4' : ws4.length = (f.code.length / 64 + 1) := hl4.trans hwl2
                have HA7 := Lib.hid (HAk.out.kept hup hne)
                have HE7 : Hid (Ext ((w.alloc (.cells #[.slice xa c.fields.length ca, .int .i64 c.glob, .slice xf c.funcs.length cf] 25)).alloc (.cells #[.string f.name, .int .i64 f.params, .int .i64 f.locals, .bool f.result, .slice (some ⟨gi, oi, none⟩) f.code.length cv] 39)) w7) := HEk.out.trans' hup (fun j hj e => by simp at hj; omega)
                have HFIN : Hid ((((r = -1 ∧ ∀ j, pend h2 (d.set k true) j = false) ∨ ∃ k2 : Nat, r = k2 ∧ k2 < f.code.length ∧ pend h2 (d.set k true) k2 = true ∧ ∀ j, j < k2 → pend h2 (d.set k true) j = false)) ∧ ∀ j, bitOf ws4 j = (pend h2 (d.set k true) j && decide ((j : Int) ≠ r))) := by
                  rcases hcase with ⟨hr, hws, hz⟩ | ⟨k2, hr, _, hb2, hlo, hb4⟩
                  · subst hr; subst hws
                    have hall : ∀ j, pend h2 (d.set k true) j = false := fun j => by
                      cases hz2 : pend h2 (d.set k true) j with
                      | false => rfl
                      | true =>
                        have q := HBIk.out j
                        rw [hz2] at q
                        have := hz j (HWDk.out j q)
                        rw [this] at q; cases q
                    exact ⟨.inl ⟨rfl, hall⟩, fun j => by rw [HBIk.out, hall]; rfl⟩
                  · subst hr
                    have hp2 : pend h2 (d.set k true) k2 = true := (HBIk.out k2).symm.trans hb2
                    refine ⟨.inr ⟨k2, rfl, ?_, hp2, fun j hj => ?_⟩, fun j => ?_⟩
                    · rcases Nat.lt_or_ge k2 f.code.length with q | q
                      · exact q
                      · rw [pend_out _ _ _ (by omega)] at hp2; cases hp2
                    · rw [← HBIk.out]
                      cases hz2 : bitOf ws2 j with
                      | false => rfl
                      | true => rw [hlo j (HWDk.out j hz2) hj] at hz2; cases hz2
                    · rw [hb4, HBIk.out]
                      congr 1
                      rw [decide_eq_decide]
                      omega
                clear hcase hp7 hu4 hup HNXH hl4
                go_wp2_with fail
                go_roundg gk'
                case measure => omega
                case rel => exact ⟨h2, _, ws4, r, rfl, hl2, by simp [hdl], by have := HCK.out; omega, by omega, HX2, HBDk, HDNk, HFIN.out.1, HFIN.out.2, HA7, HP7, hl4', HU4, HE7⟩
        · have HC : Hid ((if E = 0 then hts c f gk' h' (d.set k true) else ([], (k : Int), E)) = (xl, xa', xe)) := by
            have hx := HST.out
            rw [if_neg r1, if_neg (fun q => r2 q.1)] at hx
            exact hx
          clear HST
          by_cases r3 : op = 11
          · subst r3
            have hnl : nxt 11 x k = [x] := by unfold nxt; rfl
            have HSUL : Hid (suc (y - pops + push) [x] h = (E, h')) := by rw [← hnl]; exact HSU.out
            have HNN : Hid (∀ q ∈ ([x] : List Int), (0 : Int) ≤ q) := by rw [← hnl]; exact nxt_nn HHR.out
            have HON : Hid (w6.ownsRow w6.heap.size 3 1 (.slice none 0 0) 0 []) := World.ownsRow_nil _ _ _ _
            clear hnl HSU
            go_wp2_with (at_builtin; refine wpList_append_at _ rfl (.tmp 95) (.tmp 98) 22 rfl (w6.heap.size) 3 i3 (.int .i64 0) 1 8 Tryd.underlying22 hi3 hz03 hz13 hz23 rfl (by decide) _ _ _ rfl (HON.out.alloc _) ⟨w6.heap.size, 0, none⟩ 1 1 [.int .i64 x] rfl rfl ?c1 ?c2 ?c3 ?c4 ?c5 ?_)
            case c1 =>
              intro j u hj
              match j, hj with
              | 0, hj => simp at hj; subst hj; simp [Addr.add]
            case c2 => intro u hu; simp at hu; subst hu; rfl
            case c3 => unfold maxLen; omega
            case c4 => omega
            case c5 => first | (simp; done) | (simp; omega)
            intro v1' w7 hG
            have hu7 : Upd (fun q => (Value.slice none 0 0).ownBlock = some q) w6 w7 := ((Upd.refl _ w6).alloc _).trans hG.upd
            have HE7 : Hid (Ext ((w.alloc (.cells #[.slice xa c.fields.length ca, .int .i64 c.glob, .slice xf c.funcs.length cf] 25)).alloc (.cells #[.string f.name, .int .i64 f.params, .int .i64 f.locals, .bool f.result, .slice (some ⟨gi, oi, none⟩) f.code.length cv] 39)) w7) := upd_grown_new (HE6.out.alloc _) hG.grown (fun q e => by cases e)
            have HA7 := Lib.hid (HA6.out.kept hu7 (fun e => by cases e))
            have HP7 := Lib.hid (HP6.out.kept hu7 (fun e => by cases e))
            have HO7 : Hid (w7.ownsRow w6.heap.size 3 1 v1' 1 (ints [x])) := hG.own
            obtain ⟨oA1, oC1, hv1⟩ := own_shape HO7.out
            subst hv1
            have n0 := (hu7.cell n0 (fun e => by cases e))
            have n1 := (hu7.cell n1 (fun e => by cases e))
            have a6 := (hu7.cell a6 (fun e => by cases e))
            have HNS : Hid (SlR (fun b => w6.heap.size ≤ b) w7 1 (.slice oA1 1 oC1) 1 (ints [x])) := (SlR.of_own HO7.out).weaken (fun q e => (HO7.out.lt q e).1)
            clear hG hu7
            have HNL : Hid (suc (y - pops + push) [x] h = (E, h')) := HSUL.out
            have HK0 : Hid (((k / 64 : Nat) : Int) = (k : Int) / 64) := rfl
            clear HSUL
            go_wp2_with fail
            clear n0 n1 a6
            obtain ⟨wb, hwb⟩ : ∃ wb, wb = wr := ⟨_, rfl⟩
            subst hwb
            go_loopg [9, 17, 110] 1 (fun gk3 s9 _ s110 wr => ∃ (i : Nat) (h2 : List Int) (ws2 : List Nat) (wd : Nat), s110 = .int .i64 i ∧ s9 = .int .i64 wd ∧ gk3 = 1 - i ∧ i ≤ 1 ∧ h2.length = f.code.length ∧ wd ≤ 2000000 ∧ Hid (suc (y - pops + push) (([x] : List Int).drop i) h2 = (E, h')) ∧ Hid (∀ j, -1 ≤ h2.getD j (-1) ∧ h2.getD j (-1) ≤ 2 * ((f.code.length : Int) + 1 - gk')) ∧ Hid (∀ j, j < f.code.length → (d.set k true).getD j true = true → 0 ≤ h2.getD j (-1)) ∧ Hid (∀ j, bitOf ws2 j = pend h2 (d.set k true) j) ∧ Hid (∀ j, bitOf ws2 j = true → 64 * wd ≤ j) ∧ Hid (Arr wr gh 3 (ints h2)) ∧ Hid (Arr wr gp 77 (words ws2)) ∧ ws2.length = (f.code.length / 64 + 1) ∧ Hid (U64s ws2) ∧ Hid (SlR (fun b => w6.heap.size ≤ b) wr 1 (.slice oA1 1 oC1) 1 (ints [x])) ∧ Hid (Ext ((w.alloc (.cells #[.slice xa c.fields.length ca, .int .i64 c.glob, .slice xf c.funcs.length cf] 25)).alloc (.cells #[.string f.name, .int .i64 f.params, .int .i64 f.locals, .bool f.result, .slice (some ⟨gi, oi, none⟩) f.code.length cv] 39)) wr))
            case atStart => exact ⟨0, h, ws, k / 64, rfl, rfl, rfl, Nat.zero_le _, hhl, by omega, HNL.out, HBDD.out, HDN2.out, HBI2.out, HWD.out, HA7.out, HP7.out, hwl, HU.out, HNS.out, HE7.out⟩
            case round =>
              obtain ⟨i, h2, ws2, wd, rfl, rfl, rfl, hi, hl2, hwd, HSk, HBDk, HDNk, HBIk, HWDk, HAk, HPk, hwl2, HUk, HNk, HEk⟩ := hrel
              by_cases hil : i < 1
              · obtain ⟨gx, ox, cx, hvx, hcx, hSx, hjx⟩ := HNk.out.pos (by omega)
                injection hvx with q1 q2 q3
                subst q1; subst q3
                obtain ⟨q, hq⟩ : ∃ q, ([x] : List Int).getD i (-1) = q := ⟨_, rfl⟩
                have hnl' : ([x] : List Int).length = 1 := rfl
                have c0 := hjx i (by omega)
                rw [ints_get [x] i hil, hq] at c0
                have hq0 : 0 ≤ q := HNN.out q (by rw [← hq, List.getD_eq_getElem?_getD, List.getElem?_eq_getElem (by omega)]; exact List.getElem_mem _)
                have hdr : ([x] : List Int).drop i = q :: ([x] : List Int).drop (i + 1) := by
                  rw [List.drop_eq_getElem_cons (by omega), ← hq, List.getD_eq_getElem?_getD, List.getElem?_eq_getElem (by omega)]; rfl
                have j0' : (0 : Int) ≤ (i : Int) := by omega
                have j1' : (i : Int) < 1 := by omega
                clear hjx q2 hq hSx hnl'
                by_cases s1 : (f.code.length : Int) ≤ q
                · have hsu := HSk.out
                  rw [hdr] at hsu
                  unfold suc at hsu
                  rw [if_pos (by omega)] at hsu
                  injection hsu with u1 u2
                  subst u1; subst u2
                  have hx := HC.out
                  rw [if_neg (by decide)] at hx
                  injection hx with q1 q2
                  injection q2 with q2 q3
                  subst q1; subst q2; subst q3
                  clear HC HSk hdr
                  go_wp2_with fail
                  exact bodyPost_ret (v := .tuple #[.slice none 0 0, .int .i64 k, .int .i64 8]) (by simp [results, Tryd.results18, go_sem]) rfl ⟨_, rfl, SlR.nil _ _ _, HE0.out.ext HEk.out⟩
                · obtain ⟨t, rfl⟩ : ∃ t : Nat, q = t := ⟨q.toNat, by omega⟩
                  have a2 := HAk.out.cell (ints_get h2 t (by omega))
                  have a4 := HAk.out.mark t
                  obtain ⟨hv, hhv⟩ : ∃ hv, h2.getD t (-1) = hv := ⟨_, rfl⟩
                  rw [hhv] at a2
                  have t0' : (0 : Int) ≤ (t : Int) := by omega
                  have t1' : (t : Int) < (f.code.length : Int) := by omega
                  by_cases s2 : 0 ≤ hv
                  · by_cases s3 : hv = (y - pops + push)
                    · have HSk2 : Hid (suc (y - pops + push) (([x] : List Int).drop (i + 1)) h2 = (E, h')) := by
                        have hsu := HSk.out
                        rw [hdr] at hsu
                        unfold suc at hsu
                        rw [if_neg (by omega), if_neg (by rw [Int.toNat_natCast, hhv]; exact fun z => z.2 s3), Int.toNat_natCast, set_same h2 t _ (by omega) (hhv.trans s3)] at hsu
                        exact hsu
                      have s5 : (hv == (y - pops + push)) = true := beq_iff_eq.2 s3
                      have s6 : (hv != (y - pops + push)) = false := by rw [s3]; simp
                      have s5' : ((y - pops + push) == (y - pops + push)) = true := beq_iff_eq.2 rfl
                      have s7 : ¬ (hv < 0) := by omega
                      clear HSk hdr hhv s3
                      go_wp2_with fail
                      go_roundg (1 - (i + 1))
                      case measure => omega
                      case rel => exact ⟨i + 1, h2, ws2, wd, by go_num, rfl, rfl, by omega, hl2, hwd, HSk2, HBDk, HDNk, HBIk, HWDk, HAk, HPk, hwl2, HUk, HNk, HEk⟩
                    · have hsu := HSk.out
                      rw [hdr] at hsu
                      unfold suc at hsu
                      rw [if_neg (by omega), if_pos (by rw [Int.toNat_natCast, hhv]; exact ⟨s2, s3⟩)] at hsu
                      injection hsu with u1 u2
                      subst u1; subst u2
                      have hx := HC.out
                      rw [if_neg (by decide)] at hx
                      injection hx with q1 q2
                      injection q2 with q2 q3
                      subst q1; subst q2; subst q3
                      clear HC HSk hdr
                      have s5 : (hv == (y - pops + push)) = false := beq_eq_false_iff_ne.2 s3
                      have s6 : (hv != (y - pops + push)) = true := bne_iff_ne.2 s3
                      clear hhv
                      go_wp2_with fail
                      exact bodyPost_ret (v := .tuple #[.slice none 0 0, .int .i64 k, .int .i64 13]) (by simp [results, Tryd.results18, go_sem]) rfl ⟨_, rfl, SlR.nil _ _ _, HE0.out.ext HEk.out⟩
                  · have HSk2 : Hid (suc (y - pops + push) (([x] : List Int).drop (i + 1)) (h2.set t (y - pops + push)) = (E, h')) := by
                      have hsu := HSk.out
                      rw [hdr] at hsu
                      unfold suc at hsu
                      rw [if_neg (by omega), if_neg (by rw [Int.toNat_natCast, hhv]; exact fun z => s2 z.1), Int.toNat_natCast] at hsu
                      exact hsu
                    have hdt : (d.set k true).getD t true = false := by
                      cases z : (d.set k true).getD t true with
                      | false => rfl
                      | true => have := HDNk.out t (by omega) z; omega
                    obtain ⟨wA, hwA⟩ : ∃ wA, wr.setCell ⟨gh, t, none⟩ (.int .i64 (y - pops + push)) = wA := ⟨_, rfl⟩
                    have HWA := Lib.hid hwA
                    have HAk2 : Hid (Arr wA gh 3 (ints (h2.set t (y - pops + push)))) := by
                      have := HAk.out.set (j := t) (by rw [ints_len]; omega) (.int .i64 (y - pops + push))
                      rw [ints_set, hwA] at this
                      exact this
                    have hupA : Upd (fun j => j = gh) wr wA := by rw [← hwA]; exact updAt _
                    have HPk2 := Lib.hid (HPk.out.kept hupA hne.symm)
                    have HNk2 := Lib.hid (HNk.out.kept hupA (fun b hb e => by omega))
                    have HEk2 : Hid (Ext ((w.alloc (.cells #[.slice xa c.fields.length ca, .int .i64 c.glob, .slice xf c.funcs.length cf] 25)).alloc (.cells #[.string f.name, .int .i64 f.params, .int .i64 f.locals, .bool f.result, .slice (some ⟨gi, oi, none⟩) f.code.length cv] 39)) wA) := by rw [← hwA]; exact HEk.out.setNew (by simpa using hghw) _
                    have HBDk2 : Hid (∀ j, -1 ≤ (h2.set t (y - pops + push)).getD j (-1) ∧ (h2.set t (y - pops + push)).getD j (-1) ≤ 2 * ((f.code.length : Int) + 1 - gk')) := fun j => by
                      rw [getD_set_int _ _ _ _ (by omega)]
                      by_cases e : j = t
                      · rw [if_pos e]; omega
                      · rw [if_neg e]; exact HBDk.out j
                    have HDNk2 : Hid (∀ j, j < f.code.length → (d.set k true).getD j true = true → 0 ≤ (h2.set t (y - pops + push)).getD j (-1)) := fun j hj hd => by
                      rw [getD_set_int _ _ _ _ (by omega)]
                      by_cases e : j = t
                      · rw [if_pos e]; omega
                      · rw [if_neg e]; exact HDNk.out j hj hd
                    have HADD := Lib.hid (add_x gp (f.code.length / 64 + 1) ws2 t wA HPk2.out HUk.out (by omega) (by omega))
                    have HBIk2 : Hid (∀ j, bitOf (ws2.set (t / 64) (ws2.getD (t / 64) 0 ||| 2 ^ (t % 64))) j = pend (h2.set t (y - pops + push)) (d.set k true) j) := bits_new h2 _ ws2 t (y - pops + push) (by omega) hdt (by omega) (by omega) HBIk.out
                    have HUk2 := Lib.hid (u64s_add ws2 t HUk.out)
                    have HBA : Hid (∀ j, bitOf (ws2.set (t / 64) (ws2.getD (t / 64) 0 ||| 2 ^ (t % 64))) j = (decide (j = t) || bitOf ws2 j)) := fun j => bit_add ws2 t j (by omega)
                    rw [hwl2] at HADD
                    have hwl3 : (ws2.set (t / 64) (ws2.getD (t / 64) 0 ||| 2 ^ (t % 64))).length = (f.code.length / 64 + 1) := by rw [List.length_set]; exact hwl2
                    obtain ⟨ws3, hws3⟩ : ∃ ws3, ws2.set (t / 64) (ws2.getD (t / 64) 0 ||| 2 ^ (t % 64)) = ws3 := ⟨_, rfl⟩
                    rw [hws3] at HADD HBIk2 HUk2 HBA hwl3
                    have s7 : hv < 0 := by omega
                    have z3 : IntKind.i64.wrap ((t : Int) / 64) = (t : Int) / 64 := IntWalk.i64_in _ (by omega)
                    clear HSk hdr hhv HAk HPk HNk HEk HBDk HDNk HBIk hdt hws3 hwA hupA HUk
                    go_wp2_with fail
                    rw [HWA.out]
                    refine HADD.out.mono ?_
                    rintro e w8 ⟨rfl, hp8, hu8⟩
                    have HP8 := Lib.hid hp8
                    have HA8 := Lib.hid (HAk2.out.kept hu8 hne)
                    have HN8 := Lib.hid (HNk2.out.kept hu8 (fun b hb e => by omega))
                    have HE8 : Hid (Ext ((w.alloc (.cells #[.slice xa c.fields.length ca, .int .i64 c.glob, .slice xf c.funcs.length cf] 25)).alloc (.cells #[.string f.name, .int .i64 f.params, .int .i64 f.locals, .bool f.result, .slice (some ⟨gi, oi, none⟩) f.code.length cv] 39)) w8) := HEk2.out.trans' hu8 (fun j hj e => by simp at hj; omega)
                    clear hp8 hu8 HADD HPk2 HAk2 HNk2 HEk2 a2 a4 c0
                    go_wp2_with (with_reducible (refine stop_at (o := ⟨some 151, _, _, _, _, _⟩) ?_))
                    refine Stop.go ?_
                    by_cases hmn : wd ≤ t / 64
                    · have mm : (wd : Int) ≤ (t : Int) / 64 := by omega
                      have mm1 : min (wd : Int) ((t : Int) / 64) = wd := by omega
                      have mm2 : ¬ ((t : Int) / 64 < (wd : Int)) := by omega
                      have HW8 : Hid (∀ j, bitOf ws3 j = true → 64 * wd ≤ j) := fun j hj => by
                        rw [HBA.out] at hj
                        simp only [Bool.or_eq_true, decide_eq_true_eq] at hj
                        rcases hj with q | q
                        · omega
                        · exact HWDk.out j q
                      refine wpList_run rfl (v := .int .i64 (wd : Int)) ?_ ?_
                      · go_simp
                      go_wp2_with fail
                      go_roundg (1 - (i + 1))
                      case measure => omega
                      case rel => exact ⟨i + 1, _, ws3, wd, by go_num, rfl, rfl, by omega, by simp [hl2], hwd, HSk2, HBDk2, HDNk2, HBIk2, HW8, HA8, HP8, hwl3, HUk2, HN8, HE8⟩
                    · have mm : ¬ ((wd : Int) ≤ (t : Int) / 64) := by omega
                      have mm1 : min (wd : Int) ((t : Int) / 64) = (t : Int) / 64 := by omega
                      have mm2 : ((t : Int) / 64 < (wd : Int)) := by omega
                      have HW8 : Hid (∀ j, bitOf ws3 j = true → 64 * (t / 64) ≤ j) := fun j hj => by
                        rw [HBA.out] at hj
                        simp only [Bool.or_eq_true, decide_eq_true_eq] at hj
                        rcases hj with q | q
                        · omega
                        · have := HWDk.out j q; omega
                      refine wpList_run rfl (v := .int .i64 ((t : Int) / 64)) ?_ ?_
                      · go_simp
                      go_wp2_with fail
                      go_roundg (1 - (i + 1))
                      case measure => omega
                      case rel => exact ⟨i + 1, _, ws3, t / 64, by go_num, rfl, rfl, by omega, by simp [hl2], by omega, HSk2, HBDk2, HDNk2, HBIk2, HW8, HA8, HP8, hwl3, HUk2, HN8, HE8⟩
              · obtain rfl : i = 1 := by omega
                have hsu := HSk.out
                rw [show ([x] : List Int).drop 1 = [] from rfl] at hsu
                unfold suc at hsu
                injection hsu with u1 u2
                subst u1; subst u2
                have HX2 : Hid (hts c f gk' h2 (d.set k true) = (xl, xa', xe)) := by
                  have hx := HC.out
                  rw [if_pos rfl] at hx
                  exact hx
                have HNX := next_x gp (f.code.length / 64 + 1) ws2 wd wr HPk.out HUk.out (by rw [hwl2]; omega) hwd (fun W hW => HTB.out W ((HE0.out.ext HEk.out).trans' hW (fun j hj e => by omega)))
                rw [hwl2] at HNX
                have HNXH := Lib.hid HNX
                clear HC HSk HNX
                go_wp2_with fail
                refine HNXH.out.mono ?_
                rintro e w7 ⟨r, ws4, rfl, hp7, hl4, hu4, hup, hcase⟩
                have HP7 := Lib.hid hp7
                have HU4 := Lib.hid hu4
                have hl4' : ws4.length = (f.code.length / 64 + 1) := hl4.trans hwl2
                have HA7 := Lib.hid (HAk.out.kept hup hne)
                have HE7 : Hid (Ext ((w.alloc (.cells #[.slice xa c.fields.length ca, .int .i64 c.glob, .slice xf c.funcs.length cf] 25)).alloc (.cells #[.string f.name, .int .i64 f.params, .int .i64 f.locals, .bool f.result, .slice (some ⟨gi, oi, none⟩) f.code.length cv] 39)) w7) := HEk.out.trans' hup (fun j hj e => by simp at hj; omega)
                have HFIN : Hid ((((r = -1 ∧ ∀ j, pend h2 (d.set k true) j = false) ∨ ∃ k2 : Nat, r = k2 ∧ k2 < f.code.length ∧ pend h2 (d.set k true) k2 = true ∧ ∀ j, j < k2 → pend h2 (d.set k true) j = false)) ∧ ∀ j, bitOf ws4 j = (pend h2 (d.set k true) j && decide ((j : Int) ≠ r))) := by
                  rcases hcase with ⟨hr, hws, hz⟩ | ⟨k2, hr, _, hb2, hlo, hb4⟩
                  · subst hr; subst hws
                    have hall : ∀ j, pend h2 (d.set k true) j = false := fun j => by
                      cases hz2 : pend h2 (d.set k true) j with
                      | false => rfl
                      | true =>
                        have q := HBIk.out j
                        rw [hz2] at q
                        have := hz j (HWDk.out j q)
                        rw [this] at q; cases q
                    exact ⟨.inl ⟨rfl, hall⟩, fun j => by rw [HBIk.out, hall]; rfl⟩
                  · subst hr
                    have hp2 : pend h2 (d.set k true) k2 = true := (HBIk.out k2).symm.trans hb2
                    refine ⟨.inr ⟨k2, rfl, ?_, hp2, fun j hj => ?_⟩, fun j => ?_⟩
                    · rcases Nat.lt_or_ge k2 f.code.length with q | q
                      · exact q
                      · rw [pend_out _ _ _ (by omega)] at hp2; cases hp2
                    · rw [← HBIk.out]
                      cases hz2 : bitOf ws2 j with
                      | false => rfl
                      | true => rw [hlo j (HWDk.out j hz2) hj] at hz2; cases hz2
                    · rw [hb4, HBIk.out]
                      congr 1
                      rw [decide_eq_decide]
                      omega
                clear hcase hp7 hu4 hup HNXH hl4
                go_wp2_with fail
                go_roundg gk'
                case measure => omega
                case rel => exact ⟨h2, _, ws4, r, rfl, hl2, by simp [hdl], by have := HCK.out; omega, by omega, HX2, HBDk, HDNk, HFIN.out.1, HFIN.out.2, HA7, HP7, hl4', HU4, HE7⟩
          · by_cases r4 : op = 12
            · subst r4
              have hnl : nxt 12 x k = [(k : Int) + 1, x] := by unfold nxt; rfl
              have HSUL : Hid (suc (y - pops + push) [(k : Int) + 1, x] h = (E, h')) := by rw [← hnl]; exact HSU.out
              have HNN : Hid (∀ q ∈ ([(k : Int) + 1, x] : List Int), (0 : Int) ≤ q) := by rw [← hnl]; exact nxt_nn HHR.out
              have HON : Hid (w6.ownsRow w6.heap.size 3 1 (.slice none 0 0) 0 []) := World.ownsRow_nil _ _ _ _
              clear hnl HSU
              go_wp2_with (at_builtin; refine wpList_append_at _ rfl (.tmp 82) (.tmp 85) 22 rfl (w6.heap.size) 3 i3 (.int .i64 0) 1 8 Tryd.underlying22 hi3 hz03 hz13 hz23 rfl (by decide) _ _ _ rfl (HON.out.alloc _) ⟨w6.heap.size, 0, none⟩ 1 1 [.int .i64 ((k : Int) + 1)] rfl rfl ?c1 ?c2 ?c3 ?c4 ?c5 ?_)
              case c1 =>
                intro j u hj
                match j, hj with
                | 0, hj => simp at hj; subst hj; simp [Addr.add]
              case c2 => intro u hu; simp at hu; subst hu; rfl
              case c3 => unfold maxLen; omega
              case c4 => omega
              case c5 => first | (simp; done) | (simp; omega)
              intro v1' w7 hG
              have hu7 : Upd (fun q => (Value.slice none 0 0).ownBlock = some q) w6 w7 := ((Upd.refl _ w6).alloc _).trans hG.upd
              have HE7 : Hid (Ext ((w.alloc (.cells #[.slice xa c.fields.length ca, .int .i64 c.glob, .slice xf c.funcs.length cf] 25)).alloc (.cells #[.string f.name, .int .i64 f.params, .int .i64 f.locals, .bool f.result, .slice (some ⟨gi, oi, none⟩) f.code.length cv] 39)) w7) := upd_grown_new (HE6.out.alloc _) hG.grown (fun q e => by cases e)
              have HA7 := Lib.hid (HA6.out.kept hu7 (fun e => by cases e))
              have HP7 := Lib.hid (HP6.out.kept hu7 (fun e => by cases e))
              have HO7 : Hid (w7.ownsRow w6.heap.size 3 1 v1' 1 (ints [(k : Int) + 1])) := hG.own
              obtain ⟨oA1, oC1, hv1⟩ := own_shape HO7.out
              subst hv1
              have n0 := (hu7.cell n0 (fun e => by cases e))
              have n1 := (hu7.cell n1 (fun e => by cases e))
              have a6 := (hu7.cell a6 (fun e => by cases e))
              have hsz7 := hG.grown.size
              simp only [alloc_size] at hsz7
              clear hG hu7
              go_wp2_with (at_builtin; refine wpList_append_at _ rfl (.tmp 95) (.tmp 98) 22 rfl (w6.heap.size) 3 i3 (.int .i64 0) 1 8 Tryd.underlying22 hi3 hz03 hz13 hz23 rfl (by decide) _ _ _ rfl (HO7.out.alloc _) ⟨w7.heap.size, 0, none⟩ 1 1 [.int .i64 x] rfl rfl ?c1 ?c2 ?c3 ?c4 ?c5 ?_)
              case c1 =>
                intro j u hj
                match j, hj with
                | 0, hj => simp at hj; subst hj; simp [Addr.add]
              case c2 => intro u hu; simp at hu; subst hu; rfl
              case c3 => unfold maxLen; omega
              case c4 => omega
              case c5 => first | (simp; done) | (simp; omega)
              intro v2' w8 hG
              have hu8 : Upd (fun q => (Value.slice oA1 1 oC1).ownBlock = some q) w7 w8 := ((Upd.refl _ w7).alloc _).trans hG.upd
              have HE8 : Hid (Ext ((w.alloc (.cells #[.slice xa c.fields.length ca, .int .i64 c.glob, .slice xf c.funcs.length cf] 25)).alloc (.cells #[.string f.name, .int .i64 f.params, .int .i64 f.locals, .bool f.result, .slice (some ⟨gi, oi, none⟩) f.code.length cv] 39)) w8) := upd_grown_new (HE7.out.alloc _) hG.grown (fun q e => by have := (HO7.out.lt q e).1; simp; omega)
              have HA8 := Lib.hid (HA7.out.kept hu8 (fun e => by have := (HO7.out.lt gh e).1; omega))
              have HP8 := Lib.hid (HP7.out.kept hu8 (fun e => by have := (HO7.out.lt gp e).1; omega))
              have HO8 : Hid (w8.ownsRow w6.heap.size 3 1 v2' 2 (ints [(k : Int) + 1, x])) := hG.own
              obtain ⟨oA2, oC2, hv2⟩ := own_shape HO8.out
              subst hv2
              have n0 := (hu8.cell n0 (fun e => by have q := (HO7.out.lt _ e).1; simp at q; omega))
              have n1 := (hu8.cell n1 (fun e => by have q := (HO7.out.lt _ e).1; simp at q; omega))
              have a6 := (hu8.cell a6 (fun e => by have q := (HO7.out.lt _ e).1; simp at q; omega))
              have HNS : Hid (SlR (fun b => w6.heap.size ≤ b) w8 1 (.slice oA2 2 oC2) 2 (ints [(k : Int) + 1, x])) := (SlR.of_own HO8.out).weaken (fun q e => (HO8.out.lt q e).1)
              clear hG hu8
              have HNL : Hid (suc (y - pops + push) [(k : Int) + 1, x] h = (E, h')) := HSUL.out
              have HK0 : Hid (((k / 64 : Nat) : Int) = (k : Int) / 64) := rfl
              clear HSUL
              go_wp2_with fail
              clear n0 n1 a6
              obtain ⟨wb, hwb⟩ : ∃ wb, wb = wr := ⟨_, rfl⟩
              subst hwb
              go_loopg [9, 17, 110] 2 (fun gk3 s9 _ s110 wr => ∃ (i : Nat) (h2 : List Int) (ws2 : List Nat) (wd : Nat), s110 = .int .i64 i ∧ s9 = .int .i64 wd ∧ gk3 = 2 - i ∧ i ≤ 2 ∧ h2.length = f.code.length ∧ wd ≤ 2000000 ∧ Hid (suc (y - pops + push) (([(k : Int) + 1, x] : List Int).drop i) h2 = (E, h')) ∧ Hid (∀ j, -1 ≤ h2.getD j (-1) ∧ h2.getD j (-1) ≤ 2 * ((f.code.length : Int) + 1 - gk')) ∧ Hid (∀ j, j < f.code.length → (d.set k true).getD j true = true → 0 ≤ h2.getD j (-1)) ∧ Hid (∀ j, bitOf ws2 j = pend h2 (d.set k true) j) ∧ Hid (∀ j, bitOf ws2 j = true → 64 * wd ≤ j) ∧ Hid (Arr wr gh 3 (ints h2)) ∧ Hid (Arr wr gp 77 (words ws2)) ∧ ws2.length = (f.code.length / 64 + 1) ∧ Hid (U64s ws2) ∧ Hid (SlR (fun b => w6.heap.size ≤ b) wr 1 (.slice oA2 2 oC2) 2 (ints [(k : Int) + 1, x])) ∧ Hid (Ext ((w.alloc (.cells #[.slice xa c.fields.length ca, .int .i64 c.glob, .slice xf c.funcs.length cf] 25)).alloc (.cells #[.string f.name, .int .i64 f.params, .int .i64 f.locals, .bool f.result, .slice (some ⟨gi, oi, none⟩) f.code.length cv] 39)) wr))
              case atStart => exact ⟨0, h, ws, k / 64, rfl, rfl, rfl, Nat.zero_le _, hhl, by omega, HNL.out, HBDD.out, HDN2.out, HBI2.out, HWD.out, HA8.out, HP8.out, hwl, HU.out, HNS.out, HE8.out⟩
              case round =>
                obtain ⟨i, h2, ws2, wd, rfl, rfl, rfl, hi, hl2, hwd, HSk, HBDk, HDNk, HBIk, HWDk, HAk, HPk, hwl2, HUk, HNk, HEk⟩ := hrel
                by_cases hil : i < 2
                · obtain ⟨gx, ox, cx, hvx, hcx, hSx, hjx⟩ := HNk.out.pos (by omega)
                  injection hvx with q1 q2 q3
                  subst q1; subst q3
                  obtain ⟨q, hq⟩ : ∃ q, ([(k : Int) + 1, x] : List Int).getD i (-1) = q := ⟨_, rfl⟩
                  have hnl' : ([(k : Int) + 1, x] : List Int).length = 2 := rfl
                  have c0 := hjx i (by omega)
                  rw [ints_get [(k : Int) + 1, x] i hil, hq] at c0
                  have hq0 : 0 ≤ q := HNN.out q (by rw [← hq, List.getD_eq_getElem?_getD, List.getElem?_eq_getElem (by omega)]; exact List.getElem_mem _)
                  have hdr : ([(k : Int) + 1, x] : List Int).drop i = q :: ([(k : Int) + 1, x] : List Int).drop (i + 1) := by
                    rw [List.drop_eq_getElem_cons (by omega), ← hq, List.getD_eq_getElem?_getD, List.getElem?_eq_getElem (by omega)]; rfl
                  have j0' : (0 : Int) ≤ (i : Int) := by omega
                  have j1' : (i : Int) < 2 := by omega
                  clear hjx q2 hq hSx hnl'
                  by_cases s1 : (f.code.length : Int) ≤ q
                  · have hsu := HSk.out
                    rw [hdr] at hsu
                    unfold suc at hsu
                    rw [if_pos (by omega)] at hsu
                    injection hsu with u1 u2
                    subst u1; subst u2
                    have hx := HC.out
                    rw [if_neg (by decide)] at hx
                    injection hx with q1 q2
                    injection q2 with q2 q3
                    subst q1; subst q2; subst q3
                    clear HC HSk hdr
                    go_wp2_with fail
                    exact bodyPost_ret (v := .tuple #[.slice none 0 0, .int .i64 k, .int .i64 8]) (by simp [results, Tryd.results18, go_sem]) rfl ⟨_, rfl, SlR.nil _ _ _, HE0.out.ext HEk.out⟩
                  · obtain ⟨t, rfl⟩ : ∃ t : Nat, q = t := ⟨q.toNat, by omega⟩
                    have a2 := HAk.out.cell (ints_get h2 t (by omega))
                    have a4 := HAk.out.mark t
                    obtain ⟨hv, hhv⟩ : ∃ hv, h2.getD t (-1) = hv := ⟨_, rfl⟩
                    rw [hhv] at a2
                    have t0' : (0 : Int) ≤ (t : Int) := by omega
                    have t1' : (t : Int) < (f.code.length : Int) := by omega
                    by_cases s2 : 0 ≤ hv
                    · by_cases s3 : hv = (y - pops + push)
                      · have HSk2 : Hid (suc (y - pops + push) (([(k : Int) + 1, x] : List Int).drop (i + 1)) h2 = (E, h')) := by
                          have hsu := HSk.out
                          rw [hdr] at hsu
                          unfold suc at hsu
                          rw [if_neg (by omega), if_neg (by rw [Int.toNat_natCast, hhv]; exact fun z => z.2 s3), Int.toNat_natCast, set_same h2 t _ (by omega) (hhv.trans s3)] at hsu
                          exact hsu
                        have s5 : (hv == (y - pops + push)) = true := beq_iff_eq.2 s3
                        have s6 : (hv != (y - pops + push)) = false := by rw [s3]; simp
                        have s5' : ((y - pops + push) == (y - pops + push)) = true := beq_iff_eq.2 rfl
                        have s7 : ¬ (hv < 0) := by omega
                        clear HSk hdr hhv s3
                        go_wp2_with fail
                        go_roundg (2 - (i + 1))
                        case measure => omega
                        case rel => exact ⟨i + 1, h2, ws2, wd, by go_num, rfl, rfl, by omega, hl2, hwd, HSk2, HBDk, HDNk, HBIk, HWDk, HAk, HPk, hwl2, HUk, HNk, HEk⟩
                      · have hsu := HSk.out
                        rw [hdr] at hsu
                        unfold suc at hsu
                        rw [if_neg (by omega), if_pos (by rw [Int.toNat_natCast, hhv]; exact ⟨s2, s3⟩)] at hsu
                        injection hsu with u1 u2
                        subst u1; subst u2
                        have hx := HC.out
                        rw [if_neg (by decide)] at hx
                        injection hx with q1 q2
                        injection q2 with q2 q3
                        subst q1; subst q2; subst q3
                        clear HC HSk hdr
                        have s5 : (hv == (y - pops + push)) = false := beq_eq_false_iff_ne.2 s3
                        have s6 : (hv != (y - pops + push)) = true := bne_iff_ne.2 s3
                        clear hhv
                        go_wp2_with fail
                        exact bodyPost_ret (v := .tuple #[.slice none 0 0, .int .i64 k, .int .i64 13]) (by simp [results, Tryd.results18, go_sem]) rfl ⟨_, rfl, SlR.nil _ _ _, HE0.out.ext HEk.out⟩
                    · have HSk2 : Hid (suc (y - pops + push) (([(k : Int) + 1, x] : List Int).drop (i + 1)) (h2.set t (y - pops + push)) = (E, h')) := by
                        have hsu := HSk.out
                        rw [hdr] at hsu
                        unfold suc at hsu
                        rw [if_neg (by omega), if_neg (by rw [Int.toNat_natCast, hhv]; exact fun z => s2 z.1), Int.toNat_natCast] at hsu
                        exact hsu
                      have hdt : (d.set k true).getD t true = false := by
                        cases z : (d.set k true).getD t true with
                        | false => rfl
                        | true => have := HDNk.out t (by omega) z; omega
                      obtain ⟨wA, hwA⟩ : ∃ wA, wr.setCell ⟨gh, t, none⟩ (.int .i64 (y - pops + push)) = wA := ⟨_, rfl⟩
                      have HWA := Lib.hid hwA
                      have HAk2 : Hid (Arr wA gh 3 (ints (h2.set t (y - pops + push)))) := by
                        have := HAk.out.set (j := t) (by rw [ints_len]; omega) (.int .i64 (y - pops + push))
                        rw [ints_set, hwA] at this
                        exact this
                      have hupA : Upd (fun j => j = gh) wr wA := by rw [← hwA]; exact updAt _
                      have HPk2 := Lib.hid (HPk.out.kept hupA hne.symm)
                      have HNk2 := Lib.hid (HNk.out.kept hupA (fun b hb e => by omega))
                      have HEk2 : Hid (Ext ((w.alloc (.cells #[.slice xa c.fields.length ca, .int .i64 c.glob, .slice xf c.funcs.length cf] 25)).alloc (.cells #[.string f.name, .int .i64 f.params, .int .i64 f.locals, .bool f.result, .slice (some ⟨gi, oi, none⟩) f.code.length cv] 39)) wA) := by rw [← hwA]; exact HEk.out.setNew (by simpa using hghw) _
                      have HBDk2 : Hid (∀ j, -1 ≤ (h2.set t (y - pops + push)).getD j (-1) ∧ (h2.set t (y - pops + push)).getD j (-1) ≤ 2 * ((f.code.length : Int) + 1 - gk')) := fun j => by
                        rw [getD_set_int _ _ _ _ (by omega)]
                        by_cases e : j = t
                        · rw [if_pos e]; omega
                        · rw [if_neg e]; exact HBDk.out j
                      have HDNk2 : Hid (∀ j, j < f.code.length → (d.set k true).getD j true = true → 0 ≤ (h2.set t (y - pops + push)).getD j (-1)) := fun j hj hd => by
                        rw [getD_set_int _ _ _ _ (by omega)]
                        by_cases e : j = t
                        · rw [if_pos e]; omega
                        · rw [if_neg e]; exact HDNk.out j hj hd
                      have HADD := Lib.hid (add_x gp (f.code.length / 64 + 1) ws2 t wA HPk2.out HUk.out (by omega) (by omega))
                      have HBIk2 : Hid (∀ j, bitOf (ws2.set (t / 64) (ws2.getD (t / 64) 0 ||| 2 ^ (t % 64))) j = pend (h2.set t (y - pops + push)) (d.set k true) j) := bits_new h2 _ ws2 t (y - pops + push) (by omega) hdt (by omega) (by omega) HBIk.out
                      have HUk2 := Lib.hid (u64s_add ws2 t HUk.out)
                      have HBA : Hid (∀ j, bitOf (ws2.set (t / 64) (ws2.getD (t / 64) 0 ||| 2 ^ (t % 64))) j = (decide (j = t) || bitOf ws2 j)) := fun j => bit_add ws2 t j (by omega)
                      rw [hwl2] at HADD
                      have hwl3 : (ws2.set (t / 64) (ws2.getD (t / 64) 0 ||| 2 ^ (t % 64))).length = (f.code.length / 64 + 1) := by rw [List.length_set]; exact hwl2
                      obtain ⟨ws3, hws3⟩ : ∃ ws3, ws2.set (t / 64) (ws2.getD (t / 64) 0 ||| 2 ^ (t % 64)) = ws3 := ⟨_, rfl⟩
                      rw [hws3] at HADD HBIk2 HUk2 HBA hwl3
                      have s7 : hv < 0 := by omega
                      have z3 : IntKind.i64.wrap ((t : Int) / 64) = (t : Int) / 64 := IntWalk.i64_in _ (by omega)
                      clear HSk hdr hhv HAk HPk HNk HEk HBDk HDNk HBIk hdt hws3 hwA hupA HUk
                      go_wp2_with fail
                      rw [HWA.out]
                      refine HADD.out.mono ?_
                      rintro e w8 ⟨rfl, hp8, hu8⟩
                      have HP8 := Lib.hid hp8
                      have HA8 := Lib.hid (HAk2.out.kept hu8 hne)
                      have HN8 := Lib.hid (HNk2.out.kept hu8 (fun b hb e => by omega))
                      have HE8 : Hid (Ext ((w.alloc (.cells #[.slice xa c.fields.length ca, .int .i64 c.glob, .slice xf c.funcs.length cf] 25)).alloc (.cells #[.string f.name, .int .i64 f.params, .int .i64 f.locals, .bool f.result, .slice (some ⟨gi, oi, none⟩) f.code.length cv] 39)) w8) := HEk2.out.trans' hu8 (fun j hj e => by simp at hj; omega)
                      clear hp8 hu8 HADD HPk2 HAk2 HNk2 HEk2 a2 a4 c0
                      go_wp2_with (with_reducible (refine stop_at (o := ⟨some 151, _, _, _, _, _⟩) ?_))
                      refine Stop.go ?_
                      by_cases hmn : wd ≤ t / 64
                      · have mm : (wd : Int) ≤ (t : Int) / 64 := by omega
                        have mm1 : min (wd : Int) ((t : Int) / 64) = wd := by omega
                        have mm2 : ¬ ((t : Int) / 64 < (wd : Int)) := by omega
                        have HW8 : Hid (∀ j, bitOf ws3 j = true → 64 * wd ≤ j) := fun j hj => by
                          rw [HBA.out] at hj
                          simp only [Bool.or_eq_true, decide_eq_true_eq] at hj
                          rcases hj with q | q
                          · omega
                          · exact HWDk.out j q
                        refine wpList_run rfl (v := .int .i64 (wd : Int)) ?_ ?_
                        · go_simp
                        go_wp2_with fail
                        go_roundg (2 - (i + 1))
                        case measure => omega
                        case rel => exact ⟨i + 1, _, ws3, wd, by go_num, rfl, rfl, by omega, by simp [hl2], hwd, HSk2, HBDk2, HDNk2, HBIk2, HW8, HA8, HP8, hwl3, HUk2, HN8, HE8⟩
                      · have mm : ¬ ((wd : Int) ≤ (t : Int) / 64) := by omega
                        have mm1 : min (wd : Int) ((t : Int) / 64) = (t : Int) / 64 := by omega
                        have mm2 : ((t : Int) / 64 < (wd : Int)) := by omega
                        have HW8 : Hid (∀ j, bitOf ws3 j = true → 64 * (t / 64) ≤ j) := fun j hj => by
                          rw [HBA.out] at hj
                          simp only [Bool.or_eq_true, decide_eq_true_eq] at hj
                          rcases hj with q | q
                          · omega
                          · have := HWDk.out j q; omega
                        refine wpList_run rfl (v := .int .i64 ((t : Int) / 64)) ?_ ?_
                        · go_simp
                        go_wp2_with fail
                        go_roundg (2 - (i + 1))
                        case measure => omega
                        case rel => exact ⟨i + 1, _, ws3, t / 64, by go_num, rfl, rfl, by omega, by simp [hl2], by omega, HSk2, HBDk2, HDNk2, HBIk2, HW8, HA8, HP8, hwl3, HUk2, HN8, HE8⟩
                · obtain rfl : i = 2 := by omega
                  have hsu := HSk.out
                  rw [show ([(k : Int) + 1, x] : List Int).drop 2 = [] from rfl] at hsu
                  unfold suc at hsu
                  injection hsu with u1 u2
                  subst u1; subst u2
                  have HX2 : Hid (hts c f gk' h2 (d.set k true) = (xl, xa', xe)) := by
                    have hx := HC.out
                    rw [if_pos rfl] at hx
                    exact hx
                  have HNX := next_x gp (f.code.length / 64 + 1) ws2 wd wr HPk.out HUk.out (by rw [hwl2]; omega) hwd (fun W hW => HTB.out W ((HE0.out.ext HEk.out).trans' hW (fun j hj e => by omega)))
                  rw [hwl2] at HNX
                  have HNXH := Lib.hid HNX
                  clear HC HSk HNX
                  go_wp2_with fail
                  refine HNXH.out.mono ?_
                  rintro e w7 ⟨r, ws4, rfl, hp7, hl4, hu4, hup, hcase⟩
                  have HP7 := Lib.hid hp7
                  have HU4 := Lib.hid hu4
                  have hl4' : ws4.length = (f.code.length / 64 + 1) := hl4.trans hwl2
                  have HA7 := Lib.hid (HAk.out.kept hup hne)
                  have HE7 : Hid (Ext ((w.alloc (.cells #[.slice xa c.fields.length ca, .int .i64 c.glob, .slice xf c.funcs.length cf] 25)).alloc (.cells #[.string f.name, .int .i64 f.params, .int .i64 f.locals, .bool f.result, .slice (some ⟨gi, oi, none⟩) f.code.length cv] 39)) w7) := HEk.out.trans' hup (fun j hj e => by simp at hj; omega)
                  have HFIN : Hid ((((r = -1 ∧ ∀ j, pend h2 (d.set k true) j = false) ∨ ∃ k2 : Nat, r = k2 ∧ k2 < f.code.length ∧ pend h2 (d.set k true) k2 = true ∧ ∀ j, j < k2 → pend h2 (d.set k true) j = false)) ∧ ∀ j, bitOf ws4 j = (pend h2 (d.set k true) j && decide ((j : Int) ≠ r))) := by
                    rcases hcase with ⟨hr, hws, hz⟩ | ⟨k2, hr, _, hb2, hlo, hb4⟩
                    · subst hr; subst hws
                      have hall : ∀ j, pend h2 (d.set k true) j = false := fun j => by
                        cases hz2 : pend h2 (d.set k true) j with
                        | false => rfl
                        | true =>
                          have q := HBIk.out j
                          rw [hz2] at q
                          have := hz j (HWDk.out j q)
                          rw [this] at q; cases q
                      exact ⟨.inl ⟨rfl, hall⟩, fun j => by rw [HBIk.out, hall]; rfl⟩
                    · subst hr
                      have hp2 : pend h2 (d.set k true) k2 = true := (HBIk.out k2).symm.trans hb2
                      refine ⟨.inr ⟨k2, rfl, ?_, hp2, fun j hj => ?_⟩, fun j => ?_⟩
                      · rcases Nat.lt_or_ge k2 f.code.length with q | q
                        · exact q
                        · rw [pend_out _ _ _ (by omega)] at hp2; cases hp2
                      · rw [← HBIk.out]
                        cases hz2 : bitOf ws2 j with
                        | false => rfl
                        | true => rw [hlo j (HWDk.out j hz2) hj] at hz2; cases hz2
                      · rw [hb4, HBIk.out]
                        congr 1
                        rw [decide_eq_decide]
                        omega
                  clear hcase hp7 hu4 hup HNXH hl4
                  go_wp2_with fail
                  go_roundg gk'
                  case measure => omega
                  case rel => exact ⟨h2, _, ws4, r, rfl, hl2, by simp [hdl], by have := HCK.out; omega, by omega, HX2, HBDk, HDNk, HFIN.out.1, HFIN.out.2, HA7, HP7, hl4', HU4, HE7⟩
            · have e10 : (op == 10) = false := beq_eq_false_iff_ne.2 r2
              have e11 : (op == 11) = false := beq_eq_false_iff_ne.2 r3
              have e12 : (op == 12) = false := beq_eq_false_iff_ne.2 r4
              have g10 : (op != 10) = true := bne_iff_ne.2 r2
              have g11 : (op != 11) = true := bne_iff_ne.2 r3
              have hnl : nxt op x k = [(k : Int) + 1] := by unfold nxt; rw [if_neg r2, if_neg r3, if_neg r4]
              have HSUL : Hid (suc (y - pops + push) [(k : Int) + 1] h = (E, h')) := by rw [← hnl]; exact HSU.out
              have HNN : Hid (∀ q ∈ ([(k : Int) + 1] : List Int), (0 : Int) ≤ q) := by rw [← hnl]; exact nxt_nn HHR.out
              have HON : Hid (w6.ownsRow w6.heap.size 3 1 (.slice none 0 0) 0 []) := World.ownsRow_nil _ _ _ _
              clear hnl HSU
              go_wp2_with (at_builtin; refine wpList_append_at _ rfl (.tmp 82) (.tmp 85) 22 rfl (w6.heap.size) 3 i3 (.int .i64 0) 1 8 Tryd.underlying22 hi3 hz03 hz13 hz23 rfl (by decide) _ _ _ rfl (HON.out.alloc _) ⟨w6.heap.size, 0, none⟩ 1 1 [.int .i64 ((k : Int) + 1)] rfl rfl ?c1 ?c2 ?c3 ?c4 ?c5 ?_)
              case c1 =>
                intro j u hj
                match j, hj with
                | 0, hj => simp at hj; subst hj; simp [Addr.add]
              case c2 => intro u hu; simp at hu; subst hu; rfl
              case c3 => unfold maxLen; omega
              case c4 => omega
              case c5 => first | (simp; done) | (simp; omega)
              intro v1' w7 hG
              have hu7 : Upd (fun q => (Value.slice none 0 0).ownBlock = some q) w6 w7 := ((Upd.refl _ w6).alloc _).trans hG.upd
              have HE7 : Hid (Ext ((w.alloc (.cells #[.slice xa c.fields.length ca, .int .i64 c.glob, .slice xf c.funcs.length cf] 25)).alloc (.cells #[.string f.name, .int .i64 f.params, .int .i64 f.locals, .bool f.result, .slice (some ⟨gi, oi, none⟩) f.code.length cv] 39)) w7) := upd_grown_new (HE6.out.alloc _) hG.grown (fun q e => by cases e)
              have HA7 := Lib.hid (HA6.out.kept hu7 (fun e => by cases e))
              have HP7 := Lib.hid (HP6.out.kept hu7 (fun e => by cases e))
              have HO7 : Hid (w7.ownsRow w6.heap.size 3 1 v1' 1 (ints [(k : Int) + 1])) := hG.own
              obtain ⟨oA1, oC1, hv1⟩ := own_shape HO7.out
              subst hv1
              have n0 := (hu7.cell n0 (fun e => by cases e))
              have n1 := (hu7.cell n1 (fun e => by cases e))
              have a6 := (hu7.cell a6 (fun e => by cases e))
              have HNS : Hid (SlR (fun b => w6.heap.size ≤ b) w7 1 (.slice oA1 1 oC1) 1 (ints [(k : Int) + 1])) := (SlR.of_own HO7.out).weaken (fun q e => (HO7.out.lt q e).1)
              clear hG hu7
              have HNL : Hid (suc (y - pops + push) [(k : Int) + 1] h = (E, h')) := HSUL.out
              have HK0 : Hid (((k / 64 : Nat) : Int) = (k : Int) / 64) := rfl
              clear HSUL
              go_wp2_with fail
              clear n0 n1 a6
              obtain ⟨wb, hwb⟩ : ∃ wb, wb = wr := ⟨_, rfl⟩
              subst hwb
              go_loopg [9, 17, 110] 1 (fun gk3 s9 _ s110 wr => ∃ (i : Nat) (h2 : List Int) (ws2 : List Nat) (wd : Nat), s110 = .int .i64 i ∧ s9 = .int .i64 wd ∧ gk3 = 1 - i ∧ i ≤ 1 ∧ h2.length = f.code.length ∧ wd ≤ 2000000 ∧ Hid (suc (y - pops + push) (([(k : Int) + 1] : List Int).drop i) h2 = (E, h')) ∧ Hid (∀ j, -1 ≤ h2.getD j (-1) ∧ h2.getD j (-1) ≤ 2 * ((f.code.length : Int) + 1 - gk')) ∧ Hid (∀ j, j < f.code.length → (d.set k true).getD j true = true → 0 ≤ h2.getD j (-1)) ∧ Hid (∀ j, bitOf ws2 j = pend h2 (d.set k true) j) ∧ Hid (∀ j, bitOf ws2 j = true → 64 * wd ≤ j) ∧ Hid (Arr wr gh 3 (ints h2)) ∧ Hid (Arr wr gp 77 (words ws2)) ∧ ws2.length = (f.code.length / 64 + 1) ∧ Hid (U64s ws2) ∧ Hid (SlR (fun b => w6.heap.size ≤ b) wr 1 (.slice oA1 1 oC1) 1 (ints [(k : Int) + 1])) ∧ Hid (Ext ((w.alloc (.cells #[.slice xa c.fields.length ca, .int .i64 c.glob, .slice xf c.funcs.length cf] 25)).alloc (.cells #[.string f.name, .int .i64 f.params, .int .i64 f.locals, .bool f.result, .slice (some ⟨gi, oi, none⟩) f.code.length cv] 39)) wr))
              case atStart => exact ⟨0, h, ws, k / 64, rfl, rfl, rfl, Nat.zero_le _, hhl, by omega, HNL.out, HBDD.out, HDN2.out, HBI2.out, HWD.out, HA7.out, HP7.out, hwl, HU.out, HNS.out, HE7.out⟩
              case round =>
                obtain ⟨i, h2, ws2, wd, rfl, rfl, rfl, hi, hl2, hwd, HSk, HBDk, HDNk, HBIk, HWDk, HAk, HPk, hwl2, HUk, HNk, HEk⟩ := hrel
                by_cases hil : i < 1
                · obtain ⟨gx, ox, cx, hvx, hcx, hSx, hjx⟩ := HNk.out.pos (by omega)
                  injection hvx with q1 q2 q3
                  subst q1; subst q3
                  obtain ⟨q, hq⟩ : ∃ q, ([(k : Int) + 1] : List Int).getD i (-1) = q := ⟨_, rfl⟩
                  have hnl' : ([(k : Int) + 1] : List Int).length = 1 := rfl
                  have c0 := hjx i (by omega)
                  rw [ints_get [(k : Int) + 1] i hil, hq] at c0
                  have hq0 : 0 ≤ q := HNN.out q (by rw [← hq, List.getD_eq_getElem?_getD, List.getElem?_eq_getElem (by omega)]; exact List.getElem_mem _)
                  have hdr : ([(k : Int) + 1] : List Int).drop i = q :: ([(k : Int) + 1] : List Int).drop (i + 1) := by
                    rw [List.drop_eq_getElem_cons (by omega), ← hq, List.getD_eq_getElem?_getD, List.getElem?_eq_getElem (by omega)]; rfl
                  have j0' : (0 : Int) ≤ (i : Int) := by omega
                  have j1' : (i : Int) < 1 := by omega
                  clear hjx q2 hq hSx hnl'
                  by_cases s1 : (f.code.length : Int) ≤ q
                  · have hsu := HSk.out
                    rw [hdr] at hsu
                    unfold suc at hsu
                    rw [if_pos (by omega)] at hsu
                    injection hsu with u1 u2
                    subst u1; subst u2
                    have hx := HC.out
                    rw [if_neg (by decide)] at hx
                    injection hx with q1 q2
                    injection q2 with q2 q3
                    subst q1; subst q2; subst q3
                    clear HC HSk hdr
                    go_wp2_with fail
                    exact bodyPost_ret (v := .tuple #[.slice none 0 0, .int .i64 k, .int .i64 8]) (by simp [results, Tryd.results18, go_sem]) rfl ⟨_, rfl, SlR.nil _ _ _, HE0.out.ext HEk.out⟩
                  · obtain ⟨t, rfl⟩ : ∃ t : Nat, q = t := ⟨q.toNat, by omega⟩
                    have a2 := HAk.out.cell (ints_get h2 t (by omega))
                    have a4 := HAk.out.mark t
                    obtain ⟨hv, hhv⟩ : ∃ hv, h2.getD t (-1) = hv := ⟨_, rfl⟩
                    rw [hhv] at a2
                    have t0' : (0 : Int) ≤ (t : Int) := by omega
                    have t1' : (t : Int) < (f.code.length : Int) := by omega
                    by_cases s2 : 0 ≤ hv
                    · by_cases s3 : hv = (y - pops + push)
                      · have HSk2 : Hid (suc (y - pops + push) (([(k : Int) + 1] : List Int).drop (i + 1)) h2 = (E, h')) := by
                          have hsu := HSk.out
                          rw [hdr] at hsu
                          unfold suc at hsu
                          rw [if_neg (by omega), if_neg (by rw [Int.toNat_natCast, hhv]; exact fun z => z.2 s3), Int.toNat_natCast, set_same h2 t _ (by omega) (hhv.trans s3)] at hsu
                          exact hsu
                        have s5 : (hv == (y - pops + push)) = true := beq_iff_eq.2 s3
                        have s6 : (hv != (y - pops + push)) = false := by rw [s3]; simp
                        have s5' : ((y - pops + push) == (y - pops + push)) = true := beq_iff_eq.2 rfl
                        have s7 : ¬ (hv < 0) := by omega
                        clear HSk hdr hhv s3
                        go_wp2_with fail
                        go_roundg (1 - (i + 1))
                        case measure => omega
                        case rel => exact ⟨i + 1, h2, ws2, wd, by go_num, rfl, rfl, by omega, hl2, hwd, HSk2, HBDk, HDNk, HBIk, HWDk, HAk, HPk, hwl2, HUk, HNk, HEk⟩
                      · have hsu := HSk.out
                        rw [hdr] at hsu
                        unfold suc at hsu
                        rw [if_neg (by omega), if_pos (by rw [Int.toNat_natCast, hhv]; exact ⟨s2, s3⟩)] at hsu
                        injection hsu with u1 u2
                        subst u1; subst u2
                        have hx := HC.out
                        rw [if_neg (by decide)] at hx
                        injection hx with q1 q2
                        injection q2 with q2 q3
                        subst q1; subst q2; subst q3
                        clear HC HSk hdr
                        have s5 : (hv == (y - pops + push)) = false := beq_eq_false_iff_ne.2 s3
                        have s6 : (hv != (y - pops + push)) = true := bne_iff_ne.2 s3
                        clear hhv
                        go_wp2_with fail
                        exact bodyPost_ret (v := .tuple #[.slice none 0 0, .int .i64 k, .int .i64 13]) (by simp [results, Tryd.results18, go_sem]) rfl ⟨_, rfl, SlR.nil _ _ _, HE0.out.ext HEk.out⟩
                    · have HSk2 : Hid (suc (y - pops + push) (([(k : Int) + 1] : List Int).drop (i + 1)) (h2.set t (y - pops + push)) = (E, h')) := by
                        have hsu := HSk.out
                        rw [hdr] at hsu
                        unfold suc at hsu
                        rw [if_neg (by omega), if_neg (by rw [Int.toNat_natCast, hhv]; exact fun z => s2 z.1), Int.toNat_natCast] at hsu
                        exact hsu
                      have hdt : (d.set k true).getD t true = false := by
                        cases z : (d.set k true).getD t true with
                        | false => rfl
                        | true => have := HDNk.out t (by omega) z; omega
                      obtain ⟨wA, hwA⟩ : ∃ wA, wr.setCell ⟨gh, t, none⟩ (.int .i64 (y - pops + push)) = wA := ⟨_, rfl⟩
                      have HWA := Lib.hid hwA
                      have HAk2 : Hid (Arr wA gh 3 (ints (h2.set t (y - pops + push)))) := by
                        have := HAk.out.set (j := t) (by rw [ints_len]; omega) (.int .i64 (y - pops + push))
                        rw [ints_set, hwA] at this
                        exact this
                      have hupA : Upd (fun j => j = gh) wr wA := by rw [← hwA]; exact updAt _
                      have HPk2 := Lib.hid (HPk.out.kept hupA hne.symm)
                      have HNk2 := Lib.hid (HNk.out.kept hupA (fun b hb e => by omega))
                      have HEk2 : Hid (Ext ((w.alloc (.cells #[.slice xa c.fields.length ca, .int .i64 c.glob, .slice xf c.funcs.length cf] 25)).alloc (.cells #[.string f.name, .int .i64 f.params, .int .i64 f.locals, .bool f.result, .slice (some ⟨gi, oi, none⟩) f.code.length cv] 39)) wA) := by rw [← hwA]; exact HEk.out.setNew (by simpa using hghw) _
                      have HBDk2 : Hid (∀ j, -1 ≤ (h2.set t (y - pops + push)).getD j (-1) ∧ (h2.set t (y - pops + push)).getD j (-1) ≤ 2 * ((f.code.length : Int) + 1 - gk')) := fun j => by
                        rw [getD_set_int _ _ _ _ (by omega)]
                        by_cases e : j = t
                        · rw [if_pos e]; omega
                        · rw [if_neg e]; exact HBDk.out j
                      have HDNk2 : Hid (∀ j, j < f.code.length → (d.set k true).getD j true = true → 0 ≤ (h2.set t (y - pops + push)).getD j (-1)) := fun j hj hd => by
                        rw [getD_set_int _ _ _ _ (by omega)]
                        by_cases e : j = t
                        · rw [if_pos e]; omega
                        · rw [if_neg e]; exact HDNk.out j hj hd
                      have HADD := Lib.hid (add_x gp (f.code.length / 64 + 1) ws2 t wA HPk2.out HUk.out (by omega) (by omega))
                      have HBIk2 : Hid (∀ j, bitOf (ws2.set (t / 64) (ws2.getD (t / 64) 0 ||| 2 ^ (t % 64))) j = pend (h2.set t (y - pops + push)) (d.set k true) j) := bits_new h2 _ ws2 t (y - pops + push) (by omega) hdt (by omega) (by omega) HBIk.out
                      have HUk2 := Lib.hid (u64s_add ws2 t HUk.out)
                      have HBA : Hid (∀ j, bitOf (ws2.set (t / 64) (ws2.getD (t / 64) 0 ||| 2 ^ (t % 64))) j = (decide (j = t) || bitOf ws2 j)) := fun j => bit_add ws2 t j (by omega)
                      rw [hwl2] at HADD
                      have hwl3 : (ws2.set (t / 64) (ws2.getD (t / 64) 0 ||| 2 ^ (t % 64))).length = (f.code.length / 64 + 1) := by rw [List.length_set]; exact hwl2
                      obtain ⟨ws3, hws3⟩ : ∃ ws3, ws2.set (t / 64) (ws2.getD (t / 64) 0 ||| 2 ^ (t % 64)) = ws3 := ⟨_, rfl⟩
                      rw [hws3] at HADD HBIk2 HUk2 HBA hwl3
                      have s7 : hv < 0 := by omega
                      have z3 : IntKind.i64.wrap ((t : Int) / 64) = (t : Int) / 64 := IntWalk.i64_in _ (by omega)
                      clear HSk hdr hhv HAk HPk HNk HEk HBDk HDNk HBIk hdt hws3 hwA hupA HUk
                      go_wp2_with fail
                      rw [HWA.out]
                      refine HADD.out.mono ?_
                      rintro e w8 ⟨rfl, hp8, hu8⟩
                      have HP8 := Lib.hid hp8
                      have HA8 := Lib.hid (HAk2.out.kept hu8 hne)
                      have HN8 := Lib.hid (HNk2.out.kept hu8 (fun b hb e => by omega))
                      have HE8 : Hid (Ext ((w.alloc (.cells #[.slice xa c.fields.length ca, .int .i64 c.glob, .slice xf c.funcs.length cf] 25)).alloc (.cells #[.string f.name, .int .i64 f.params, .int .i64 f.locals, .bool f.result, .slice (some ⟨gi, oi, none⟩) f.code.length cv] 39)) w8) := HEk2.out.trans' hu8 (fun j hj e => by simp at hj; omega)
                      clear hp8 hu8 HADD HPk2 HAk2 HNk2 HEk2 a2 a4 c0
                      go_wp2_with (with_reducible (refine stop_at (o := ⟨some 151, _, _, _, _, _⟩) ?_))
                      refine Stop.go ?_
                      by_cases hmn : wd ≤ t / 64
                      · have mm : (wd : Int) ≤ (t : Int) / 64 := by omega
                        have mm1 : min (wd : Int) ((t : Int) / 64) = wd := by omega
                        have mm2 : ¬ ((t : Int) / 64 < (wd : Int)) := by omega
                        have HW8 : Hid (∀ j, bitOf ws3 j = true → 64 * wd ≤ j) := fun j hj => by
                          rw [HBA.out] at hj
                          simp only [Bool.or_eq_true, decide_eq_true_eq] at hj
                          rcases hj with q | q
                          · omega
                          · exact HWDk.out j q
                        refine wpList_run rfl (v := .int .i64 (wd : Int)) ?_ ?_
                        · go_simp
                        go_wp2_with fail
                        go_roundg (1 - (i + 1))
                        case measure => omega
                        case rel => exact ⟨i + 1, _, ws3, wd, by go_num, rfl, rfl, by omega, by simp [hl2], hwd, HSk2, HBDk2, HDNk2, HBIk2, HW8, HA8, HP8, hwl3, HUk2, HN8, HE8⟩
                      · have mm : ¬ ((wd : Int) ≤ (t : Int) / 64) := by omega
                        have mm1 : min (wd : Int) ((t : Int) / 64) = (t : Int) / 64 := by omega
                        have mm2 : ((t : Int) / 64 < (wd : Int)) := by omega
                        have HW8 : Hid (∀ j, bitOf ws3 j = true → 64 * (t / 64) ≤ j) := fun j hj => by
                          rw [HBA.out] at hj
                          simp only [Bool.or_eq_true, decide_eq_true_eq] at hj
                          rcases hj with q | q
                          · omega
                          · have := HWDk.out j q; omega
                        refine wpList_run rfl (v := .int .i64 ((t : Int) / 64)) ?_ ?_
                        · go_simp
                        go_wp2_with fail
                        go_roundg (1 - (i + 1))
                        case measure => omega
                        case rel => exact ⟨i + 1, _, ws3, t / 64, by go_num, rfl, rfl, by omega, by simp [hl2], by omega, HSk2, HBDk2, HDNk2, HBIk2, HW8, HA8, HP8, hwl3, HUk2, HN8, HE8⟩
                · obtain rfl : i = 1 := by omega
                  have hsu := HSk.out
                  rw [show ([(k : Int) + 1] : List Int).drop 1 = [] from rfl] at hsu
                  unfold suc at hsu
                  injection hsu with u1 u2
                  subst u1; subst u2
                  have HX2 : Hid (hts c f gk' h2 (d.set k true) = (xl, xa', xe)) := by
                    have hx := HC.out
                    rw [if_pos rfl] at hx
                    exact hx
                  have HNX := next_x gp (f.code.length / 64 + 1) ws2 wd wr HPk.out HUk.out (by rw [hwl2]; omega) hwd (fun W hW => HTB.out W ((HE0.out.ext HEk.out).trans' hW (fun j hj e => by omega)))
                  rw [hwl2] at HNX
                  have HNXH := Lib.hid HNX
                  clear HC HSk HNX
                  go_wp2_with fail
                  refine HNXH.out.mono ?_
                  rintro e w7 ⟨r, ws4, rfl, hp7, hl4, hu4, hup, hcase⟩
                  have HP7 := Lib.hid hp7
                  have HU4 := Lib.hid hu4
                  have hl4' : ws4.length = (f.code.length / 64 + 1) := hl4.trans hwl2
                  have HA7 := Lib.hid (HAk.out.kept hup hne)
                  have HE7 : Hid (Ext ((w.alloc (.cells #[.slice xa c.fields.length ca, .int .i64 c.glob, .slice xf c.funcs.length cf] 25)).alloc (.cells #[.string f.name, .int .i64 f.params, .int .i64 f.locals, .bool f.result, .slice (some ⟨gi, oi, none⟩) f.code.length cv] 39)) w7) := HEk.out.trans' hup (fun j hj e => by simp at hj; omega)
                  have HFIN : Hid ((((r = -1 ∧ ∀ j, pend h2 (d.set k true) j = false) ∨ ∃ k2 : Nat, r = k2 ∧ k2 < f.code.length ∧ pend h2 (d.set k true) k2 = true ∧ ∀ j, j < k2 → pend h2 (d.set k true) j = false)) ∧ ∀ j, bitOf ws4 j = (pend h2 (d.set k true) j && decide ((j : Int) ≠ r))) := by
                    rcases hcase with ⟨hr, hws, hz⟩ | ⟨k2, hr, _, hb2, hlo, hb4⟩
                    · subst hr; subst hws
                      have hall : ∀ j, pend h2 (d.set k true) j = false := fun j => by
                        cases hz2 : pend h2 (d.set k true) j with
                        | false => rfl
                        | true =>
                          have q := HBIk.out j
                          rw [hz2] at q
                          have := hz j (HWDk.out j q)
                          rw [this] at q; cases q
                      exact ⟨.inl ⟨rfl, hall⟩, fun j => by rw [HBIk.out, hall]; rfl⟩
                    · subst hr
                      have hp2 : pend h2 (d.set k true) k2 = true := (HBIk.out k2).symm.trans hb2
                      refine ⟨.inr ⟨k2, rfl, ?_, hp2, fun j hj => ?_⟩, fun j => ?_⟩
                      · rcases Nat.lt_or_ge k2 f.code.length with q | q
                        · exact q
                        · rw [pend_out _ _ _ (by omega)] at hp2; cases hp2
                      · rw [← HBIk.out]
                        cases hz2 : bitOf ws2 j with
                        | false => rfl
                        | true => rw [hlo j (HWDk.out j hz2) hj] at hz2; cases hz2
                      · rw [hb4, HBIk.out]
                        congr 1
                        rw [decide_eq_decide]
                        omega
                  clear hcase hp7 hu4 hup HNXH hl4
                  go_wp2_with fail
                  go_roundg gk'
                  case measure => omega
                  case rel => exact ⟨h2, _, ws4, r, rfl, hl2, by simp [hdl], by have := HCK.out; omega, by omega, HX2, HBDk, HDNk, HFIN.out.1, HFIN.out.2, HA7, HP7, hl4', HU4, HE7⟩

end Go.Proofs.YtlbnilhbfiidmaaDoor
