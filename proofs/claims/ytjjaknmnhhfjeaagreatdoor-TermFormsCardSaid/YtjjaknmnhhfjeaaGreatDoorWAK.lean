/- The texts Y15 N36 Y16 NX N51 N52 N59 N60 N62, one behind the other. -/
import Derived.Test.YtjjaknmnhhfjeaaGreatDoorWAJ
import Derived.Test.YtjjaknmnhhfjeaaGreatDoorWAF
import Derived.Test.YtjjaknmnhhfjeaaGreatDoorWAI
import Derived.Test.YtjjaknmnhhfjeaaGreatDoorWAG
/- end and Parse of the program. -/
namespace Go.Proofs.YtjjaknmnhhfjeaaGreatDoor
open Go.RowKit Go.Hw Go
set_option linter.unusedVariables false
set_option linter.unusedSimpArgs false

open Tm
theorem tkF_ended (wd : By → Wd) (hwd : ∀ x, (wd x).kind ≠ 5) (s : By) : ∀ (n i ln bg : Nat) (l l' : List Tok), (∀ t ∈ l, t.kind ≠ 5) → tkF wd s n i ln bg l = .ok l' → Ended l' ∧ l'.length ≤ l.length + n + 1 := by
  have hfin : ∀ (l : List Tok) (t : Tok), (∀ t ∈ l, t.kind ≠ 5) → t.kind = 5 → Ended (l ++ [t]) := fun l t h ht => by
    have hlen : (l ++ [t]).length = l.length + 1 := by simp
    refine ⟨by omega, ?_, fun i hi => ?_⟩
    · rw [hlen, Nat.add_sub_cancel]
      unfold tk
      rw [List.getD_eq_getElem?_getD, List.getElem?_append_right (Nat.le_refl _), Nat.sub_self]
      exact ht
    · rw [hlen, Nat.add_sub_cancel] at hi
      unfold tk
      rw [List.getD_eq_getElem?_getD, List.getElem?_append_left hi, List.getElem?_eq_getElem hi]
      exact h _ (List.getElem_mem hi)
  have hsn : ∀ (l : List Tok) (t : Tok), (∀ t ∈ l, t.kind ≠ 5) → t.kind ≠ 5 → ∀ x ∈ l ++ [t], x.kind ≠ 5 := fun l t h ht x hx => by
    rcases List.mem_append.1 hx with h1 | h1
    · exact h x h1
    · rw [List.mem_singleton.1 h1]; exact ht
  intro n
  induction n with
  | zero =>
    intro i ln bg l l' h e
    rw [tkF] at e
    injection e with e
    subst e
    exact ⟨hfin _ _ h rfl, by simp⟩
  | succ n ih =>
    intro i ln bg l l' h e
    rw [tkF] at e
    split at e
    · injection e with e
      subst e
      exact ⟨hfin _ _ h rfl, by rw [List.length_append, List.length_singleton]; omega⟩
    split at e
    · split at e
      · have := ih _ _ _ _ _ h e; exact ⟨this.1, by omega⟩
      · have := ih _ _ _ _ _ h e; exact ⟨this.1, by omega⟩
    split at e
    · have := ih _ _ _ _ _ h e; exact ⟨this.1, by omega⟩
    split at e
    · split at e
      · have := ih _ _ _ _ _ (hsn _ _ h (hwd _)) e
        rw [List.length_append, List.length_singleton] at this
        exact ⟨this.1, by omega⟩
      · cases e
    split at e
    · cases e
    · have := ih _ _ _ _ _ (hsn _ _ h (by simp)) e
      rw [List.length_append, List.length_singleton] at this
      exact ⟨this.1, by omega⟩
theorem wdF_kind (iF : By → Int × Bool) (x : By) : (wdF iF x).kind ≠ 5 := by
  unfold wdF
  split
  · simp
  · split <;> simp
theorem tok_ended {iF : By → Int × Bool} {s : By} {l : List Tok} (h : tokF (wdF iF) s = .ok l) : Ended l ∧ l.length ≤ 65537 := by
  unfold tokF at h
  split at h
  · cases h
  · rename_i hs
    have := tkF_ended (wdF iF) (wdF_kind iF) s s.size 0 1 0 [] l (fun t ht => by cases ht) h
    exact ⟨this.1, by have := this.2; simp at this; omega⟩
set_option maxRecDepth 100000 in
set_option maxHeartbeats 4000000 in
theorem end_x (rb : Nat) (la : Option Addr) (lc : Nat) (S : Nat → Prop) (l : List Tok) (i : Nat) (w : World) (hR : Rd rb la lc S l w i false) (hi : i < l.length) (hl : l.length ≤ 1000000) (hk : (tk l i).kind = 5) :
    Calls Tryz.prog 64 #[.pointer (some ⟨rb, 0, none⟩)] w fun e w' => e = .returned (.tuple #[.agg #[.int .i64 0, .int .i64 0], .int .i64 0]) ∧ Ext w w' := by
  obtain ⟨gg, off, hga, hSg, hat⟩ := (TkR.at_ hR.tk (Nat.lt_of_le_of_lt (Nat.zero_le _) hi)).2
  subst hga
  obtain ⟨q0, q1, q2, q3, q4⟩ := hat i hi
  have HR := Lib.hid hR
  obtain ⟨⟨kd, tx, tn, tl, tc⟩, ht⟩ : ∃ t, tk l i = t := ⟨_, rfl⟩
  rw [ht] at q0 q1 q2 q3 q4
  try rw [ht]
  have i0 : (0 : Int) ≤ (i : Int) := by omega
  have i1 : (i : Int) < (l.length : Int) := by omega
  dsimp only at q0 q1 q2 q3 q4
  clear hat hR
  rw [ht] at hk
  dsimp only at hk
  subst hk
  clear ht
  have HE0 := Lib.hid ((Upd.refl (fun _ => False) w).alloc (.cells #[.int .i64 0, .int .i64 0] 45))
  have HP0 := Lib.hid (alloc0 w (.cells #[.int .i64 0, .int .i64 0] 45))
  have HBR0 := Lib.hid (HE0.out.heap HR.out.box (fun h => h))
  obtain ⟨rp, hrp⟩ : ∃ x, w.heap.size = x := ⟨_, rfl⟩
  rw [hrp] at HP0
  have hs0 := alloc_size w (.cells #[.int .i64 0, .int .i64 0] 45)
  go_enter Tryz.func64, Tryz.ntmps64
  go_upto_region 1 with fail
  try rw [hrp]
  have q0 := HE0.out.cell q0 (fun h => h)
  have q1 := HE0.out.cell q1 (fun h => h)
  have q2 := HE0.out.cell q2 (fun h => h)
  have q3 := HE0.out.cell q3 (fun h => h)
  have q4 := HE0.out.cell q4 (fun h => h)
  obtain ⟨w1, hw1⟩ : ∃ w1, w1 = w.alloc (.cells #[.int .i64 0, .int .i64 0] 45) := ⟨_, rfl⟩
  rw [← hw1] at HE0 HP0 HBR0 q0 q1 q2 q3 q4 hs0 ⊢
  have HBR := HBR0
  clear hw1 HR
  have X0 := fun x : XW w1 => cellRow (x.ext.heap HBR.out (fun h => h)) 0 (.slice (some ⟨gg, off, none⟩) l.length lc) rfl
  have X1 := fun x : XW w1 => cellRow (x.ext.heap HBR.out (fun h => h)) 1 (.int .i64 (i : Int)) rfl
  have X2 := fun x : XW w1 => x.ext.cell q0 (fun h => h)
  have X3 := fun x : XW w1 => x.ext.cell q1 (fun h => h)
  have X4 := fun x : XW w1 => x.ext.cell q2 (fun h => h)
  have X5 := fun x : XW w1 => x.ext.cell q3 (fun h => h)
  have X6 := fun x : XW w1 => x.ext.cell q4 (fun h => h)
  refine wp_region_par (α := Nat) 11 [(11, 2)] [[], [0], [0, 1], [0, 1, 2], [], [4], [4, 5], [4, 5, 6], [0, 1, 2, 3, 4, 5, 6, 7], [0, 1, 2, 3, 4, 5, 6, 7, 8], [], [0, 1, 2, 3, 4, 5, 6, 7, 8, 9, 10]]
    [none, none, none, none, none, none, none, none, none, none, some (annTk w1.heap.size)] [false, false, false, false, false, false, false, false, false, false, true] (by kernel_rfl) (by kernel_rfl) rfl (fun _ _ d _ _ h => by cases d <;> exact h) ?_
  simp only [List.take_succ_cons, List.take_zero, pickO, List.getElem?_cons_zero, List.getElem?_cons_succ]
  iterate 10 (refine can_pure0 rfl (fun K hK => ?_); go_simp; refine hK _ ?_; clear hK K)
  refine can_mem _ rfl (by go_simp) (fun W hW hG K hK => ?_) (fun K x hK => ?_)
  · go_simp
    exact hK W.heap.size _ ((Upd.refl (fun _ => False) W).alloc _) ⟨hW.size, alloc0 _ _⟩
  refine hK _ ?_; clear hK K
  dsimp only [annTk]
  refine can_end (fun W hW hG => ?_)
  obtain ⟨hxs, hxb⟩ := hG _ (List.mem_singleton.2 rfl)
  have HBX := Lib.hid hxb
  have HWW := Lib.hid hW
  have z0 := cellRow hxb 0 (.int .i64 0) rfl
  have z1 := cellRow hxb 1 (.string ⟨#[]⟩) rfl
  have z2 := cellRow hxb 2 (.int .i64 0) rfl
  have z3 := cellRow hxb 3 (.int .i64 0) rfl
  have z4 := cellRow hxb 4 (.int .i64 0) rfl
  have fz := fun j => frozenRow hxb j
  clear hG hxb hW X0 X1 X2 X3 X4 X5 X6
  refine mix_two ?_
  intro K hK
  go_simp
  refine hK _ _ ?_
  clear hK K
  have hrx := st5_heap HBX.out (.int .i64 5) (.string tx) (.int .i64 tn) (.int .i64 tl) (.int .i64 tc)
  have hux := st5_upd W x (.int .i64 5) (.string tx) (.int .i64 tn) (.int .i64 tl) (.int .i64 tc)
  have HRX := Lib.hid hrx
  have HUX := Lib.hid hux
  clear hrx hux z0 z1 z2 z3 z4 fz
  generalize (((((W.setCell ⟨x, 0, none⟩ (.int .i64 5)).setCell ⟨x, 1, none⟩ (.string tx)).setCell ⟨x, 2, none⟩ (.int .i64 tn)).setCell ⟨x, 3, none⟩ (.int .i64 tl)).setCell ⟨x, 4, none⟩ (.int .i64 tc)) = w5 at *
  have HE5 : Hid (Ext w1 w5) := Lib.hid (HWW.out.trans' HUX.out (fun j hj e => by omega))
  have k0 := cellRow HRX.out 0 (.int .i64 5) rfl
  have k1 := cellRow HRX.out 1 (.string tx) rfl
  have k2 := cellRow HRX.out 2 (.int .i64 tn) rfl
  have k3 := cellRow HRX.out 3 (.int .i64 tl) rfl
  have k4 := cellRow HRX.out 4 (.int .i64 tc) rfl
  simp only [wpMix]
  have HB5 := Lib.hid (HE5.out.heap HBR.out (fun h => h))
  have HP5 := Lib.hid (HE5.out.heap HP0.out (fun h => h))
  have HF := Lib.hid (HE0.out.trans HE5.out)
  have c0 := cellRow HB5.out 0 (.slice (some ⟨gg, off, none⟩) l.length lc) rfl
  have c1 := cellRow HB5.out 1 (.int .i64 (i : Int)) rfl
  have c2 := cellRow HB5.out 2 (.bool false) rfl
  have p0 := cellRow HP5.out 0 (.int .i64 0) rfl
  have p1 := cellRow HP5.out 1 (.int .i64 0) rfl
  have fp := fun j => frozenRow HP5.out j
  clear HBX HWW HUX HE5 q0 q1 q2 q3 q4
  go_wp2_with fail
  have hr2 := st2_heap HP5.out (.int .i64 0) (.int .i64 0)
  have hu2 := st2_upd w5 rp (.int .i64 0) (.int .i64 0)
  have e0 := cellRow hr2 0 _ rfl
  have e1 := cellRow hr2 1 _ rfl
  refine bodyPost_ret (v := .tuple #[.agg #[.int .i64 0, .int .i64 0], .int .i64 0]) (by simp [results, Tryz.results64, go_sem, e0, e1]) rfl ?_
  exact ⟨rfl, HF.out.trans' hu2 (fun j hj e => by omega)⟩
set_option maxRecDepth 100000 in
set_option maxHeartbeats 8000000 in
theorem parse_ok_x (iF : By → Int × Bool) (s : By) (l : List Tok) (t : Tm) (j : Nat) (w : World) (htab : AscT w) (hwd : ∀ i k W, i < k → k ≤ s.size → (∀ j, i ≤ j → j < k → 2 ≤ clsN (byt s j)) → Ext w W → Calls Tryz.prog 99 #[.string (s.extract i k)] W fun e W' => WdR (wdF iF (s.extract i k)) e ∧ Ext W W')
    (h1 : tokF (wdF iF) s = .ok l) (h2 : pT l l.length 0 = .ok t j) (h3 : (tk l j).kind = 5) (h4 : formed nmB t = true) (h5 : (sortsT t).isSome = true) :
    Calls Tryz.prog 25 #[.string s] w fun e w' => ∃ u, e = .returned (.tuple #[tV t u, .agg #[.int .i64 0, .int .i64 0], .int .i64 0]) ∧ TlR (fun k => w.heap.size ≤ k ∧ k < w'.heap.size) w' t.kids u ∧ Ext w w' := by
  obtain ⟨hen, hll⟩ := tok_ended h1
  have hl0 := hen.pos
  have hjl := (pT_fwd hen l.length 0 hl0).2.1
  rw [h2] at hjl
  have hjl : j < l.length := hjl
  have hsz := pT_size _ _ _ _ h2
  have HEN := Lib.hid hen
  have HK5 := Lib.hid h3
  have HP := Lib.hid h2
  have HTAB := Lib.hid htab
  have HE0 := Lib.hid (((Upd.refl (fun _ => False) w).alloc (.cells #[.string ⟨#[]⟩, .string ⟨#[]⟩, .slice none 0 0] 24)).alloc (.cells #[.int .i64 0, .int .i64 0] 45))
  have HZ0 := Lib.hid (allocOld (alloc0 w (.cells #[.string ⟨#[]⟩, .string ⟨#[]⟩, .slice none 0 0] 24)) (.cells #[.int .i64 0, .int .i64 0] 45))
  have HQ0 := Lib.hid (alloc_at (w.alloc (.cells #[.string ⟨#[]⟩, .string ⟨#[]⟩, .slice none 0 0] 24)) (.cells #[.int .i64 0, .int .i64 0] 45) (n := w.heap.size + 1) (by simp))
  have hs0 : ((w.alloc (.cells #[.string ⟨#[]⟩, .string ⟨#[]⟩, .slice none 0 0] 24)).alloc (.cells #[.int .i64 0, .int .i64 0] 45)).heap.size = w.heap.size + 2 := by simp
  obtain ⟨b0, hb0⟩ : ∃ x, w.heap.size = x := ⟨_, rfl⟩
  rw [hb0] at HZ0 HQ0
  have HTO := Lib.hid (tokens_x iF s ((w.alloc (.cells #[.string ⟨#[]⟩, .string ⟨#[]⟩, .slice none 0 0] 24)).alloc (.cells #[.int .i64 0, .int .i64 0] 45)) (asc_ext htab HE0.out) (fun i k W a b c hW => hwd i k W a b c (HE0.out.trans hW)))
  rw [h1] at HTO
  have hfm := h4
  clear hwd h1 h2 h3 htab hen
  go_enter Tryz.func25, Tryz.ntmps25
  go_wp2_with fail
  try rw [hb0]
  generalize ((w.alloc (.cells #[.string ⟨#[]⟩, .string ⟨#[]⟩, .slice none 0 0] 24)).alloc (.cells #[.int .i64 0, .int .i64 0] 45)) = w1 at *
  refine HTO.out.mono ?_
  rintro e w2 ⟨⟨v, rfl, hTk⟩, hw2⟩
  obtain ⟨la, lc, hv⟩ := SlR.shape hTk
  subst hv
  have HTK := Lib.hid hTk
  have HW2 := Lib.hid (HE0.out.trans hw2)
  have HX2 := Lib.hid hw2
  have HZ2 := Lib.hid (hw2.heap HZ0.out (fun h => h))
  have HQ2 := Lib.hid (hw2.heap HQ0.out (fun h => h))
  have hs2 := hw2.size
  clear hw2 hTk HTO
  have HB3 := Lib.hid (alloc0 (w2.alloc (.cells #[.int .i64 0, .int .i64 0] 45)) (.cells #[.slice la l.length lc, .int .i64 0, .bool false] 103))
  have HE3 := Lib.hid (((Upd.refl (fun _ => False) w2).alloc (.cells #[.int .i64 0, .int .i64 0] 45)).alloc (.cells #[.slice la l.length lc, .int .i64 0, .bool false] 103))
  have hs3 : ((w2.alloc (.cells #[.int .i64 0, .int .i64 0] 45)).alloc (.cells #[.slice la l.length lc, .int .i64 0, .bool false] 103)).heap.size = w2.heap.size + 2 := by simp
  go_upto_region 5 with fail
  obtain ⟨rb, hrb⟩ : ∃ x, w2.heap.size + 1 = x := ⟨_, rfl⟩
  rw [show (w2.alloc (.cells #[.int .i64 0, .int .i64 0] 45)).heap.size = rb by rw [alloc_size]; exact hrb] at HB3
  try rw [hrb]
  generalize ((w2.alloc (.cells #[.int .i64 0, .int .i64 0] 45)).alloc (.cells #[.slice la l.length lc, .int .i64 0, .bool false] 103)) = w3 at *
  have HRD : Hid (Rd rb la lc (fun k => w1.heap.size + 1 ≤ k ∧ k < w2.heap.size) l w3 0 false) := Lib.hid ⟨HB3.out, HTK.out.ext HE3.out, fun h => by omega⟩
  have HTM := Lib.hid (term_x rb la lc (fun k => w1.heap.size + 1 ≤ k ∧ k < w2.heap.size) l HEN.out (by omega) l.length 0 false w3 HRD.out hl0 (by omega) (fun k hk => by omega))
  rw [if_neg (by decide), HP.out] at HTM
  go_wp2_with fail
  refine HTM.out.mono ?_
  rintro e w4 ⟨t', u, Bx, rfl, hT4, hB4, hu4, hm4⟩
  obtain ⟨rfl, hr4⟩ : t' = t ∧ Rd rb la lc (fun k => w1.heap.size + 1 ≤ k ∧ k < w2.heap.size) l w4 j false := hm4
  obtain ⟨ya, yc, hy⟩ := TlO.shape hT4
  subst hy
  have HT4 : Hid (TlR (fun k => w3.heap.size ≤ k ∧ k < w4.heap.size) w4 t'.kids (.slice ya t'.kids.length yc)) := Lib.hid ((TlO.read hT4).weaken hB4)
  have HR4 := Lib.hid hr4
  have hs4 := hu4.size
  have HU4 : Hid (Ext w w4) := Lib.hid ((HW2.out.trans HE3.out).trans' hu4 (fun k hk e => by omega))
  have HZ4 := Lib.hid (hu4.heap (HE3.out.heap HZ2.out (fun h => h)) (by omega))
  have HQ4 := Lib.hid (hu4.heap (HE3.out.heap HQ2.out (fun h => h)) (by omega))
  clear hT4 hB4 hu4 hr4 HTM HRD
  have HO5 := Lib.hid (alloc0 w4 (.cells #[.string t'.name, .string t'.sort, .slice ya t'.kids.length yc] 24))
  have HE5 := Lib.hid ((Upd.refl (fun _ => False) w4).alloc (.cells #[.string t'.name, .string t'.sort, .slice ya t'.kids.length yc] 24))
  have hs5 := alloc_size w4 (.cells #[.string t'.name, .string t'.sort, .slice ya t'.kids.length yc] 24)
  go_upto_region 6 with fail
  obtain ⟨nt, hnt⟩ : ∃ x, w4.heap.size = x := ⟨_, rfl⟩
  try rw [hnt] at HO5
  try rw [hnt]
  generalize w4.alloc (.cells #[.string t'.name, .string t'.sort, .slice ya t'.kids.length yc] 24) = w5 at *
  have HEND := Lib.hid (end_x rb la lc _ l j w5 (HR4.out.ext HE5.out) hjl (by omega) HK5.out)
  go_wp2_with fail
  refine HEND.out.mono ?_
  rintro e w6 ⟨rfl, hw6⟩
  have HE6 := Lib.hid ((HE5.out.trans hw6).alloc (.cells #[.int .i64 0, .int .i64 0] 45))
  have HO6 := Lib.hid (allocOld (hw6.heap HO5.out (fun h => h)) (.cells #[.int .i64 0, .int .i64 0] 45))
  have hs6 := hw6.size
  have hs6' := alloc_size w6 (.cells #[.int .i64 0, .int .i64 0] 45)
  clear hw6 HEND
  go_upto_region 9 with fail
  generalize w6.alloc (.cells #[.int .i64 0, .int .i64 0] 45) = w7 at *
  have HT7 := Lib.hid (HT4.out.ext HE6.out)
  have HU7 := Lib.hid (HU4.out.trans HE6.out)
  have t0 := cellRow HO6.out 0 (.string t'.name) rfl
  have t1 := cellRow HO6.out 1 (.string t'.sort) rfl
  have t2 := cellRow HO6.out 2 (.slice ya t'.kids.length yc) rfl
  have HF := Lib.hid (formed_x t' (tV t' (.slice ya t'.kids.length yc)) w7 (asc_ext HTAB.out HU7.out) ⟨ya, yc, rfl, HT7.out.weaken (fun k hk => by omega)⟩ (by omega))
  rw [hfm] at HF
  dsimp only [tV] at HF
  go_wp2_with fail
  refine HF.out.mono ?_
  rintro e w8 ⟨rfl, hw8⟩
  have HO8 := Lib.hid (hw8.heap HO6.out (fun h => h))
  have HT8 := Lib.hid (HT7.out.ext hw8)
  have HE8 := Lib.hid hw8
  have hs8 := hw8.size
  clear hw8 HF t0 t1 t2 hfm
  have t0 := cellRow HO8.out 0 (.string t'.name) rfl
  have t1 := cellRow HO8.out 1 (.string t'.sort) rfl
  have t2 := cellRow HO8.out 2 (.slice ya t'.kids.length yc) rfl
  have HL9 := Lib.hid (alloc0 w8 (.cells #[.string t'.name, .string t'.sort, .slice ya t'.kids.length yc] 24))
  have HE9 := Lib.hid ((Upd.refl (fun _ => False) w8).alloc (.cells #[.string t'.name, .string t'.sort, .slice ya t'.kids.length yc] 24))
  have hs9 := alloc_size w8 (.cells #[.string t'.name, .string t'.sort, .slice ya t'.kids.length yc] 24)
  have HSO := Lib.hid (sorts_x t' w8.heap.size 0 1 0 yc ya (w8.alloc (.cells #[.string t'.name, .string t'.sort, .slice ya t'.kids.length yc] 24)) ⟨cellRow HL9.out 0 _ rfl, cellRow HL9.out 1 _ rfl, cellRow HL9.out 2 _ rfl⟩ ((HT8.out.ext HE9.out).weaken (fun k hk => by omega)) (by omega))
  go_wp2_with fail
  refine HSO.out.mono ?_
  rintro e w9 ⟨hp, hw9⟩
  obtain ⟨mm, hmm⟩ := Option.isSome_iff_exists.1 h5
  rw [hmm] at hp
  obtain ⟨bq, rfl, _, _⟩ := hp
  have HE10 := Lib.hid (HE8.out.trans (HE9.out.trans hw9))
  have HO10 := Lib.hid ((HE9.out.trans hw9).heap HO8.out (fun h => h))
  have HZ10 := Lib.hid ((HE6.out.trans HE10.out).heap HZ4.out (fun h => h))
  have HQ10 := Lib.hid ((HE6.out.trans HE10.out).heap HQ4.out (fun h => h))
  have HT10 := Lib.hid (HT7.out.ext HE10.out)
  have HU10 := Lib.hid (HU7.out.trans HE10.out)
  have hs10 := hw9.size
  clear hw9 HSO t0 t1 t2 hmm
  have t0 := cellRow HO10.out 0 (.string t'.name) rfl
  have t1 := cellRow HO10.out 1 (.string t'.sort) rfl
  have t2 := cellRow HO10.out 2 (.slice ya t'.kids.length yc) rfl
  have z0 := cellRow HZ10.out 0 (.string ⟨#[]⟩) rfl
  have z1 := cellRow HZ10.out 1 (.string ⟨#[]⟩) rfl
  have z2 := cellRow HZ10.out 2 (.slice none 0 0) rfl
  have p0 := cellRow HQ10.out 0 (.int .i64 0) rfl
  have p1 := cellRow HQ10.out 1 (.int .i64 0) rfl
  have fz := fun j => frozenRow HZ10.out j
  have fp := fun j => frozenRow HQ10.out j
  go_wp2_with fail
  have hz := st3_heap HZ10.out (.string t'.name) (.string t'.sort) (.slice ya t'.kids.length yc)
  have huz := st3_upd' w9 b0 (.string t'.name) (.string t'.sort) (.slice ya t'.kids.length yc)
  have hq := st2_heap (huz.heap HQ10.out (by omega)) (.int .i64 0) (.int .i64 0)
  have huq := st2_upd ((((w9.setCell ⟨b0, 0, none⟩ (.string t'.name)).setCell ⟨b0, 1, none⟩ (.string t'.sort)).setCell ⟨b0, 2, none⟩ (.slice ya t'.kids.length yc))) (b0 + 1) (.int .i64 0) (.int .i64 0)
  have hz2 := huq.heap hz (by omega)
  have e0 := cellRow hz2 0 _ rfl
  have e1 := cellRow hz2 1 _ rfl
  have e2 := cellRow hz2 2 _ rfl
  have e3 := cellRow hq 0 _ rfl
  have e4 := cellRow hq 1 _ rfl
  refine bodyPost_ret (v := .tuple #[.agg #[.string t'.name, .string t'.sort, .slice ya t'.kids.length yc], .agg #[.int .i64 0, .int .i64 0], .int .i64 0]) (by simp [results, Tryz.results25, go_sem, e0, e1, e2, e3, e4]) rfl ?_
  have hsa := huz.size
  have hsb := huq.size
  exact ⟨_, rfl, ((HT10.out.kept huz (fun k hk e => by have := hk.1; omega)).kept huq (fun k hk e => by have := hk.1; omega)).weaken (fun k hk => ⟨by have := hk.1; omega, by have := hk.2; omega⟩), (HU10.out.trans' huz (fun k hk e => by omega)).trans' huq (fun k hk e => by omega)⟩

end Go.Proofs.YtjjaknmnhhfjeaaGreatDoor

/- Size and Depth. -/
namespace Go.Proofs.YtjjaknmnhhfjeaaGreatDoor
open Go.RowKit Go.Hw Go
set_option linter.unusedVariables false
set_option linter.unusedSimpArgs false

open Tm Go.Sort Go.Proofs Go.ChangeMaps
theorem depths_take (L : List Tm) (k : Nat) (h : k < L.length) : depths (L.take (k + 1)) = max (depths (L.take k)) (tg L k).depth := by
  have : L.take (k + 1) = L.take k ++ [tg L k] := by
    rw [List.take_add_one]
    congr 1
    unfold tg
    rw [List.getD_eq_getElem?_getD, List.getElem?_eq_getElem h]
    rfl
  rw [this, depths_append]
  simp [depths]
theorem depth_le_size : ∀ t : Tm, t.depth ≤ t.size := by
  refine Tm.ind (fun n s L ih => ?_)
  rw [depth_eq, size_eq]
  have : ∀ M : List Tm, (∀ x ∈ M, x.depth ≤ x.size) → depths M ≤ sizes M := by
    intro M
    induction M with
    | nil => intro _; simp [depths]
    | cons x M ih =>
      intro h
      have h1 := h x (List.mem_cons_self ..)
      have h2 := ih (fun y hy => h y (List.mem_cons_of_mem _ hy))
      simp only [depths, sizes]
      omega
  have := this L ih
  simp only [Tm.kids]
  omega
theorem depths_le_sizes (M : List Tm) : depths M ≤ sizes M := by
  have := depth_le_size (.mk nul nul M)
  rw [depth_eq, size_eq] at this
  simp only [Tm.kids] at this
  omega
set_option maxRecDepth 100000 in
set_option maxHeartbeats 2000000 in
theorem rSize_x : ∀ (t : Tm) (v : Value) (S : Nat → Prop) (w : World), TmR S w t v → t.size ≤ 1000000 →
    Calls Tryz.prog 42 #[v] w fun e w' => e = .returned (.int .i64 (t.size : Nat)) ∧ Ext w w' := by
  refine Tm.ind (fun n s L ih => ?_)
  intro v S w hT hsz
  obtain ⟨a, cap, rfl, hT⟩ := hT
  dsimp only [tV, Tm.name, Tm.sort, Tm.kids] at hT ⊢
  have HTL := Lib.hid hT
  have HIH := Lib.hid ih
  have hszL : sizes L + 1 ≤ 1000000 := by rw [size_eq] at hsz; simp only [Tm.kids] at hsz; omega
  have HSL := Lib.hid hszL
  have hlL : L.length ≤ 1000000 := by have h1 := length_le_sizes L; omega
  have HZ := Lib.hid ((Upd.refl (fun _ => False) w).alloc (.cells #[.string n, .string s, .slice a L.length cap] 24))
  have HB := Lib.hid (alloc0 w (.cells #[.string n, .string s, .slice a L.length cap] 24))
  clear ih hT hsz hszL
  obtain ⟨Z, hZZ⟩ : ∃ Z, (Tm.mk n s L).size = Z := ⟨_, rfl⟩
  rw [hZZ]
  have HV : Hid (Z = sizes L + 1) := Lib.hid (by rw [← hZZ, size_eq]; rfl)
  clear hZZ
  go_enter Tryz.func42, Tryz.ntmps42
  go_wp2_with fail
  generalize w.alloc (.cells #[.string n, .string s, .slice a L.length cap] 24) = w1 at *
  go_loopg [3, 4] L.length (fun gk nv iv wr => ∃ k : Nat, nv = .int .i64 ((sizes (L.take k) + 1 : Nat) : Int) ∧ iv = .int .i64 (k : Int) ∧ gk = L.length - k ∧ k ≤ L.length ∧ Hid (Ext w1 wr))
  case atStart => exact ⟨0, rfl, rfl, rfl, Nat.zero_le _, Lib.hid (Upd.refl _ _)⟩
  case round =>
    obtain ⟨k, rfl, rfl, rfl, hk, HE⟩ := hrel
    have hst := sizes_take_le L k
    have HBr := Lib.hid (HE.out.heap HB.out (fun h => h))
    have b0 := cellRow HBr.out 0 (.string n) rfl
    have b1 := cellRow HBr.out 1 (.string s) rfl
    have b2 := cellRow HBr.out 2 (.slice a L.length cap) rfl
    by_cases hlt : k < L.length
    · obtain ⟨g, off, hga, _, hat⟩ := (HTL.out.ext (HZ.out.trans HE.out)).at_ (by omega)
      subst hga
      obtain ⟨xa, xc, q0, q1, q2, hkid⟩ := hat k hlt
      rw [← Nat.add_assoc] at q1 q2
      have z0 : (0 : Int) ≤ (k : Int) := by omega
      have z1 : (k : Int) < (L.length : Int) := by omega
      have z2 : decide ((k : Int) < (L.length : Int)) = true := decide_eq_true z1
      have z2' : decide (k < L.length) = true := decide_eq_true hlt
      have HIX := Lib.hid (HIH.out (tg L k) (tg_mem L k hlt) _ S wr ⟨xa, xc, rfl, hkid⟩ (by have h1 := HSL.out; have h2 := size_mem (tg_mem L k hlt); omega))
      dsimp only [tV] at HIX
      have hsx := sizes_take L k hlt
      have hsl2 := sizes_take_le L (k + 1)
      obtain ⟨N, hN⟩ : ∃ N, sizes (L.take k) = N := ⟨_, rfl⟩
      obtain ⟨x, hx⟩ : ∃ x, tg L k = x := ⟨_, rfl⟩
      rw [hx] at q0 q1 q2 HIX hsx
      rw [hN] at hsx hst ⊢
      have HSX := Lib.hid hsx
      have hsb := HSL.out
      have z5 : ((N + 1 : Nat) : Int) + (x.size : Int) = ((N + x.size + 1 : Nat) : Int) := by omega
      have z6 : (N + x.size + 1 : Nat) ≤ 1000000 := by omega
      have HN := Lib.hid hN
      clear hat hkid hx hsx hst hsl2 hsb hN
      go_wp2_with fail
      refine HIX.out.mono ?_
      rintro e w4 ⟨rfl, hw4⟩
      have HE4 := Lib.hid (HE.out.trans hw4)
      clear hw4 HIX b0 b1 b2 q0 q1 q2
      go_wp2_with fail
      go_roundg (L.length - (k + 1))
      case measure => omega
      case rel => exact ⟨k + 1, by rw [HSX.out]; go_num, by go_num, rfl, by omega, HE4⟩
    · obtain rfl : k = L.length := by omega
      have z2 : decide ((L.length : Int) < (L.length : Int)) = false := decide_eq_false (by omega)
      rw [List.take_length, ← HV.out]
      go_wp2_with fail
      go_ret
      exact ⟨rfl, (HZ.out.trans HE.out)⟩
set_option maxRecDepth 100000 in
set_option maxHeartbeats 2000000 in
theorem rDepth_x : ∀ (t : Tm) (v : Value) (S : Nat → Prop) (w : World), TmR S w t v → t.size ≤ 1000000 →
    Calls Tryz.prog 43 #[v] w fun e w' => e = .returned (.int .i64 (t.depth : Nat)) ∧ Ext w w' := by
  refine Tm.ind (fun n s L ih => ?_)
  intro v S w hT hsz
  obtain ⟨a, cap, rfl, hT⟩ := hT
  dsimp only [tV, Tm.name, Tm.sort, Tm.kids] at hT ⊢
  have HTL := Lib.hid hT
  have HIH := Lib.hid ih
  have hszL : sizes L + 1 ≤ 1000000 := by rw [size_eq] at hsz; simp only [Tm.kids] at hsz; omega
  have HSL := Lib.hid hszL
  have hlL : L.length ≤ 1000000 := by have h1 := length_le_sizes L; omega
  have HZ := Lib.hid ((Upd.refl (fun _ => False) w).alloc (.cells #[.string n, .string s, .slice a L.length cap] 24))
  have HB := Lib.hid (alloc0 w (.cells #[.string n, .string s, .slice a L.length cap] 24))
  clear ih hT hsz hszL
  obtain ⟨Z, hZZ⟩ : ∃ Z, (Tm.mk n s L).depth = Z := ⟨_, rfl⟩
  rw [hZZ]
  have HV : Hid (Z = depths L + 1) := Lib.hid (by rw [← hZZ, depth_eq]; rfl)
  clear hZZ
  go_enter Tryz.func43, Tryz.ntmps43
  go_wp2_with fail
  generalize w.alloc (.cells #[.string n, .string s, .slice a L.length cap] 24) = w1 at *
  go_loopg [3, 4] L.length (fun gk nv iv wr => ∃ k : Nat, nv = .int .i64 ((depths (L.take k) : Nat) : Int) ∧ iv = .int .i64 (k : Int) ∧ gk = L.length - k ∧ k ≤ L.length ∧ Hid (Ext w1 wr))
  case atStart => exact ⟨0, rfl, rfl, rfl, Nat.zero_le _, Lib.hid (Upd.refl _ _)⟩
  case round =>
    obtain ⟨k, rfl, rfl, rfl, hk, HE⟩ := hrel
    have hst := Nat.le_trans (depths_le_sizes _) (sizes_take_le L k)
    have HBr := Lib.hid (HE.out.heap HB.out (fun h => h))
    have b0 := cellRow HBr.out 0 (.string n) rfl
    have b1 := cellRow HBr.out 1 (.string s) rfl
    have b2 := cellRow HBr.out 2 (.slice a L.length cap) rfl
    by_cases hlt : k < L.length
    · obtain ⟨g, off, hga, _, hat⟩ := (HTL.out.ext (HZ.out.trans HE.out)).at_ (by omega)
      subst hga
      obtain ⟨xa, xc, q0, q1, q2, hkid⟩ := hat k hlt
      rw [← Nat.add_assoc] at q1 q2
      have z0 : (0 : Int) ≤ (k : Int) := by omega
      have z1 : (k : Int) < (L.length : Int) := by omega
      have z2 : decide ((k : Int) < (L.length : Int)) = true := decide_eq_true z1
      have z2' : decide (k < L.length) = true := decide_eq_true hlt
      have HIX := Lib.hid (HIH.out (tg L k) (tg_mem L k hlt) _ S wr ⟨xa, xc, rfl, hkid⟩ (by have h1 := HSL.out; have h2 := size_mem (tg_mem L k hlt); omega))
      dsimp only [tV] at HIX
      have hsx := depths_take L k hlt
      obtain ⟨N, hN⟩ : ∃ N, depths (L.take k) = N := ⟨_, rfl⟩
      obtain ⟨x, hx⟩ : ∃ x, tg L k = x := ⟨_, rfl⟩
      rw [hx] at q0 q1 q2 HIX hsx
      rw [hN] at hsx hst ⊢
      have HN := Lib.hid hN
      by_cases hc : N < x.depth
      · have z5 : decide ((N : Int) < (x.depth : Int)) = true := decide_eq_true (by omega)
        have z5' : decide (N < x.depth) = true := decide_eq_true hc
        rw [Nat.max_eq_right (by omega)] at hsx
        have HSX := Lib.hid hsx
        clear hat hkid hx hsx hst hN hc
        go_wp2_with fail
        refine HIX.out.mono ?_
        rintro e w4 ⟨rfl, hw4⟩
        have HE4 := Lib.hid (HE.out.trans hw4)
        clear hw4 HIX b0 b1 b2 q0 q1 q2
        go_wp2_with fail
        go_roundg (L.length - (k + 1))
        case measure => omega
        case rel => exact ⟨k + 1, by rw [HSX.out], by go_num, rfl, by omega, HE4⟩
      · have z5 : decide ((N : Int) < (x.depth : Int)) = false := decide_eq_false (by omega)
        have z5' : decide (N < x.depth) = false := decide_eq_false hc
        rw [Nat.max_eq_left (by omega)] at hsx
        have HSX := Lib.hid hsx
        clear hat hkid hx hsx hst hN hc
        go_wp2_with fail
        refine HIX.out.mono ?_
        rintro e w4 ⟨rfl, hw4⟩
        have HE4 := Lib.hid (HE.out.trans hw4)
        clear hw4 HIX b0 b1 b2 q0 q1 q2
        go_wp2_with fail
        go_roundg (L.length - (k + 1))
        case measure => omega
        case rel => exact ⟨k + 1, by rw [HSX.out], by go_num, rfl, by omega, HE4⟩
    · obtain rfl : k = L.length := by omega
      have z2 : decide ((L.length : Int) < (L.length : Int)) = false := decide_eq_false (by omega)
      have hdb := Nat.le_trans (depths_le_sizes L) (Nat.le_of_succ_le HSL.out)
      have hv := HV.out
      rw [List.take_length]
      obtain ⟨D, hD⟩ : ∃ D, depths L = D := ⟨_, rfl⟩
      rw [hD] at hdb hv ⊢
      subst hv
      clear hD
      go_wp2_with fail
      go_ret
      exact ⟨by first | rfl | go_num, (HZ.out.trans HE.out)⟩
set_option maxRecDepth 100000 in
set_option maxHeartbeats 2000000 in
theorem Depth_x (t : Tm) (v : Value) (w : World) (htab : AscT w) (hR : TmR (fun k => k < w.heap.size) w t v) (hsz : (t.size : Int) ≤ 1000000000000) : Calls Tryz.prog 39 #[v] w fun e w' => e = .returned (.int .i64 (dpF t : Nat)) ∧ Ext w w' := by
  have HR := Lib.hid hR
  obtain ⟨a, cap, rfl, hT⟩ := hR
  dsimp only [tV]
  have HZ := Lib.hid ((Upd.refl (fun _ => False) w).alloc (.cells #[.string t.name, .string t.sort, .slice a t.kids.length cap] 24))
  have hb := alloc0 w (.cells #[.string t.name, .string t.sort, .slice a t.kids.length cap] 24)
  have HF := Lib.hid (fun W (hW : Ext w W) => size_x t _ W (asc_ext htab hW) ((HR.out.ext hW).weaken (fun k hk => Nat.lt_of_lt_of_le hk hW.size)) hsz)
  dsimp only [tV] at HF
  have c0 := cellRow hb 0 (.string t.name) rfl
  have c1 := cellRow hb 1 (.string t.sort) rfl
  have c2 := cellRow hb 2 (.slice a t.kids.length cap) rfl
  clear hT hb
  generalize szF t = X at *
  generalize dpF t = Y at *
  go_enter Tryz.func39, Tryz.ntmps39
  go_wp2_with fail
  refine (HF.out _ HZ.out).mono ?_
  rintro e w4 ⟨rfl, hw4⟩
  have H4 := Lib.hid (HZ.out.ext hw4)
  clear hw4 c0 c1 c2
  go_wp2_with fail
  go_ret
  exact ⟨rfl, H4.out⟩

end Go.Proofs.YtjjaknmnhhfjeaaGreatDoor

/- awake of law02. -/
namespace Go.Proofs.YtjjaknmnhhfjeaaGreatDoor
open Go.RowKit Go.Hw Go
set_option linter.unusedVariables false
set_option linter.unusedSimpArgs false

open Tm
def xT : Tm := .mk ⟨#[88]⟩ ⟨#[110, 97, 116]⟩ []
def zT : Tm := .mk ⟨#[122, 101, 114, 111]⟩ nul []
def sT : Tm := .mk ⟨#[115]⟩ nul [xT]
def szT : Tm := .mk ⟨#[115]⟩ nul [zT, zT]
def s1T : Tm := .mk ⟨#[115]⟩ nul [.mk ⟨#[111, 110, 101]⟩ nul []]
theorem ev1 : sortF numG sT = (⟨#[110, 97, 116]⟩, 0) := by decide +kernel
theorem ev2 : sortF numG szT = (nul, 3) := by decide +kernel
theorem ev3 : sortF numG s1T = (nul, 9) := by decide +kernel
theorem ev4 : atF sT [0] = (xT, 0) := by decide +kernel
theorem ev5 : tsgF numG = (⟨#[115, 111, 114, 116, 32, 110, 97, 116, 10, 111, 112, 32, 122, 101, 114, 111, 40, 41, 32, 45, 62, 32, 110, 97, 116, 10, 111, 112, 32, 115, 40, 110, 97, 116, 41, 32, 45, 62, 32, 110, 97, 116, 10]⟩, 0) := by decide +kernel
theorem ev6 : szF sT = 2 ∧ dpF sT = 2 := by decide +kernel
def tokX : List Tok := [⟨1, ⟨#[115]⟩, 0, 1, 1⟩, ⟨4, ⟨#[40]⟩, 0, 1, 2⟩, ⟨1, ⟨#[88]⟩, 0, 1, 3⟩, ⟨4, ⟨#[58]⟩, 0, 1, 4⟩, ⟨1, ⟨#[110, 97, 116]⟩, 0, 1, 5⟩, ⟨4, ⟨#[41]⟩, 0, 1, 8⟩, ⟨5, nul, 0, 1, 9⟩]
theorem ev7 : tokF (wdF fun _ => (0, false)) ⟨#[115, 40, 88, 58, 110, 97, 116, 41]⟩ = .ok tokX := by kernel_rfl
theorem ev8 : pT tokX tokX.length 0 = .ok sT 6 := by kernel_rfl
theorem ev9 : (tk tokX 6).kind = 5 := rfl
theorem ev10 : formed nmB sT = true ∧ (sortsT sT).isSome = true := by decide +kernel
theorem ev11 : ∀ i k : Fin 9, i.val < k.val → (∀ j : Fin 9, i.val ≤ j.val → j.val < k.val → 2 ≤ clsN (byt ⟨#[115, 40, 88, 58, 110, 97, 116, 41]⟩ j.val)) → kwB ((⟨#[115, 40, 88, 58, 110, 97, 116, 41]⟩ : ByteArray).extract i.val k.val) = true ∨ nmB ((⟨#[115, 40, 88, 58, 110, 97, 116, 41]⟩ : ByteArray).extract i.val k.val) = true := by decide +kernel
theorem parseX (w : World) (htab : AscT w) : Calls Tryz.prog 25 #[.string ⟨#[115, 40, 88, 58, 110, 97, 116, 41]⟩] w fun e w' => ∃ u, e = .returned (.tuple #[tV sT u, .agg #[.int .i64 0, .int .i64 0], .int .i64 0]) ∧ TlR (fun k => w.heap.size ≤ k ∧ k < w'.heap.size) w' sT.kids u ∧ Ext w w' :=
  parse_ok_x (fun _ => (0, false)) ⟨#[115, 40, 88, 58, 110, 97, 116, 41]⟩ tokX sT 6 w htab (fun i k W hik hk h hW => pword_x _ _ W (asc_ext htab hW) (by
    have hs : (⟨#[115, 40, 88, 58, 110, 97, 116, 41]⟩ : ByteArray).size = 8 := rfl
    rcases ev11 ⟨i, by omega⟩ ⟨k, by omega⟩ hik (fun j h1 h2 => h j.val h1 h2) with h3 | h3
    · exact .inl h3
    · exact .inr (.inl h3))) ev7 ev8 ev9 ev10.1 ev10.2
theorem sg_any {S : Nat → Prop} {W W' : World} {v : Value} {g : Sg} (h : SgR S W g v) (hS : ∀ k, S k → k < W.heap.size) (hu : Ext W W') : SgR (fun k => k < W'.heap.size) W' g v := by
  obtain ⟨sa, sc, oa, oc, e, h1, h2⟩ := h.ext hu
  exact ⟨sa, sc, oa, oc, e, SlR.weaken h1 (fun k hk => Nat.lt_of_lt_of_le (hS k hk) hu.size), h2.weaken (fun k hk => Nat.lt_of_lt_of_le (hS k hk) hu.size)⟩
def annSg : Ann Value := ⟨fun x => x, fun x W => SgR (fun k => k < W.heap.size) W numG x, fun x W W' h hE => sg_any h (fun k hk => hk) hE⟩
def vn : Value → Nat
  | .slice (some a) _ _ => a.block
  | _ => 0
def annZ : Ann Value := ⟨fun x => .slice (some ⟨vn x, 0, none⟩) 2 2, fun x W => TmR (fun k => k < W.heap.size) W szT (.agg #[.string ⟨#[115]⟩, .string ⟨#[]⟩, .slice (some ⟨vn x, 0, none⟩) 2 2]), fun x W W' h hE => (h.ext hE).weaken (fun k hk => Nat.lt_of_lt_of_le hk hE.size)⟩
theorem sortX (t : Tm) (v u : Value) (w : World) (hG : SgR (fun k => k < w.heap.size) w numG v) (hT : TmR (fun k => k < w.heap.size) w t u) (htab : AscT w) (hsz : t.size ≤ 10) : Calls Tryz.prog 30 #[v, u] w fun e w' => e = .returned (.tuple #[.string (sortF numG t).1, .int .i64 (sortF numG t).2]) ∧ Ext w w' :=
  psort_x numG t v u _ w hG (fun k hk => hk) hT htab (by omega) (by decide) (by decide) (by decide)
set_option maxRecDepth 100000 in
set_option maxHeartbeats 8000000 in
theorem awake_x (w : World) (htab : AscT w) : Calls Tryz.prog 9 #[] w fun e w' => e = .returned (.bool true) ∧ Ext w w' := by
  have HTAB := Lib.hid (fun W (hW : Ext w W) => asc_ext htab hW)
  have HE3 := Lib.hid (((((Upd.refl (fun _ => False) w).alloc (.cells #[.string ⟨#[88]⟩, .string ⟨#[110, 97, 116]⟩, .slice none 0 0] 24)).alloc (.cells #[.string ⟨#[88]⟩, .string ⟨#[110, 97, 116]⟩, .slice none 0 0] 24)).alloc (.cells #[.string ⟨#[115]⟩, .string ⟨#[]⟩, .slice (some ⟨w.heap.size + 1, 0, none⟩) 1 1] 24)).alloc (.cells #[.string ⟨#[122, 101, 114, 111]⟩, .string ⟨#[]⟩, .slice none 0 0] 24))
  have HX0 := Lib.hid (allocOld (allocOld (allocOld (alloc0 w (.cells #[.string ⟨#[88]⟩, .string ⟨#[110, 97, 116]⟩, .slice none 0 0] 24)) (.cells #[.string ⟨#[88]⟩, .string ⟨#[110, 97, 116]⟩, .slice none 0 0] 24)) (.cells #[.string ⟨#[115]⟩, .string ⟨#[]⟩, .slice (some ⟨w.heap.size + 1, 0, none⟩) 1 1] 24)) (.cells #[.string ⟨#[122, 101, 114, 111]⟩, .string ⟨#[]⟩, .slice none 0 0] 24))
  have HR0 := Lib.hid (allocOld (allocOld (alloc_at (w.alloc (.cells #[.string ⟨#[88]⟩, .string ⟨#[110, 97, 116]⟩, .slice none 0 0] 24)) (.cells #[.string ⟨#[88]⟩, .string ⟨#[110, 97, 116]⟩, .slice none 0 0] 24) (n := w.heap.size + 1) (by simp)) (.cells #[.string ⟨#[115]⟩, .string ⟨#[]⟩, .slice (some ⟨w.heap.size + 1, 0, none⟩) 1 1] 24)) (.cells #[.string ⟨#[122, 101, 114, 111]⟩, .string ⟨#[]⟩, .slice none 0 0] 24))
  have HS0 := Lib.hid (allocOld (alloc_at ((w.alloc (.cells #[.string ⟨#[88]⟩, .string ⟨#[110, 97, 116]⟩, .slice none 0 0] 24)).alloc (.cells #[.string ⟨#[88]⟩, .string ⟨#[110, 97, 116]⟩, .slice none 0 0] 24)) (.cells #[.string ⟨#[115]⟩, .string ⟨#[]⟩, .slice (some ⟨w.heap.size + 1, 0, none⟩) 1 1] 24) (n := w.heap.size + 1 + 1) (by simp)) (.cells #[.string ⟨#[122, 101, 114, 111]⟩, .string ⟨#[]⟩, .slice none 0 0] 24))
  have HZ0 := Lib.hid (alloc_at (((w.alloc (.cells #[.string ⟨#[88]⟩, .string ⟨#[110, 97, 116]⟩, .slice none 0 0] 24)).alloc (.cells #[.string ⟨#[88]⟩, .string ⟨#[110, 97, 116]⟩, .slice none 0 0] 24)).alloc (.cells #[.string ⟨#[115]⟩, .string ⟨#[]⟩, .slice (some ⟨w.heap.size + 1, 0, none⟩) 1 1] 24)) (.cells #[.string ⟨#[122, 101, 114, 111]⟩, .string ⟨#[]⟩, .slice none 0 0] 24) (n := w.heap.size + 1 + 1 + 1) (by simp))
  have x0 := cellRow (alloc0 w (.cells #[.string ⟨#[88]⟩, .string ⟨#[110, 97, 116]⟩, .slice none 0 0] 24)) 0 (.string ⟨#[88]⟩) rfl
  have x1 := cellRow (alloc0 w (.cells #[.string ⟨#[88]⟩, .string ⟨#[110, 97, 116]⟩, .slice none 0 0] 24)) 1 (.string ⟨#[110, 97, 116]⟩) rfl
  have x2 := cellRow (alloc0 w (.cells #[.string ⟨#[88]⟩, .string ⟨#[110, 97, 116]⟩, .slice none 0 0] 24)) 2 (.slice none 0 0) rfl
  have hsz3 : ((((w.alloc (.cells #[.string ⟨#[88]⟩, .string ⟨#[110, 97, 116]⟩, .slice none 0 0] 24)).alloc (.cells #[.string ⟨#[88]⟩, .string ⟨#[110, 97, 116]⟩, .slice none 0 0] 24)).alloc (.cells #[.string ⟨#[115]⟩, .string ⟨#[]⟩, .slice (some ⟨w.heap.size + 1, 0, none⟩) 1 1] 24)).alloc (.cells #[.string ⟨#[122, 101, 114, 111]⟩, .string ⟨#[]⟩, .slice none 0 0] 24)).heap.size = w.heap.size + 4 := by simp
  clear htab
  obtain ⟨n1, hn1⟩ : ∃ x, w.heap.size = x := ⟨_, rfl⟩
  rw [hn1] at HX0 HR0 HS0 HZ0 HE3 hsz3
  go_enter Tryz.func9, Tryz.ntmps9
  go_upto_region 4 with fail
  try rw [hn1]
  clear x0 x1 x2
  generalize (((((w.alloc (.cells #[.string ⟨#[88]⟩, .string ⟨#[110, 97, 116]⟩, .slice none 0 0] 24)).alloc (.cells #[.string ⟨#[88]⟩, .string ⟨#[110, 97, 116]⟩, .slice none 0 0] 24)).alloc (.cells #[.string ⟨#[115]⟩, .string ⟨#[]⟩, .slice (some ⟨n1 + 1, 0, none⟩) 1 1] 24)).alloc (.cells #[.string ⟨#[122, 101, 114, 111]⟩, .string ⟨#[]⟩, .slice none 0 0] 24))) = w3 at *
  have HXX := Lib.hid (fun W (hW : Ext w3 W) => hW.heap HX0.out (fun h => h))
  have HSS := Lib.hid (fun W (hW : Ext w3 W) => hW.heap HS0.out (fun h => h))
  have HZZ := Lib.hid (fun W (hW : Ext w3 W) => hW.heap HZ0.out (fun h => h))
  have HTS : Hid (∀ W, Ext w3 W → TmR (fun k => k < W.heap.size) W sT (.agg #[.string ⟨#[115]⟩, .string ⟨#[]⟩, .slice (some ⟨n1 + 1, 0, none⟩) 1 1])) := Lib.hid (fun W hW => by
    have hs := hW.size
    refine ⟨some ⟨n1 + 1, 0, none⟩, 1, rfl, .mk _ [.slice none 0 0] _ rfl (SlR.mk' rfl rfl (by decide) (fun _ => by omega) (fun j hj => ?_)) (fun i hi => ?_)⟩
    · have hr := hW.heap HR0.out (fun h => h)
      have hj3 : j < 3 := hj
      rcases j with _ | _ | _ | j
      · exact cellRow hr 0 _ rfl
      · exact cellRow hr 1 _ rfl
      · exact cellRow hr 2 _ rfl
      · omega
    · have hi1 : i < 1 := hi
      obtain rfl : i = 0 := by omega
      exact TlR.nil _ _)
  clear HX0 HR0 HS0 HZ0
  -- the first Sort
  have Y0 := fun x : XW w3 => cellRow (HSS.out x.val x.ext) 0 (.string ⟨#[115]⟩) rfl
  have Y1 := fun x : XW w3 => cellRow (HSS.out x.val x.ext) 1 (.string ⟨#[]⟩) rfl
  have Y2 := fun x : XW w3 => cellRow (HSS.out x.val x.ext) 2 (.slice (some ⟨n1 + 1, 0, none⟩) 1 1) rfl
  refine wp_region_par (α := Value) 8 [] [[], [], [0, 1], [0, 1, 2], [0, 1, 2, 3], [0, 1, 2, 3], [0, 1, 2, 3, 4], [0, 1, 2, 3, 4, 5, 6]]
    [some annSg, none, some (annVal (.tuple #[.string ⟨#[110, 97, 116]⟩, .int .i64 0])), none, none, none, none, none] [true, false, true, false, false, false, false, false] (by kernel_rfl) (by kernel_rfl) rfl (fun _ _ d _ _ h => by cases d <;> exact h) ?_
  simp only [List.take_succ_cons, List.take_zero, pickO]
  refine can_mem _ rfl (by go_simp) (fun W hW hG K hK => ?_) (fun K v0 hK => ?_)
  · go_simp
    refine (numbers_x W).mono ?_
    rintro e w' ⟨v, rfl, hv, h⟩
    exact hK v w' h (sg_any hv (fun k hk => hk.2) (Upd.refl _ _))
  refine hK _ ?_; clear hK K
  dsimp only [annSg]
  (refine can_pure0 rfl (fun K hK => ?_); go_simp; refine hK _ ?_; clear hK K)
  refine can_mem _ rfl (by go_simp) (fun W hW hG K hK => ?_) (fun K v1 hK => ?_)
  · have hg := hG _ (List.mem_singleton.2 rfl) (by show (0 : Nat) ∈ _; decide)
    go_simp
    refine (sortX sT v0 (.agg #[.string ⟨#[115]⟩, .string ⟨#[]⟩, .slice (some ⟨n1 + 1, 0, none⟩) 1 1]) W hg (HTS.out W hW) (HTAB.out W (HE3.out.trans hW)) (by decide)).mono ?_
    rintro e w' ⟨rfl, h⟩
    rw [ev1]
    exact hK default w' h trivial
  refine hK _ ?_; clear hK K
  dsimp only [annVal]
  iterate 5 (refine can_pure0 rfl (fun K hK => ?_); go_simp; refine hK _ ?_; clear hK K)
  refine can_end (fun W hW hG => ?_)
  clear hG Y0 Y1 Y2
  have HE4 := Lib.hid hW
  clear hW
  simp only [wpMix]
  -- At
  have s0 := cellRow (HSS.out W HE4.out) 0 (.string ⟨#[115]⟩) rfl
  have s1 := cellRow (HSS.out W HE4.out) 1 (.string ⟨#[]⟩) rfl
  have s2 := cellRow (HSS.out W HE4.out) 2 (.slice (some ⟨n1 + 1, 0, none⟩) 1 1) rfl
  have HEA := Lib.hid (HE4.out.alloc (.cells #[.int .i64 0] 3))
  have HAT := Lib.hid (At_x sT [0] (.agg #[.string ⟨#[115]⟩, .string ⟨#[]⟩, .slice (some ⟨n1 + 1, 0, none⟩) 1 1]) (.slice (some ⟨W.heap.size, 0, none⟩) 1 1) _ (fun k => k = W.heap.size) (W.alloc (.cells #[.int .i64 0] 3)) (HTS.out _ HEA.out) (fun k hk => hk) (SlR.mk' rfl rfl (by decide) (fun _ => rfl) (fun j hj => by
    have hj1 : j < 1 := hj
    obtain rfl : j = 0 := by omega
    exact cellRow (alloc0 _ _) 0 _ rfl)) (HTAB.out _ (HE3.out.trans HEA.out)) (by decide) (by decide))
  rw [ev4] at HAT
  go_wp2_with fail
  refine HAT.out.mono ?_
  rintro e w5 ⟨u, rfl, hu, hw5⟩
  obtain ⟨ua, uc, hus⟩ := hu.shape
  subst hus
  have HUU := Lib.hid hu
  have HE5 := Lib.hid (HEA.out.trans hw5)
  clear hw5 hu HAT s0 s1 s2
  have HE6 := Lib.hid (HE5.out.alloc (.cells #[.string xT.name, .string xT.sort, .slice ua xT.kids.length uc] 24))
  have HU0 := Lib.hid (alloc0 w5 (.cells #[.string xT.name, .string xT.sort, .slice ua xT.kids.length uc] 24))
  have HTU := Lib.hid (HUU.out.ext ((Upd.refl (fun _ => False) w5).alloc (.cells #[.string xT.name, .string xT.sort, .slice ua xT.kids.length uc] 24)))
  have hsz6 : (w5.alloc (.cells #[.string xT.name, .string xT.sort, .slice ua xT.kids.length uc] 24)).heap.size = w5.heap.size + 1 := by simp
  clear HUU HE4 HE5 HEA
  go_upto_region 6 with fail
  generalize (w5.alloc (.cells #[.string xT.name, .string xT.sort, .slice ua xT.kids.length uc] 24)) = w6 at *
  have HUX := Lib.hid (fun W (hW : Ext w6 W) => hW.heap HU0.out (fun h => h))
  have HE36 : Hid (Ext w3 w6) := HE6
  -- the second Sort
  have Z0 := fun x : XW w6 => cellRow (HZZ.out x.val (HE36.out.trans x.ext)) 0 (.string ⟨#[122, 101, 114, 111]⟩) rfl
  have Z1 := fun x : XW w6 => cellRow (HZZ.out x.val (HE36.out.trans x.ext)) 1 (.string ⟨#[]⟩) rfl
  have Z2 := fun x : XW w6 => cellRow (HZZ.out x.val (HE36.out.trans x.ext)) 2 (.slice none 0 0) rfl
  refine wp_region_par (α := Value) 11 [] [[], [], [], [1, 2], [1, 2, 3], [0, 1, 2, 3, 4], [0, 1, 2, 3, 4, 5], [0, 1, 2, 3, 4, 5, 6], [0, 1, 2, 3, 4, 5, 6], [0, 1, 2, 3, 4, 5, 6, 7], [0, 1, 2, 3, 4, 5, 6, 7, 8, 9]]
    [some annSg, none, none, some annZ, none, some (annVal (.tuple #[.string nul, .int .i64 3])), none, none, none, none, none] [true, false, false, true, false, true, false, false, false, false, false] (by kernel_rfl) (by kernel_rfl) rfl (fun _ _ d _ _ h => by cases d <;> exact h) ?_
  simp only [List.take_succ_cons, List.take_zero, pickO]
  refine can_mem _ rfl (by go_simp) (fun W hW hG K hK => ?_) (fun K v0 hK => ?_)
  · go_simp
    refine (numbers_x W).mono ?_
    rintro e w' ⟨v, rfl, hv, h⟩
    exact hK v w' h (sg_any hv (fun k hk => hk.2) (Upd.refl _ _))
  refine hK _ ?_; clear hK K
  dsimp only [annSg]
  iterate 2 (refine can_pure0 rfl (fun K hK => ?_); go_simp; refine hK _ ?_; clear hK K)
  refine can_mem _ rfl (by go_simp) (fun W hW hG K hK => ?_) (fun K v1 hK => ?_)
  · go_simp
    refine hK (.slice (some ⟨W.heap.size, 0, none⟩) 2 2) _ ((Upd.refl _ W).alloc _) ?_
    refine ⟨some ⟨W.heap.size, 0, none⟩, 2, rfl, .mk _ [.slice none 0 0, .slice none 0 0] _ rfl (SlR.mk' rfl rfl (by decide) (fun _ => by show W.heap.size < _; simp) (fun j hj => ?_)) (fun i hi => ?_)⟩
    · have hj6 : j < 6 := hj
      rcases j with _ | _ | _ | _ | _ | _ | j
      · exact cellRow (alloc0 _ _) 0 _ rfl
      · exact cellRow (alloc0 _ _) 1 _ rfl
      · exact cellRow (alloc0 _ _) 2 _ rfl
      · exact cellRow (alloc0 _ _) 3 _ rfl
      · exact cellRow (alloc0 _ _) 4 _ rfl
      · exact cellRow (alloc0 _ _) 5 _ rfl
      · omega
    · have hi2 : i < 2 := hi
      rcases i with _ | _ | i
      · exact TlR.nil _ _
      · exact TlR.nil _ _
      · omega
  refine hK _ ?_; clear hK K
  dsimp only [annZ]
  (refine can_pure0 rfl (fun K hK => ?_); go_simp; refine hK _ ?_; clear hK K)
  refine can_mem _ rfl (by go_simp) (fun W hW hG K hK => ?_) (fun K v2 hK => ?_)
  · have hg := hG _ (List.mem_cons_self ..) (by show (0 : Nat) ∈ _; decide)
    have hg1 := hG _ (List.mem_cons_of_mem _ (List.mem_cons_self ..)) (by show (3 : Nat) ∈ _; decide)
    go_simp
    refine (sortX szT v0 (.agg #[.string ⟨#[115]⟩, .string ⟨#[]⟩, .slice (some ⟨vn v1, 0, none⟩) 2 2]) W hg hg1 (HTAB.out W (HE3.out.trans (HE36.out.trans hW))) (by decide)).mono ?_
    rintro e w' ⟨rfl, h⟩
    rw [ev2]
    exact hK default w' h trivial
  refine hK _ ?_; clear hK K
  dsimp only [annVal]
  iterate 5 (refine can_pure0 rfl (fun K hK => ?_); go_simp; refine hK _ ?_; clear hK K)
  refine can_end (fun W hW hG => ?_)
  clear hG Z0 Z1 Z2
  have HE7 := Lib.hid hW
  have HT6 := Lib.hid (fun W' (hW' : Ext w6 W') => HTAB.out W' (HE3.out.trans (HE36.out.trans hW')))
  clear hW
  simp only [wpMix]
  -- the third Sort
  go_wp2_with fail
  refine (numbers_x W).mono ?_
  rintro e w7 ⟨v7, rfl, hv7, h7⟩
  have HV7 := Lib.hid hv7
  have HE77 := Lib.hid (HE7.out.trans h7)
  have HEa := Lib.hid (HE77.out.alloc (.cells #[.string ⟨#[111, 110, 101]⟩, .string ⟨#[]⟩, .slice none 0 0] 24))
  clear hv7 h7
  go_wp2_with fail
  have HT1 : TmR (fun k => k < (w7.alloc (.cells #[.string ⟨#[111, 110, 101]⟩, .string ⟨#[]⟩, .slice none 0 0] 24)).heap.size) (w7.alloc (.cells #[.string ⟨#[111, 110, 101]⟩, .string ⟨#[]⟩, .slice none 0 0] 24)) s1T (.agg #[.string ⟨#[115]⟩, .string ⟨#[]⟩, .slice (some ⟨w7.heap.size, 0, none⟩) 1 1]) := by
    refine ⟨some ⟨w7.heap.size, 0, none⟩, 1, rfl, .mk _ [.slice none 0 0] _ rfl (SlR.mk' rfl rfl (by decide) (fun _ => by show w7.heap.size < _; simp) (fun j hj => ?_)) (fun i hi => ?_)⟩
    · have hj3 : j < 3 := hj
      rcases j with _ | _ | _ | j
      · exact cellRow (alloc0 _ _) 0 _ rfl
      · exact cellRow (alloc0 _ _) 1 _ rfl
      · exact cellRow (alloc0 _ _) 2 _ rfl
      · omega
    · have hi1 : i < 1 := hi
      obtain rfl : i = 0 := by omega
      exact TlR.nil _ _
  refine (sortX s1T v7 (.agg #[.string ⟨#[115]⟩, .string ⟨#[]⟩, .slice (some ⟨w7.heap.size, 0, none⟩) 1 1]) (w7.alloc (.cells #[.string ⟨#[111, 110, 101]⟩, .string ⟨#[]⟩, .slice none 0 0] 24)) (sg_any HV7.out (fun k hk => hk.2) ((Upd.refl _ _).alloc _)) HT1 (HT6.out _ HEa.out) (by decide)).mono ?_
  clear HT1
  rintro e w8 ⟨rfl, h8⟩
  rw [ev3]
  have HE8 := Lib.hid (HEa.out.trans h8)
  clear h8
  go_wp2_with fail
  refine (numbers_x w8).mono ?_
  rintro e w9 ⟨v9, rfl, hv9, h9⟩
  have HV9 := Lib.hid hv9
  have HE9 := Lib.hid (HE8.out.trans h9)
  clear hv9 h9
  go_wp2_with fail
  refine (tsig_x numG v9 _ w9 HV9.out (fun k hk => hk.2) (HT6.out _ HE9.out) (by decide) (by decide) (by decide)).mono ?_
  rintro e w10 ⟨rfl, h10⟩
  rw [ev5]
  have HEb := Lib.hid (HE9.out.trans h10)
  clear h10
  go_wp2_with fail
  refine (parseX w10 (HT6.out _ HEb.out)).mono ?_
  rintro e w11 ⟨u1, rfl, hu1, h11⟩
  obtain ⟨ya, yc, hys⟩ := hu1.shape
  subst hys
  have HEc := Lib.hid (HEb.out.trans h11)
  have HEd := Lib.hid ((HEc.out.alloc (.cells #[.string sT.name, .string sT.sort, .slice ya sT.kids.length yc] 24)).alloc (.cells #[.int .i64 0, .int .i64 0] 45))
  have HYR := Lib.hid (allocOld (alloc0 w11 (.cells #[.string sT.name, .string sT.sort, .slice ya sT.kids.length yc] 24)) (.cells #[.int .i64 0, .int .i64 0] 45))
  have HTY := Lib.hid ((hu1.ext (((Upd.refl (fun _ => False) w11).alloc (.cells #[.string sT.name, .string sT.sort, .slice ya sT.kids.length yc] 24)).alloc (.cells #[.int .i64 0, .int .i64 0] 45))))
  clear hu1 h11
  go_upto_region 10 with fail
  generalize ((w11.alloc (.cells #[.string sT.name, .string sT.sort, .slice ya sT.kids.length yc] 24)).alloc (.cells #[.int .i64 0, .int .i64 0] 45)) = w12 at *
  have U0 := cellRow (HUX.out w12 HEd.out) 0 (.string xT.name) rfl
  have U1 := cellRow (HUX.out w12 HEd.out) 1 (.string xT.sort) rfl
  have U2 := cellRow (HUX.out w12 HEd.out) 2 (.slice ua xT.kids.length uc) rfl
  have X0 := cellRow (HXX.out w12 (HE36.out.trans HEd.out)) 0 (.string ⟨#[88]⟩) rfl
  have X1 := cellRow (HXX.out w12 (HE36.out.trans HEd.out)) 1 (.string ⟨#[110, 97, 116]⟩) rfl
  have X2 := cellRow (HXX.out w12 (HE36.out.trans HEd.out)) 2 (.slice none 0 0) rfl
  have HS1 := Lib.hid (same_x xT xT (tV xT (.slice ua xT.kids.length uc)) (tV xT (.slice none 0 0)) _ (fun _ => False) w12 (TmR.of (HTU.out.ext HEd.out)) (TmR.of (TlR.nil _ _)) (by decide))
  rw [decide_eq_true (rfl : xT = xT)] at HS1
  go_wp2_with fail
  refine HS1.out.mono ?_
  rintro e w13 ⟨rfl, h13⟩
  have HEe := Lib.hid (HEd.out.trans h13)
  have HYS := Lib.hid (h13.heap HYR.out (fun h => h))
  have HTZ := Lib.hid (HTY.out.ext h13)
  clear h13 HS1 U0 U1 U2 X0 X1 X2
  have U0 := cellRow HYS.out 0 (.string sT.name) rfl
  have U1 := cellRow HYS.out 1 (.string sT.sort) rfl
  have U2 := cellRow HYS.out 2 (.slice ya sT.kids.length yc) rfl
  have X0 := cellRow (HSS.out w13 (HE36.out.trans HEe.out)) 0 (.string ⟨#[115]⟩) rfl
  have X1 := cellRow (HSS.out w13 (HE36.out.trans HEe.out)) 1 (.string ⟨#[]⟩) rfl
  have X2 := cellRow (HSS.out w13 (HE36.out.trans HEe.out)) 2 (.slice (some ⟨n1 + 1, 0, none⟩) 1 1) rfl
  have HS1 := Lib.hid (same_x sT sT (tV sT (.slice ya sT.kids.length yc)) (.agg #[.string ⟨#[115]⟩, .string ⟨#[]⟩, .slice (some ⟨n1 + 1, 0, none⟩) 1 1]) _ _ w13 (TmR.of HTZ.out) (HTS.out w13 (HE36.out.trans HEe.out)) (by decide))
  rw [decide_eq_true (rfl : sT = sT)] at HS1
  go_wp2_with fail
  refine HS1.out.mono ?_
  rintro e w14 ⟨rfl, h14⟩
  have HEf := Lib.hid (HEe.out.trans h14)
  clear h14 HS1 U0 U1 U2 X0 X1 X2
  have X0 := cellRow (HSS.out w14 (HE36.out.trans HEf.out)) 0 (.string ⟨#[115]⟩) rfl
  have X1 := cellRow (HSS.out w14 (HE36.out.trans HEf.out)) 1 (.string ⟨#[]⟩) rfl
  have X2 := cellRow (HSS.out w14 (HE36.out.trans HEf.out)) 2 (.slice (some ⟨n1 + 1, 0, none⟩) 1 1) rfl
  have HS1 := Lib.hid (Size_x sT (.agg #[.string ⟨#[115]⟩, .string ⟨#[]⟩, .slice (some ⟨n1 + 1, 0, none⟩) 1 1]) w14 (HT6.out _ HEf.out) (HTS.out w14 (HE36.out.trans HEf.out)) (by decide))
  rw [ev6.1] at HS1
  go_wp2_with fail
  refine HS1.out.mono ?_
  rintro e w15 ⟨rfl, h15⟩
  have HEg := Lib.hid (HEf.out.trans h15)
  clear h15 HS1 X0 X1 X2
  have X0 := cellRow (HSS.out w15 (HE36.out.trans HEg.out)) 0 (.string ⟨#[115]⟩) rfl
  have X1 := cellRow (HSS.out w15 (HE36.out.trans HEg.out)) 1 (.string ⟨#[]⟩) rfl
  have X2 := cellRow (HSS.out w15 (HE36.out.trans HEg.out)) 2 (.slice (some ⟨n1 + 1, 0, none⟩) 1 1) rfl
  have HS1 := Lib.hid (Depth_x sT (.agg #[.string ⟨#[115]⟩, .string ⟨#[]⟩, .slice (some ⟨n1 + 1, 0, none⟩) 1 1]) w15 (HT6.out _ HEg.out) (HTS.out w15 (HE36.out.trans HEg.out)) (by decide))
  rw [ev6.2] at HS1
  go_wp2_with fail
  refine HS1.out.mono ?_
  rintro e w16 ⟨rfl, h16⟩
  have HEh := Lib.hid (HE3.out.trans (HE36.out.trans (HEg.out.trans h16)))
  clear h16 HS1 X0 X1 X2
  go_wp2_with fail
  refine bodyPost_ret (v := .bool true) (by simp [results, Tryz.results9, go_sem]) rfl ?_
  exact ⟨rfl, HEh.out⟩

end Go.Proofs.YtjjaknmnhhfjeaaGreatDoor

/- What the ported texts take out of texts that this seat has not. -/
namespace Go.Proofs.YtjjaknmnhhfjeaaGreatDoor
open Go.RowKit Go.Hw Go
set_option linter.unusedVariables false
open Tm
theorem tg_drop (L : List Tm) (k : Nat) (h : k < L.length) : L.drop k = tg L k :: L.drop (k + 1) := by
  rw [List.drop_eq_getElem_cons h]
  unfold tg
  rw [List.getD_eq_getElem?_getD, List.getElem?_eq_getElem h]
  rfl
def FwP (q : Nat) (w w' : World) (j : Int) : Prop := Upd (fun k => k = q) w w' ∧ w'.heap[q]? = some (.cells #[.int .i64 j] 3 (0, 0))
end Go.Proofs.YtjjaknmnhhfjeaaGreatDoor

/- big, of law06. -/
namespace Go.Proofs.YtjjaknmnhhfjeaaGreatDoor
open Go.RowKit Go.Hw Go
set_option linter.unusedVariables false
set_option linter.unusedSimpArgs false

open Tm Go.Sort Go.Proofs Go.ChangeMaps
mutual
def bgT : Tm → Int → Int → Int
  | .mk n s L, d, i => bgL L (d - 1) (if d = 0 ∨ 100 < n.size ∨ 100 < s.size ∨ 40 < L.length then -1 else i - 1)
def bgL : List Tm → Int → Int → Int
  | [], _, i => i
  | x :: L, d, i => if 0 ≤ i then bgL L d (bgT x d i) else i
end
theorem bgT_eq (n s : By) (L : List Tm) (d i : Int) : bgT (.mk n s L) d i = bgL L (d - 1) (if d = 0 ∨ 100 < n.size ∨ 100 < s.size ∨ 40 < L.length then -1 else i - 1) := by
  conv => lhs; unfold bgT
theorem bgL_nil (d i : Int) : bgL [] d i = i := by unfold bgL; rfl
theorem bgL_cons (x : Tm) (L : List Tm) (d i : Int) : bgL (x :: L) d i = if 0 ≤ i then bgL L d (bgT x d i) else i := by
  conv => lhs; unfold bgL
theorem bgL_neg (L : List Tm) (d i : Int) (h : i < 0) : bgL L d i = i := by
  cases L with
  | nil => exact bgL_nil d i
  | cons x L => rw [bgL_cons, if_neg (by omega)]
theorem bgT_le : ∀ (t : Tm) (d i : Int), (0 ≤ bgT t d i → (t.size : Int) + bgT t d i ≤ i) ∧ (0 ≤ i → -1 ≤ bgT t d i ∧ bgT t d i ≤ i) ∧ (i < 0 → bgT t d i = i - 1 ∨ bgT t d i = -1) := by
  refine Tm.ind (fun n s L ih => ?_)
  intro d i
  have key : ∀ (M : List Tm), (∀ x ∈ M, ∀ (d i : Int), (0 ≤ bgT x d i → (x.size : Int) + bgT x d i ≤ i) ∧ (0 ≤ i → -1 ≤ bgT x d i ∧ bgT x d i ≤ i) ∧ (i < 0 → bgT x d i = i - 1 ∨ bgT x d i = -1)) → ∀ (d i : Int), (0 ≤ bgL M d i → (sizes M : Int) + bgL M d i ≤ i) ∧ (0 ≤ i → -1 ≤ bgL M d i ∧ bgL M d i ≤ i) := by
    intro M
    induction M with
    | nil => intro _ d i; rw [bgL_nil]; exact ⟨fun _ => by simp [sizes], fun h => ⟨by omega, Int.le_refl _⟩⟩
    | cons x M ihM =>
      intro hx d i
      have h1 := hx x (List.mem_cons_self ..) d i
      have h2 := ihM (fun y hy => hx y (List.mem_cons_of_mem _ hy)) d (bgT x d i)
      rw [bgL_cons]
      have hsz : sizes (x :: M) = x.size + sizes M := by rw [sizes]
      by_cases hi : 0 ≤ i
      · rw [if_pos hi]
        have h3 := h1.2.1 hi
        by_cases hb : 0 ≤ bgT x d i
        · have h4 := h2.2 hb
          refine ⟨fun h => ?_, fun _ => ⟨h4.1, by omega⟩⟩
          have h5 := h1.1 hb
          have h6 := h2.1 h
          rw [hsz]
          omega
        · rw [bgL_neg _ _ _ (by omega)]
          exact ⟨fun h => absurd h hb, fun _ => ⟨h3.1, h3.2⟩⟩
      · rw [if_neg hi]
        exact ⟨fun h => absurd h hi, fun h => absurd h hi⟩
  rw [bgT_eq]
  have hk := key L ih (d - 1)
  by_cases hc : d = 0 ∨ 100 < n.size ∨ 100 < s.size ∨ 40 < L.length
  · rw [if_pos hc, bgL_neg _ _ _ (by omega)]
    exact ⟨fun h => absurd h (by omega), fun h => ⟨Int.le_refl _, by omega⟩, fun _ => .inr rfl⟩
  · rw [if_neg hc]
    have h1 := hk (i - 1)
    refine ⟨fun h => ?_, fun h => ?_, fun h => ?_⟩
    · have h2 := h1.1 h
      rw [size_eq]
      simp only [Tm.kids]
      omega
    · by_cases h0 : 0 ≤ i - 1
      · have h2 := h1.2 h0; exact ⟨h2.1, by omega⟩
      · rw [bgL_neg _ _ _ (by omega)]; exact ⟨by omega, by omega⟩
    · rw [bgL_neg _ _ _ (by omega)]; exact .inl rfl
set_option maxRecDepth 100000 in
set_option maxHeartbeats 2000000 in
theorem walkB_x : ∀ (t : Tm) (v : Value) (S : Nat → Prop) (q r : Nat) (w : World) (d i : Int), TmR S w t v → ¬ S q → (∀ k, S k → k < w.heap.size) → w.heap[q]? = some (.cells #[.int .i64 i] 3 (0, 0)) → w.cell? ⟨r, 0, none⟩ = some (.func (.func 45) #[] #[.pointer (some ⟨q, 0, none⟩), .pointer (some ⟨r, 0, none⟩)]) → r ≠ q → 0 ≤ d → d ≤ 80 → -1000 ≤ i → i ≤ 1100 →
    Calls Tryz.prog 45 #[v, .int .i64 d, .pointer (some ⟨q, 0, none⟩), .pointer (some ⟨r, 0, none⟩)] w fun e w' => e = .returned (.tuple #[]) ∧ FwP q w w' (bgT t d i) := by
  refine Tm.ind (fun n s L ih => ?_)
  intro v S q r w d i hT hq hS hc hr hrq hd0 hd1 hi0 hi1
  obtain ⟨a, cap, rfl, hT⟩ := hT
  dsimp only [tV, Tm.name, Tm.sort, Tm.kids] at hT ⊢
  obtain ⟨V, hV⟩ : ∃ V, bgT (.mk n s L) d i = V := ⟨_, rfl⟩
  rw [hV]
  have HV := Lib.hid hV
  have HTL := Lib.hid hT
  have HIH := Lib.hid ih
  have HQ := Lib.hid hq
  have HSS := Lib.hid hS
  have hqs : q < w.heap.size := (Array.getElem?_eq_some_iff.1 hc).1
  have HQS := Lib.hid hqs
  have HRQ := Lib.hid hrq
  have HR := Lib.hid hr
  have HE0 := Lib.hid ((Upd.refl (fun _ => False) w).alloc (.cells #[.string n, .string s, .slice a L.length cap] 24))
  have HB2 := Lib.hid (alloc0 w (.cells #[.string n, .string s, .slice a L.length cap] 24))
  have HC := Lib.hid (HE0.out.heap hc (fun h => h))
  have HZ0 : Hid (w.heap.size + 1 ≤ (w.alloc (.cells #[.string n, .string s, .slice a L.length cap] 24)).heap.size) := Lib.hid (by simp)
  have c0 := cellRow HC.out 0 (.int .i64 i) rfl
  have f0 := fun j => frozenRow HC.out j
  clear ih hT hq hS hc hV hrq hr hqs
  go_enter Tryz.func45, Tryz.ntmps45
  go_upto_region 2 with fail
  generalize w.alloc (.cells #[.string n, .string s, .slice a L.length cap] 24) = w1 at *
  have hb4 := setBlock HC.out 0 (.int .i64 (i - 1))
  have HQ4 : Hid ((w1.setCell ⟨q, 0, none⟩ (.int .i64 (i - 1))).heap[q]? = some (.cells #[.int .i64 (i - 1)] 3 (0, 0))) := Lib.hid (by simpa using hb4)
  have HX4 := Lib.hid ((Upd.refl (fun k => k = q) w1).setCell (p := ⟨q, 0, none⟩) (.inl rfl) (.int .i64 (i - 1)))
  have HU4 : Hid (Upd (fun k => k = q) w (w1.setCell ⟨q, 0, none⟩ (.int .i64 (i - 1)))) := Lib.hid ((HE0.out.mono (fun _ _ h => h.elim)).trans HX4.out)
  have HB24 := Lib.hid (HX4.out.heap HB2.out (by have := HQS.out; omega))
  have HS4 : Hid (w.heap.size + 1 ≤ (w1.setCell ⟨q, 0, none⟩ (.int .i64 (i - 1))).heap.size) := Lib.hid (Nat.le_trans HZ0.out HX4.out.size)
  generalize (w1.setCell ⟨q, 0, none⟩ (.int .i64 (i - 1))) = w4 at *
  clear hb4 c0 f0 HC HB2 HX4 HZ0
  have c0 := cellRow HQ4.out 0 (.int .i64 (i - 1)) rfl
  have f0 := fun j => frozenRow HQ4.out j
  have b0 := cellRow HB24.out 0 (.string n) rfl
  have b1 := cellRow HB24.out 1 (.string s) rfl
  have b2 := cellRow HB24.out 2 (.slice a L.length cap) rfl
  by_cases e1 : d = 0
  · obtain rfl : V = -1 := by rw [← HV.out, bgT_eq, if_pos (.inl e1), bgL_neg _ _ _ (by omega)]
    have t1 : (d == 0) = true := by rw [e1]; rfl
    have hb5 := setBlock HQ4.out 0 (.int .i64 (-1))
    have HQ5 : Hid ((w4.setCell ⟨q, 0, none⟩ (.int .i64 (-1))).heap[q]? = some (.cells #[.int .i64 (-1)] 3 (0, 0))) := Lib.hid (by simpa using hb5)
    have HX5 := Lib.hid ((Upd.refl (fun k => k = q) w4).setCell (p := ⟨q, 0, none⟩) (.inl rfl) (.int .i64 (-1)))
    have HU5 : Hid (Upd (fun k => k = q) w (w4.setCell ⟨q, 0, none⟩ (.int .i64 (-1)))) := Lib.hid (HU4.out.trans HX5.out)
    have HB25 := Lib.hid (HX5.out.heap HB24.out (by have := HQS.out; omega))
    clear hb5 HX5 e1
    go_upto_region 5 with fail
    generalize w4.setCell ⟨q, 0, none⟩ (.int .i64 (-1)) = w5 at *
    have c1 := cellRow HQ5.out 0 (.int .i64 (-1)) rfl
    have d0 := cellRow HB25.out 0 (.string n) rfl
    have d1 := cellRow HB25.out 1 (.string s) rfl
    have d2 := cellRow HB25.out 2 (.slice a L.length cap) rfl
    go_loopg [6] 0 (fun gk iv wr => iv = .int .i64 0 ∧ w5 = wr)
    case atStart => exact ⟨rfl, rfl⟩
    case round =>
      obtain ⟨rfl, rfl⟩ := hrel
      by_cases hl0 : 0 < L.length
      · have y1 : decide ((0 : Int) < (L.length : Int)) = true := decide_eq_true (by omega)
        have y1' : (0 : Int) < (L.length : Int) := by omega
        go_wp2_with fail
        go_end0
        exact ⟨rfl, HU5.out, HQ5.out⟩
      · have y1 : decide ((0 : Int) < (L.length : Int)) = false := decide_eq_false (by omega)
        have y1' : ¬ (0 : Int) < (L.length : Int) := by omega
        go_wp2_with fail
        go_end0
        exact ⟨rfl, HU5.out, HQ5.out⟩
  have t1 : (d == 0) = false := beq_eq_false_iff_ne.2 e1
  by_cases e2 : 100 < n.size
  · obtain rfl : V = -1 := by rw [← HV.out, bgT_eq, if_pos (.inr (.inl e2)), bgL_neg _ _ _ (by omega)]
    have t2 : decide ((100 : Int) < (n.size : Int)) = true := decide_eq_true (by omega)
    have t2' : (100 : Int) < (n.size : Int) := by omega
    have hb5 := setBlock HQ4.out 0 (.int .i64 (-1))
    have HQ5 : Hid ((w4.setCell ⟨q, 0, none⟩ (.int .i64 (-1))).heap[q]? = some (.cells #[.int .i64 (-1)] 3 (0, 0))) := Lib.hid (by simpa using hb5)
    have HX5 := Lib.hid ((Upd.refl (fun k => k = q) w4).setCell (p := ⟨q, 0, none⟩) (.inl rfl) (.int .i64 (-1)))
    have HU5 : Hid (Upd (fun k => k = q) w (w4.setCell ⟨q, 0, none⟩ (.int .i64 (-1)))) := Lib.hid (HU4.out.trans HX5.out)
    have HB25 := Lib.hid (HX5.out.heap HB24.out (by have := HQS.out; omega))
    clear hb5 HX5 e2
    go_upto_region 5 with fail
    generalize w4.setCell ⟨q, 0, none⟩ (.int .i64 (-1)) = w5 at *
    have c1 := cellRow HQ5.out 0 (.int .i64 (-1)) rfl
    have d0 := cellRow HB25.out 0 (.string n) rfl
    have d1 := cellRow HB25.out 1 (.string s) rfl
    have d2 := cellRow HB25.out 2 (.slice a L.length cap) rfl
    go_loopg [6] 0 (fun gk iv wr => iv = .int .i64 0 ∧ w5 = wr)
    case atStart => exact ⟨rfl, rfl⟩
    case round =>
      obtain ⟨rfl, rfl⟩ := hrel
      by_cases hl0 : 0 < L.length
      · have y1 : decide ((0 : Int) < (L.length : Int)) = true := decide_eq_true (by omega)
        have y1' : (0 : Int) < (L.length : Int) := by omega
        go_wp2_with fail
        go_end0
        exact ⟨rfl, HU5.out, HQ5.out⟩
      · have y1 : decide ((0 : Int) < (L.length : Int)) = false := decide_eq_false (by omega)
        have y1' : ¬ (0 : Int) < (L.length : Int) := by omega
        go_wp2_with fail
        go_end0
        exact ⟨rfl, HU5.out, HQ5.out⟩
  have t2 : decide ((100 : Int) < (n.size : Int)) = false := decide_eq_false (by omega)
  have t2' : ¬ (100 : Int) < (n.size : Int) := by omega
  by_cases e3 : 100 < s.size
  · obtain rfl : V = -1 := by rw [← HV.out, bgT_eq, if_pos (.inr (.inr (.inl e3))), bgL_neg _ _ _ (by omega)]
    have t3 : decide ((100 : Int) < (s.size : Int)) = true := decide_eq_true (by omega)
    have t3' : (100 : Int) < (s.size : Int) := by omega
    have hb5 := setBlock HQ4.out 0 (.int .i64 (-1))
    have HQ5 : Hid ((w4.setCell ⟨q, 0, none⟩ (.int .i64 (-1))).heap[q]? = some (.cells #[.int .i64 (-1)] 3 (0, 0))) := Lib.hid (by simpa using hb5)
    have HX5 := Lib.hid ((Upd.refl (fun k => k = q) w4).setCell (p := ⟨q, 0, none⟩) (.inl rfl) (.int .i64 (-1)))
    have HU5 : Hid (Upd (fun k => k = q) w (w4.setCell ⟨q, 0, none⟩ (.int .i64 (-1)))) := Lib.hid (HU4.out.trans HX5.out)
    have HB25 := Lib.hid (HX5.out.heap HB24.out (by have := HQS.out; omega))
    clear hb5 HX5 e3
    go_upto_region 5 with fail
    generalize w4.setCell ⟨q, 0, none⟩ (.int .i64 (-1)) = w5 at *
    have c1 := cellRow HQ5.out 0 (.int .i64 (-1)) rfl
    have d0 := cellRow HB25.out 0 (.string n) rfl
    have d1 := cellRow HB25.out 1 (.string s) rfl
    have d2 := cellRow HB25.out 2 (.slice a L.length cap) rfl
    go_loopg [6] 0 (fun gk iv wr => iv = .int .i64 0 ∧ w5 = wr)
    case atStart => exact ⟨rfl, rfl⟩
    case round =>
      obtain ⟨rfl, rfl⟩ := hrel
      by_cases hl0 : 0 < L.length
      · have y1 : decide ((0 : Int) < (L.length : Int)) = true := decide_eq_true (by omega)
        have y1' : (0 : Int) < (L.length : Int) := by omega
        go_wp2_with fail
        go_end0
        exact ⟨rfl, HU5.out, HQ5.out⟩
      · have y1 : decide ((0 : Int) < (L.length : Int)) = false := decide_eq_false (by omega)
        have y1' : ¬ (0 : Int) < (L.length : Int) := by omega
        go_wp2_with fail
        go_end0
        exact ⟨rfl, HU5.out, HQ5.out⟩
  have t3 : decide ((100 : Int) < (s.size : Int)) = false := decide_eq_false (by omega)
  have t3' : ¬ (100 : Int) < (s.size : Int) := by omega
  by_cases e4 : 40 < L.length
  · obtain rfl : V = -1 := by rw [← HV.out, bgT_eq, if_pos (.inr (.inr (.inr e4))), bgL_neg _ _ _ (by omega)]
    have t4 : decide ((40 : Int) < (L.length : Int)) = true := decide_eq_true (by omega)
    have t4' : (40 : Int) < (L.length : Int) := by omega
    have hb5 := setBlock HQ4.out 0 (.int .i64 (-1))
    have HQ5 : Hid ((w4.setCell ⟨q, 0, none⟩ (.int .i64 (-1))).heap[q]? = some (.cells #[.int .i64 (-1)] 3 (0, 0))) := Lib.hid (by simpa using hb5)
    have HX5 := Lib.hid ((Upd.refl (fun k => k = q) w4).setCell (p := ⟨q, 0, none⟩) (.inl rfl) (.int .i64 (-1)))
    have HU5 : Hid (Upd (fun k => k = q) w (w4.setCell ⟨q, 0, none⟩ (.int .i64 (-1)))) := Lib.hid (HU4.out.trans HX5.out)
    have HB25 := Lib.hid (HX5.out.heap HB24.out (by have := HQS.out; omega))
    clear hb5 HX5 e4
    go_upto_region 5 with fail
    generalize w4.setCell ⟨q, 0, none⟩ (.int .i64 (-1)) = w5 at *
    have c1 := cellRow HQ5.out 0 (.int .i64 (-1)) rfl
    have d0 := cellRow HB25.out 0 (.string n) rfl
    have d1 := cellRow HB25.out 1 (.string s) rfl
    have d2 := cellRow HB25.out 2 (.slice a L.length cap) rfl
    go_loopg [6] 0 (fun gk iv wr => iv = .int .i64 0 ∧ w5 = wr)
    case atStart => exact ⟨rfl, rfl⟩
    case round =>
      obtain ⟨rfl, rfl⟩ := hrel
      by_cases hl0 : 0 < L.length
      · have y1 : decide ((0 : Int) < (L.length : Int)) = true := decide_eq_true (by omega)
        have y1' : (0 : Int) < (L.length : Int) := by omega
        go_wp2_with fail
        go_end0
        exact ⟨rfl, HU5.out, HQ5.out⟩
      · exfalso
        omega
  have t4 : decide ((40 : Int) < (L.length : Int)) = false := decide_eq_false (by omega)
  have t4' : ¬ (40 : Int) < (L.length : Int) := by omega
  have HVL : Hid (bgL L (d - 1) (i - 1) = V) := Lib.hid (by rw [← HV.out, bgT_eq, if_neg (by omega)])
  have hL40 : L.length ≤ 40 := by omega
  have HD := Lib.hid (show 0 ≤ d - 1 ∧ d - 1 ≤ 80 by omega)
  clear e1 e2 e3 e4
  go_upto_region 5 with fail
  clear t1 t2 t2' t3 t3' t4 t4' c0 f0 b0 b1 b2
  go_loopg [6] L.length (fun gk iv wr => ∃ (k : Nat) (j : Int), iv = .int .i64 (k : Int) ∧ gk = L.length - k ∧ k ≤ L.length ∧ -1001 ≤ j ∧ j ≤ 1100 ∧ Hid (Upd (fun k => k = q) w wr) ∧ Hid (wr.heap[q]? = some (.cells #[.int .i64 j] 3 (0, 0))) ∧ Hid (wr.heap[w.heap.size]? = some (.cells #[.string n, .string s, .slice a L.length cap] 24 (0, 0))) ∧ Hid (bgL (L.drop k) (d - 1) j = V))
  case atStart => exact ⟨0, i - 1, rfl, rfl, Nat.zero_le _, by omega, by omega, HU4, HQ4, HB24, HVL⟩
  case round =>
    clear HU4 HQ4 HB24 HVL HS4
    obtain ⟨k, j, rfl, rfl, hk, hj0, hj1, HU, HQQ, HB, HVK⟩ := hrel
    have c0 := cellRow HQQ.out 0 (.int .i64 j) rfl
    have b0 := cellRow HB.out 0 (.string n) rfl
    have b1 := cellRow HB.out 1 (.string s) rfl
    have b2 := cellRow HB.out 2 (.slice a L.length cap) rfl
    by_cases hlt : k < L.length
    · have z0 : (0 : Int) ≤ (k : Int) := by omega
      have z1 : (k : Int) < (L.length : Int) := by omega
      have z2 : decide ((k : Int) < (L.length : Int)) = true := decide_eq_true z1
      have z2' : decide (k < L.length) = true := decide_eq_true hlt
      have hvk := HVK.out
      rw [tg_drop L k hlt, bgL_cons] at hvk
      by_cases hj : 0 ≤ j
      · have z3 : decide ((0 : Int) ≤ j) = true := decide_eq_true hj
        rw [if_pos hj] at hvk
        obtain ⟨g, off, hga, _, hat⟩ := (HTL.out.kept HU.out (fun k hk e => HQ.out (e ▸ hk))).at_ (by omega)
        subst hga
        obtain ⟨xa, xc, q0, q1, q2, hkid⟩ := hat k hlt
        rw [← Nat.add_assoc] at q1 q2
        have HIX := Lib.hid (fun W (hW : Ext wr W) => HIH.out (tg L k) (tg_mem L k hlt) _ S q r W (d - 1) j ⟨xa, xc, rfl, hkid.ext hW⟩ HQ.out (fun k hk => Nat.lt_of_lt_of_le (HSS.out k hk) (Nat.le_trans HU.out.size hW.size)) (hW.heap HQQ.out (fun h => h)) (hW.cell (HU.out.cell HR.out HRQ.out) (fun h => h)) HRQ.out HD.out.1 HD.out.2 (by omega) hj1)
        have r0 := HU.out.cell HR.out HRQ.out
        have hle := (bgT_le (tg L k) (d - 1) j).2.1 hj
        dsimp only [tV] at HIX
        obtain ⟨x, hx⟩ : ∃ x, tg L k = x := ⟨_, rfl⟩
        rw [hx] at q0 q1 q2 HIX hvk hle
        obtain ⟨j2, hj2⟩ : ∃ j2, bgT x (d - 1) j = j2 := ⟨_, rfl⟩
        rw [hj2] at HIX hvk hle
        have HV2 := Lib.hid hvk
        have HWR : Hid (Ext wr wr) := Lib.hid (Upd.refl _ _)
        have heg : ∀ args W, (callFunc 45 args).run Tryz.prog W = .ok (.enter 45 args) W := enters_of Tryz.func45 (by kernel_rfl) rfl
        clear hat hkid hx hvk hj2 HVK
        go_wp2_with fail
        go_still_tail 8, (by kernel_rfl)
        change wpList _ _ _ _ _ wr.drew
        go_wp2_with fail
        refine (HIX.out wr.drew HWR.out.drew).mono ?_
        rintro e w5 ⟨rfl, hw5, hq5⟩
        have HW5 : Hid (Upd (fun k => k = q) wr w5) := Lib.hid (((Upd.refl (fun k => k = q) wr).drewN' 1).trans hw5)
        have HQ5 := Lib.hid hq5
        clear hw5 hq5 HIX q0 q1 q2 r0 c0 b0 b1 b2
        go_wp2_with fail
        have HU5 := Lib.hid (HU.out.trans HW5.out)
        have HB5 := Lib.hid (HW5.out.heap HB.out (by have := HQS.out; omega))
        go_roundg (L.length - (k + 1))
        case measure => omega
        case rel => exact ⟨k + 1, j2, by go_num, rfl, by omega, by omega, by omega, HU5, HQ5, HB5, HV2⟩
      · have z3 : decide ((0 : Int) ≤ j) = false := decide_eq_false hj
        rw [if_neg hj] at hvk
        subst hvk
        clear HV HVK
        go_wp2_with fail
        go_end0
        exact ⟨rfl, HU.out, HQQ.out⟩
    · obtain rfl : k = L.length := by omega
      have z2 : decide ((L.length : Int) < (L.length : Int)) = false := decide_eq_false (by omega)
      have hvk := HVK.out
      rw [List.drop_length, bgL_nil] at hvk
      subst hvk
      clear HV HVK
      go_wp2_with fail
      go_end0
      exact ⟨rfl, HU.out, HQQ.out⟩

end Go.Proofs.YtjjaknmnhhfjeaaGreatDoor

/- big, zero. -/
namespace Go.Proofs.YtjjaknmnhhfjeaaGreatDoor
open Go.RowKit Go.Hw Go
set_option linter.unusedVariables false
set_option linter.unusedSimpArgs false

open Tm Go.Sort Go.Proofs Go.ChangeMaps
def bgs (L : List Tm) (i : Int) : Int := L.foldl (fun i t => bgT t 80 i) i
def bigF (L : List Tm) : Bool := decide (bgs L 1100 < 0)
theorem bgs_snoc (L : List Tm) (x : Tm) (i : Int) : bgs (L ++ [x]) i = bgT x 80 (bgs L i) := by unfold bgs; rw [List.foldl_append]; rfl
theorem bgs_bound : ∀ (L : List Tm) (i : Int), L.length ≤ 10 → -1000 + (L.length : Int) ≤ i → i ≤ 1100 → -1000 ≤ bgs L i ∧ bgs L i ≤ 1100
  | [], i, _, h0, h1 => by simp at h0; exact ⟨h0, h1⟩
  | x :: L, i, hl, h0, h1 => by
    have h2 := bgT_le x 80 i
    rw [List.length_cons] at hl h0
    have h3 : -1000 + (L.length : Int) ≤ bgT x 80 i ∧ bgT x 80 i ≤ 1100 := by
      by_cases hi : 0 ≤ i
      · have := h2.2.1 hi
        omega
      · rcases h2.2.2 (by omega) with e | e <;> omega
    exact bgs_bound L _ (by omega) h3.1 h3.2
theorem big_small {t : Tm} (h : bigF [t] = false) : t.size ≤ 1100 := by
  have h1 := of_decide_eq_false h
  unfold bgs at h1
  have h2 := (bgT_le t 80 1100).1 (by simpa using h1)
  have h3 : ¬ bgT t 80 1100 < 0 := by simpa using h1
  omega
set_option maxRecDepth 100000 in
set_option maxHeartbeats 2000000 in
theorem big_x (L : List Tm) (v : Value) (S : Nat → Prop) (w : World) (hT : TlR S w L v) (hS : ∀ k, S k → k < w.heap.size) (hl : L.length ≤ 10) :
    Calls Tryz.prog 10 #[v] w fun e w' => e = .returned (.bool (bigF L)) ∧ Ext w w' := by
  obtain ⟨a, cap, rfl⟩ := hT.shape
  obtain ⟨V, hV⟩ : ∃ V, bgs L 1100 = V := ⟨_, rfl⟩
  have hbv : bigF L = decide (V < 0) := by unfold bigF; rw [hV]
  rw [hbv]
  have HV := Lib.hid hV
  have HTL := Lib.hid hT
  have HSS := Lib.hid hS
  have HE0 := Lib.hid (((Upd.refl (fun _ => False) w).alloc (.cells #[.int .i64 1100] 3)).alloc (.cells #[.func (.func 45) #[] #[.pointer (some ⟨w.heap.size, 0, none⟩), .pointer (some ⟨w.heap.size + 1, 0, none⟩)]] 81))
  have HQ0 := Lib.hid (allocOld (alloc0 w (.cells #[.int .i64 1100] 3)) (.cells #[.func (.func 45) #[] #[.pointer (some ⟨w.heap.size, 0, none⟩), .pointer (some ⟨w.heap.size + 1, 0, none⟩)]] 81))
  have HR0 := Lib.hid (alloc_at (w.alloc (.cells #[.int .i64 1100] 3)) (.cells #[.func (.func 45) #[] #[.pointer (some ⟨w.heap.size, 0, none⟩), .pointer (some ⟨w.heap.size + 1, 0, none⟩)]] 81) (n := w.heap.size + 1) (by simp))
  have HZ0 : Hid (w.heap.size + 2 ≤ ((w.alloc (.cells #[.int .i64 1100] 3)).alloc (.cells #[.func (.func 45) #[] #[.pointer (some ⟨w.heap.size, 0, none⟩), .pointer (some ⟨w.heap.size + 1, 0, none⟩)]] 81)).heap.size) := Lib.hid (by simp)
  have heg : ∀ args W, (callFunc 45 args).run Tryz.prog W = .ok (.enter 45 args) W := enters_of Tryz.func45 (by kernel_rfl) rfl
  clear hT hS hV hbv
  go_enter Tryz.func10, Tryz.ntmps10
  go_upto_region 4 with fail
  generalize ((w.alloc (.cells #[.int .i64 1100] 3)).alloc (.cells #[.func (.func 45) #[] #[.pointer (some ⟨w.heap.size, 0, none⟩), .pointer (some ⟨w.heap.size + 1, 0, none⟩)]] 81)) = w1 at *
  go_wp2_with fail
  go_loopg [10] L.length (fun gk iv wr => ∃ k : Nat, iv = .int .i64 (k : Int) ∧ gk = L.length - k ∧ k ≤ L.length ∧ Hid (Upd (fun k => k = w.heap.size) w1 wr) ∧ Hid (wr.heap[w.heap.size]? = some (.cells #[.int .i64 (bgs (L.take k) 1100)] 3 (0, 0))) ∧ Hid (wr.heap[w.heap.size + 1]? = some (.cells #[.func (.func 45) #[] #[.pointer (some ⟨w.heap.size, 0, none⟩), .pointer (some ⟨w.heap.size + 1, 0, none⟩)]] 81 (0, 0))))
  case atStart => exact ⟨0, rfl, rfl, Nat.zero_le _, Lib.hid (Upd.refl _ _), HQ0, HR0⟩
  case round =>
    clear HQ0 HR0
    obtain ⟨k, rfl, rfl, hk, HU, HQ, HR⟩ := hrel
    have HEW : Hid (Ext w wr) := Lib.hid (HE0.out.trans' HU.out (fun j hj e => by omega))
    by_cases hlt : k < L.length
    · obtain ⟨g, off, hga, _, hat⟩ := (HTL.out.ext HEW.out).at_ (by omega)
      subst hga
      obtain ⟨xa, xc, q0, q1, q2, hkid⟩ := hat k hlt
      rw [← Nat.add_assoc] at q1 q2
      have z0 : (0 : Int) ≤ (k : Int) := by omega
      have z1 : (k : Int) < (L.length : Int) := by omega
      have z2 : decide ((k : Int) < (L.length : Int)) = true := decide_eq_true z1
      have z2' : decide (k < L.length) = true := decide_eq_true hlt
      have hbd := bgs_bound (L.take k) 1100 (by rw [List.length_take]; omega) (by rw [List.length_take]; omega) (by omega)
      have htk : bgs (L.take (k + 1)) 1100 = bgT (tg L k) 80 (bgs (L.take k) 1100) := by
        rw [← bgs_snoc]
        congr 1
        rw [List.take_add_one]
        congr 1
        unfold tg
        rw [List.getD_eq_getElem?_getD, List.getElem?_eq_getElem hlt]
        rfl
      have HTK := Lib.hid htk
      obtain ⟨x, hx⟩ : ∃ x, tg L k = x := ⟨_, rfl⟩
      rw [hx] at q0 q1 q2 hkid HTK
      obtain ⟨I, hI⟩ : ∃ I, bgs (L.take k) 1100 = I := ⟨_, rfl⟩
      rw [hI] at hbd HQ HTK
      have hX5 := (Upd.refl (fun _ => False) wr).alloc (.cells #[.string x.name, .string x.sort, .slice xa x.kids.length xc] 24)
      have HX5 := Lib.hid hX5
      have hSW : ∀ j, S j → j < w.heap.size := HSS.out
      have HWK := Lib.hid (walkB_x x (tV x (.slice xa x.kids.length xc)) S w.heap.size (w.heap.size + 1) (wr.alloc (.cells #[.string x.name, .string x.sort, .slice xa x.kids.length xc] 24)) 80 I ⟨xa, xc, rfl, hkid.ext hX5⟩ (fun h => Nat.lt_irrefl _ (hSW _ h)) (fun j hj => Nat.lt_of_lt_of_le (hSW j hj) (Nat.le_trans HEW.out.size hX5.size)) (hX5.heap HQ.out (fun h => h)) (cellRow (hX5.heap HR.out (fun h => h)) 0 _ rfl) (by omega) (by decide) (by decide) (by omega) (by omega))
      have r0 := cellRow (hX5.heap HR.out (fun h => h)) 0 (.func (.func 45) #[] #[.pointer (some ⟨w.heap.size, 0, none⟩), .pointer (some ⟨w.heap.size + 1, 0, none⟩)]) rfl
      have HB5 := Lib.hid (alloc0 wr (.cells #[.string x.name, .string x.sort, .slice xa x.kids.length xc] 24))
      have x0 := cellRow HB5.out 0 (.string x.name) rfl
      have x1 := cellRow HB5.out 1 (.string x.sort) rfl
      have x2 := cellRow HB5.out 2 (.slice xa x.kids.length xc) rfl
      have HSQ : Hid (w.heap.size + 2 ≤ w1.heap.size) := HZ0
      dsimp only [tV] at HWK
      clear hat hkid hx hI hbd htk hX5 hSW
      go_wp2_with fail
      refine HWK.out.mono ?_
      rintro e w6 ⟨rfl, hw6, hq6⟩
      have HU6 : Hid (Upd (fun k => k = w.heap.size) w1 w6) := Lib.hid (HU.out.trans ((HX5.out.mono (fun _ _ h => h.elim)).trans hw6))
      have HQ6 : Hid (w6.heap[w.heap.size]? = some (.cells #[.int .i64 (bgs (L.take (k + 1)) 1100)] 3 (0, 0))) := Lib.hid (by rw [HTK.out]; exact hq6)
      have HR6 := Lib.hid (hw6.heap (HX5.out.heap HR.out (fun h => h)) (by omega))
      clear hw6 hq6 HWK q0 q1 q2 r0 x0 x1 x2
      go_wp2_with fail
      go_roundg (L.length - (k + 1))
      case measure => omega
      case rel => exact ⟨k + 1, by go_num, rfl, by omega, HU6, HQ6, HR6⟩
    · obtain rfl : k = L.length := by omega
      have z2 : decide ((L.length : Int) < (L.length : Int)) = false := decide_eq_false (by omega)
      have hq := HQ.out
      rw [List.take_length, HV.out] at hq
      have c0 := cellRow hq 0 (.int .i64 V) rfl
      clear hq HV
      go_wp2_with fail
      go_ret
      exact ⟨rfl, HEW.out⟩
end Go.Proofs.YtjjaknmnhhfjeaaGreatDoor

/- SamePath, SameTrace. -/
namespace Go.Proofs.YtjjaknmnhhfjeaaGreatDoor
open Go.RowKit Go.Hw Go
set_option linter.unusedVariables false
set_option linter.unusedSimpArgs false

open Tm Go.Sort Go.Proofs Go.ChangeMaps
end Go.Proofs.YtjjaknmnhhfjeaaGreatDoor

/- At of the reference. -/
namespace Go.Proofs.YtjjaknmnhhfjeaaGreatDoor
open Go.RowKit Go.Hw Go
set_option linter.unusedVariables false
set_option linter.unusedSimpArgs false

open Tm Go.Sort Go.Proofs Go.ChangeMaps
end Go.Proofs.YtjjaknmnhhfjeaaGreatDoor

/- Put of the reference. -/
namespace Go.Proofs.YtjjaknmnhhfjeaaGreatDoor
open Go.RowKit Go.Hw Go
set_option linter.unusedVariables false
set_option linter.unusedSimpArgs false

open Tm Go.Sort Go.Proofs Go.ChangeMaps
end Go.Proofs.YtjjaknmnhhfjeaaGreatDoor
