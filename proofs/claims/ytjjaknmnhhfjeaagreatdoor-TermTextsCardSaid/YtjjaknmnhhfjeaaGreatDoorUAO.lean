/- The texts Y37 Y43 Y44 Y45, one behind the other. -/
import Derived.Test.YtjjaknmnhhfjeaaGreatDoorUAL
import Derived.Test.YtjjaknmnhhfjeaaGreatDoorUAN
import Derived.Deep.DeepCutAuto
/- end and Parse of the program. -/
namespace Go.Proofs.YtjjaknmnhhfjeaaGreatDoor
open Go.RowKit Go.Hw Go Go.Sort Go.Proofs Go.ChangeMaps
set_option linter.unusedVariables false
set_option linter.unusedSimpArgs false

open Tm
def endF (l : List Tok) (i : Nat) (b : Bool) : (Int × Int) × Int := if b = false ∧ (tk l i).kind = 5 then ((0, 0), 0) else (((tk l i).line, (tk l i).col), if (tk l i).kind = 5 then 8 else 7)
set_option maxRecDepth 100000 in
set_option maxHeartbeats 4000000 in
theorem end_g (rb : Nat) (la : Option Addr) (lc : Nat) (S : Nat → Prop) (l : List Tok) (i : Nat) (b : Bool) (w : World) (hR : Rd rb la lc S l w i b) (hi : i < l.length) (hl : l.length ≤ 1000000) :
    Calls Tryz.prog 64 #[.pointer (some ⟨rb, 0, none⟩)] w fun e w' => e = .returned (.tuple #[.agg #[.int .i64 (endF l i b).1.1, .int .i64 (endF l i b).1.2], .int .i64 (endF l i b).2]) ∧ Ext w w' := by
  have HV : Hid (endF l i b = if b = false ∧ (tk l i).kind = 5 then ((0, 0), 0) else (((tk l i).line, (tk l i).col), if (tk l i).kind = 5 then 8 else 7)) := Lib.hid rfl
  obtain ⟨V, hV⟩ : ∃ V, endF l i b = V := ⟨_, rfl⟩
  rw [hV] at HV ⊢
  clear hV
  obtain ⟨gg, off, hga, hSg, hat⟩ := (TkR.at_ hR.tk (Nat.lt_of_le_of_lt (Nat.zero_le _) hi)).2
  subst hga
  obtain ⟨q0, q1, q2, q3, q4⟩ := hat i hi
  have HR := Lib.hid hR
  obtain ⟨⟨kd, tx, tn, tl, tc⟩, ht⟩ : ∃ t, tk l i = t := ⟨_, rfl⟩
  rw [ht] at q0 q1 q2 q3 q4
  try rw [ht]
  have i0 : (0 : Int) ≤ (i : Int) := by omega
  have i1 : (i : Int) < (l.length : Int) := by omega
  dsimp only at q0 q1 q2 q3 q4
  clear hat hR
  rw [ht] at HV
  dsimp only at HV
  clear ht
  have HE0 := Lib.hid ((Upd.refl (fun _ => False) w).alloc (.cells #[.int .i64 0, .int .i64 0] 45))
  have HP0 := Lib.hid (alloc0 w (.cells #[.int .i64 0, .int .i64 0] 45))
  have HBR0 := Lib.hid (HE0.out.heap HR.out.box (fun h => h))
  obtain ⟨rp, hrp⟩ : ∃ x, w.heap.size = x := ⟨_, rfl⟩
  rw [hrp] at HP0
  have hs0 := alloc_size w (.cells #[.int .i64 0, .int .i64 0] 45)
  go_enter Tryz.func64, Tryz.ntmps64
  go_upto_region 1 with fail
  try rw [hrp]
  have q0 := HE0.out.cell q0 (fun h => h)
  have q1 := HE0.out.cell q1 (fun h => h)
  have q2 := HE0.out.cell q2 (fun h => h)
  have q3 := HE0.out.cell q3 (fun h => h)
  have q4 := HE0.out.cell q4 (fun h => h)
  obtain ⟨w1, hw1⟩ : ∃ w1, w1 = w.alloc (.cells #[.int .i64 0, .int .i64 0] 45) := ⟨_, rfl⟩
  rw [← hw1] at HE0 HP0 HBR0 q0 q1 q2 q3 q4 hs0 ⊢
  have HBR := HBR0
  clear hw1 HR
  have X0 := fun x : XW w1 => cellRow (x.ext.heap HBR.out (fun h => h)) 0 (.slice (some ⟨gg, off, none⟩) l.length lc) rfl
  have X1 := fun x : XW w1 => cellRow (x.ext.heap HBR.out (fun h => h)) 1 (.int .i64 (i : Int)) rfl
  have X2 := fun x : XW w1 => x.ext.cell q0 (fun h => h)
  have X3 := fun x : XW w1 => x.ext.cell q1 (fun h => h)
  have X4 := fun x : XW w1 => x.ext.cell q2 (fun h => h)
  have X5 := fun x : XW w1 => x.ext.cell q3 (fun h => h)
  have X6 := fun x : XW w1 => x.ext.cell q4 (fun h => h)
  refine wp_region_par (α := Nat) 11 [(11, 2)] [[], [0], [0, 1], [0, 1, 2], [], [4], [4, 5], [4, 5, 6], [0, 1, 2, 3, 4, 5, 6, 7], [0, 1, 2, 3, 4, 5, 6, 7, 8], [], [0, 1, 2, 3, 4, 5, 6, 7, 8, 9, 10]]
    [none, none, none, none, none, none, none, none, none, none, some (annTk w1.heap.size)] [false, false, false, false, false, false, false, false, false, false, true] (by kernel_rfl) (by kernel_rfl) rfl (fun _ _ d _ _ h => by cases d <;> exact h) ?_
  simp only [List.take_succ_cons, List.take_zero, pickO, List.getElem?_cons_zero, List.getElem?_cons_succ]
  iterate 10 (refine can_pure0 rfl (fun K hK => ?_); go_simp; refine hK _ ?_; clear hK K)
  refine can_mem _ rfl (by go_simp) (fun W hW hG K hK => ?_) (fun K x hK => ?_)
  · go_simp
    exact hK W.heap.size _ ((Upd.refl (fun _ => False) W).alloc _) ⟨hW.size, alloc0 _ _⟩
  refine hK _ ?_; clear hK K
  dsimp only [annTk]
  refine can_end (fun W hW hG => ?_)
  obtain ⟨hxs, hxb⟩ := hG _ (List.mem_singleton.2 rfl)
  have HBX := Lib.hid hxb
  have HWW := Lib.hid hW
  have z0 := cellRow hxb 0 (.int .i64 0) rfl
  have z1 := cellRow hxb 1 (.string ⟨#[]⟩) rfl
  have z2 := cellRow hxb 2 (.int .i64 0) rfl
  have z3 := cellRow hxb 3 (.int .i64 0) rfl
  have z4 := cellRow hxb 4 (.int .i64 0) rfl
  have fz := fun j => frozenRow hxb j
  clear hG hxb hW X0 X1 X2 X3 X4 X5 X6
  refine mix_two ?_
  intro K hK
  go_simp
  refine hK _ _ ?_
  clear hK K
  have hrx := st5_heap HBX.out (.int .i64 (kd : Int)) (.string tx) (.int .i64 tn) (.int .i64 tl) (.int .i64 tc)
  have hux := st5_upd W x (.int .i64 (kd : Int)) (.string tx) (.int .i64 tn) (.int .i64 tl) (.int .i64 tc)
  have HRX := Lib.hid hrx
  have HUX := Lib.hid hux
  clear hrx hux z0 z1 z2 z3 z4 fz
  generalize (((((W.setCell ⟨x, 0, none⟩ (.int .i64 (kd : Int))).setCell ⟨x, 1, none⟩ (.string tx)).setCell ⟨x, 2, none⟩ (.int .i64 tn)).setCell ⟨x, 3, none⟩ (.int .i64 tl)).setCell ⟨x, 4, none⟩ (.int .i64 tc)) = w5 at *
  have HE5 : Hid (Ext w1 w5) := Lib.hid (HWW.out.trans' HUX.out (fun j hj e => by omega))
  have k0 := cellRow HRX.out 0 (.int .i64 (kd : Int)) rfl
  have k1 := cellRow HRX.out 1 (.string tx) rfl
  have k2 := cellRow HRX.out 2 (.int .i64 tn) rfl
  have k3 := cellRow HRX.out 3 (.int .i64 tl) rfl
  have k4 := cellRow HRX.out 4 (.int .i64 tc) rfl
  simp only [wpMix]
  have HB5 := Lib.hid (HE5.out.heap HBR.out (fun h => h))
  have HP5 := Lib.hid (HE5.out.heap HP0.out (fun h => h))
  have HF := Lib.hid (HE0.out.trans HE5.out)
  have c0 := cellRow HB5.out 0 (.slice (some ⟨gg, off, none⟩) l.length lc) rfl
  have c1 := cellRow HB5.out 1 (.int .i64 (i : Int)) rfl
  have c2 := cellRow HB5.out 2 (.bool b) rfl
  have p0 := cellRow HP5.out 0 (.int .i64 0) rfl
  have p1 := cellRow HP5.out 1 (.int .i64 0) rfl
  have fp := fun j => frozenRow HP5.out j
  clear HBX HWW HUX HE5 q0 q1 q2 q3 q4
  by_cases h5 : kd = 5
  · subst h5
    cases b
    · have HV2 : Hid (V = ((0, 0), 0)) := Lib.hid (by rw [HV.out, if_pos ⟨rfl, rfl⟩])
      go_wp2_with fail
      have hr2 := st2_heap HP5.out (.int .i64 0) (.int .i64 0)
      have hu2 := st2_upd w5 rp (.int .i64 0) (.int .i64 0)
      have e0 := cellRow hr2 0 _ rfl
      have e1 := cellRow hr2 1 _ rfl
      refine bodyPost_ret (v := .tuple #[.agg #[.int .i64 0, .int .i64 0], .int .i64 0]) (by simp [results, Tryz.results64, go_sem, e0, e1]) rfl ?_
      rw [HV2.out]
      exact ⟨rfl, HF.out.trans' hu2 (fun j hj e => by omega)⟩
    · have HV2 : Hid (V = ((tl, tc), 8)) := Lib.hid (by rw [HV.out, if_neg (fun h => by cases h.1), if_pos rfl])
      go_wp2_with fail
      have hr2 := st2_heap HP5.out (.int .i64 tl) (.int .i64 tc)
      have hu2 := st2_upd w5 rp (.int .i64 tl) (.int .i64 tc)
      have e0 := cellRow hr2 0 _ rfl
      have e1 := cellRow hr2 1 _ rfl
      refine bodyPost_ret (v := .tuple #[.agg #[.int .i64 tl, .int .i64 tc], .int .i64 8]) (by simp [results, Tryz.results64, go_sem, e0, e1]) rfl ?_
      rw [HV2.out]
      exact ⟨rfl, HF.out.trans' hu2 (fun j hj e => by omega)⟩
  · have HV2 : Hid (V = ((tl, tc), 7)) := Lib.hid (by rw [HV.out, if_neg (fun h => h5 h.2), if_neg h5])
    have t5 : ((kd : Int) == 5) = false := beq_eq_false_iff_ne.2 (by omega)
    clear h5
    cases b
    · go_wp2_with fail
      have hr2 := st2_heap HP5.out (.int .i64 tl) (.int .i64 tc)
      have hu2 := st2_upd w5 rp (.int .i64 tl) (.int .i64 tc)
      have e0 := cellRow hr2 0 _ rfl
      have e1 := cellRow hr2 1 _ rfl
      refine bodyPost_ret (v := .tuple #[.agg #[.int .i64 tl, .int .i64 tc], .int .i64 7]) (by simp [results, Tryz.results64, go_sem, e0, e1]) rfl ?_
      rw [HV2.out]
      exact ⟨rfl, HF.out.trans' hu2 (fun j hj e => by omega)⟩
    · go_wp2_with fail
      have hr2 := st2_heap HP5.out (.int .i64 tl) (.int .i64 tc)
      have hu2 := st2_upd w5 rp (.int .i64 tl) (.int .i64 tc)
      have e0 := cellRow hr2 0 _ rfl
      have e1 := cellRow hr2 1 _ rfl
      refine bodyPost_ret (v := .tuple #[.agg #[.int .i64 tl, .int .i64 tc], .int .i64 7]) (by simp [results, Tryz.results64, go_sem, e0, e1]) rfl ?_
      rw [HV2.out]
      exact ⟨rfl, HF.out.trans' hu2 (fun j hj e => by omega)⟩
theorem tok_iP (s : By) (w : World) (htab : AscT w) (hA : AtoiD w) (hs : s.size ≤ 1000000) : Calls Tryz.prog 58 #[.string s] w fun e w' => TokP (w.heap.size + 1) w' e (tokF (wdF iR) s) ∧ Ext w w' := by
  rw [← tokF_iP]
  exact tokens_x iP s w htab (fun i k W _ hk _ hW => pword_x iP (s.extract i k) W (asc_ext htab hW) (.inr (.inr (fun W' hW' => integer_x _ W' ((hA.ext hW).ext hW') (by rw [ByteArray.size_extract]; omega)))))
set_option maxRecDepth 100000 in
set_option maxHeartbeats 8000000 in
theorem parse_e1 (s : By) (R : Tm × (Int × Int) × Int) (ln cl er : Int) (w : World) (hR : R = (nulT, (ln, cl), er)) (her : er ≠ 0) (ht : ∀ W, Ext w W → Calls Tryz.prog 58 #[.string s] W fun e W' => e = .returned (.tuple #[.slice none 0 0, .agg #[.int .i64 ln, .int .i64 cl], .int .i64 er]) ∧ Ext W W') :
    Calls Tryz.prog 25 #[.string s] w fun e w' => ∃ u, e = .returned (.tuple #[tV R.1 u, .agg #[.int .i64 R.2.1.1, .int .i64 R.2.1.2], .int .i64 R.2.2]) ∧ TlR (fun k => w.heap.size ≤ k ∧ k < w'.heap.size) w' R.1.kids u ∧ Ext w w' := by
  have HV := Lib.hid hR
  have t1 : (er == 0) = false := beq_eq_false_iff_ne.2 her
  have t2 : (er != 0) = true := bne_iff_ne.2 her
  have HE0 := Lib.hid (((Upd.refl (fun _ => False) w).alloc (.cells #[.string ⟨#[]⟩, .string ⟨#[]⟩, .slice none 0 0] 24)).alloc (.cells #[.int .i64 0, .int .i64 0] 45))
  have HZ0 := Lib.hid (allocOld (alloc0 w (.cells #[.string ⟨#[]⟩, .string ⟨#[]⟩, .slice none 0 0] 24)) (.cells #[.int .i64 0, .int .i64 0] 45))
  have HQ0 := Lib.hid (alloc_at (w.alloc (.cells #[.string ⟨#[]⟩, .string ⟨#[]⟩, .slice none 0 0] 24)) (.cells #[.int .i64 0, .int .i64 0] 45) (n := w.heap.size + 1) (by simp))
  have hs0 : ((w.alloc (.cells #[.string ⟨#[]⟩, .string ⟨#[]⟩, .slice none 0 0] 24)).alloc (.cells #[.int .i64 0, .int .i64 0] 45)).heap.size = w.heap.size + 2 := by simp
  obtain ⟨b0, hb0⟩ : ∃ x, w.heap.size = x := ⟨_, rfl⟩
  rw [hb0] at HZ0 HQ0
  have HTO := Lib.hid (ht ((w.alloc (.cells #[.string ⟨#[]⟩, .string ⟨#[]⟩, .slice none 0 0] 24)).alloc (.cells #[.int .i64 0, .int .i64 0] 45)) HE0.out)
  clear ht her hR
  go_enter Tryz.func25, Tryz.ntmps25
  go_wp2_with fail
  try rw [hb0]
  generalize ((w.alloc (.cells #[.string ⟨#[]⟩, .string ⟨#[]⟩, .slice none 0 0] 24)).alloc (.cells #[.int .i64 0, .int .i64 0] 45)) = w1 at *
  refine HTO.out.mono ?_
  rintro e w2 ⟨rfl, hw2⟩
  have HA3 := Lib.hid (alloc0 w2 (.cells #[.int .i64 ln, .int .i64 cl] 45))
  have HE3 := Lib.hid ((HE0.out.trans hw2).alloc (.cells #[.int .i64 ln, .int .i64 cl] 45))
  have HZ3 := Lib.hid (allocOld (hw2.heap HZ0.out (fun h => h)) (.cells #[.int .i64 ln, .int .i64 cl] 45))
  have HQ3 := Lib.hid (allocOld (hw2.heap HQ0.out (fun h => h)) (.cells #[.int .i64 ln, .int .i64 cl] 45))
  have hs2 := hw2.size
  have hs3 := alloc_size w2 (.cells #[.int .i64 ln, .int .i64 cl] 45)
  clear hw2 HTO
  go_upto_region 3 with fail
  obtain ⟨ab, hab⟩ : ∃ x, w2.heap.size = x := ⟨_, rfl⟩
  rw [hab] at HA3
  try rw [hab]
  generalize w2.alloc (.cells #[.int .i64 ln, .int .i64 cl] 45) = w3 at *
  have z0 := cellRow HZ3.out 0 (.string ⟨#[]⟩) rfl
  have z1 := cellRow HZ3.out 1 (.string ⟨#[]⟩) rfl
  have z2 := cellRow HZ3.out 2 (.slice none 0 0) rfl
  have p0 := cellRow HQ3.out 0 (.int .i64 0) rfl
  have p1 := cellRow HQ3.out 1 (.int .i64 0) rfl
  have a0 := cellRow HA3.out 0 (.int .i64 ln) rfl
  have a1 := cellRow HA3.out 1 (.int .i64 cl) rfl
  have fz := fun j => frozenRow HZ3.out j
  have fp := fun j => frozenRow HQ3.out j
  go_region
  go_wp2_with fail
  have hz := st3_heap HZ3.out (.string ⟨#[]⟩) (.string ⟨#[]⟩) (.slice none 0 0)
  have huz := st3_upd' w3 b0 (.string ⟨#[]⟩) (.string ⟨#[]⟩) (.slice none 0 0)
  have hq := st2_heap (huz.heap HQ3.out (by omega)) (.int .i64 (ln)) (.int .i64 (cl))
  have huq := st2_upd (((((w3).setCell ⟨b0, 0, none⟩ (.string ⟨#[]⟩)).setCell ⟨b0, 1, none⟩ (.string ⟨#[]⟩)).setCell ⟨b0, 2, none⟩ (.slice none 0 0))) (b0 + 1) (.int .i64 (ln)) (.int .i64 (cl))
  have hz2 := huq.heap hz (by omega)
  have e0 := cellRow hz2 0 _ rfl
  have e1 := cellRow hz2 1 _ rfl
  have e2 := cellRow hz2 2 _ rfl
  have e3 := cellRow hq 0 _ rfl
  have e4 := cellRow hq 1 _ rfl
  refine bodyPost_ret (v := .tuple #[.agg #[.string ⟨#[]⟩, .string ⟨#[]⟩, .slice none 0 0], .agg #[.int .i64 (ln), .int .i64 (cl)], .int .i64 (er)]) (by simp [results, Tryz.results25, go_sem, e0, e1, e2, e3, e4]) rfl ?_
  rw [HV.out]
  exact ⟨.slice none 0 0, rfl, .mk [] [] _ rfl (SlR.nil _ _ _) (fun i hi => absurd hi (Nat.not_lt_zero _)), ((HE3.out.trans' huz (fun k hk e => by omega)).trans' huq (fun k hk e => by omega)).drew⟩
set_option maxRecDepth 100000 in
set_option maxHeartbeats 8000000 in
theorem parse_x (s : By) (w : World) (htab : AscT w) (hA : AtoiD w) (hs : s.size ≤ 1000000) (R : Tm × (Int × Int) × Int) (hR : psF s = R) :
    Calls Tryz.prog 25 #[.string s] w fun e w' => ∃ u, e = .returned (.tuple #[tV R.1 u, .agg #[.int .i64 R.2.1.1, .int .i64 R.2.1.2], .int .i64 R.2.2]) ∧ TlR (fun k => w.heap.size ≤ k ∧ k < w'.heap.size) w' R.1.kids u ∧ Ext w w' := by
  have HTT : ∀ W, Ext w W → Calls Tryz.prog 58 #[.string s] W fun e W' => TokP (W.heap.size + 1) W' e (tokF (wdF iR) s) ∧ Ext W W' := fun W hW => tok_iP s W (asc_ext htab hW) (hA.ext hW) hs
  unfold psF at hR
  cases h1 : tokF (wdF iR) s with
  | full => rw [h1] at hR HTT; exact parse_e1 s R 0 0 4 w hR.symm (by decide) HTT
  | bad ln cl => rw [h1] at hR HTT; exact parse_e1 s R ln cl 7 w hR.symm (by decide) HTT
  | ok l =>
  rw [h1] at hR HTT
  dsimp only at hR
  obtain ⟨hen, hll⟩ := tok_ended h1
  have hl0 := hen.pos
  have hjl := (pT_fwd hen l.length 0 hl0).2.1
  have HEN := Lib.hid hen
  have HTAB := Lib.hid htab
  have HE0 := Lib.hid (((Upd.refl (fun _ => False) w).alloc (.cells #[.string ⟨#[]⟩, .string ⟨#[]⟩, .slice none 0 0] 24)).alloc (.cells #[.int .i64 0, .int .i64 0] 45))
  have HZ0 := Lib.hid (allocOld (alloc0 w (.cells #[.string ⟨#[]⟩, .string ⟨#[]⟩, .slice none 0 0] 24)) (.cells #[.int .i64 0, .int .i64 0] 45))
  have HQ0 := Lib.hid (alloc_at (w.alloc (.cells #[.string ⟨#[]⟩, .string ⟨#[]⟩, .slice none 0 0] 24)) (.cells #[.int .i64 0, .int .i64 0] 45) (n := w.heap.size + 1) (by simp))
  have hs0 : ((w.alloc (.cells #[.string ⟨#[]⟩, .string ⟨#[]⟩, .slice none 0 0] 24)).alloc (.cells #[.int .i64 0, .int .i64 0] 45)).heap.size = w.heap.size + 2 := by simp
  obtain ⟨b0, hb0⟩ : ∃ x, w.heap.size = x := ⟨_, rfl⟩
  rw [hb0] at HZ0 HQ0
  have HTO := Lib.hid (HTT ((w.alloc (.cells #[.string ⟨#[]⟩, .string ⟨#[]⟩, .slice none 0 0] 24)).alloc (.cells #[.int .i64 0, .int .i64 0] 45)) HE0.out)
  have HRR := Lib.hid hR
  clear HTT htab hA hen h1 hR
  go_enter Tryz.func25, Tryz.ntmps25
  go_wp2_with fail
  try rw [hb0]
  generalize ((w.alloc (.cells #[.string ⟨#[]⟩, .string ⟨#[]⟩, .slice none 0 0] 24)).alloc (.cells #[.int .i64 0, .int .i64 0] 45)) = w1 at *
  refine HTO.out.mono ?_
  rintro e w2 ⟨⟨v, rfl, hTk⟩, hw2⟩
  obtain ⟨la, lc, hv⟩ := SlR.shape hTk
  subst hv
  have HTK := Lib.hid hTk
  have HW2 := Lib.hid (HE0.out.trans hw2)
  have HX2 := Lib.hid hw2
  have HZ2 := Lib.hid (hw2.heap HZ0.out (fun h => h))
  have HQ2 := Lib.hid (hw2.heap HQ0.out (fun h => h))
  have hs2 := hw2.size
  clear hw2 hTk HTO
  have HB3 := Lib.hid (alloc0 (w2.alloc (.cells #[.int .i64 0, .int .i64 0] 45)) (.cells #[.slice la l.length lc, .int .i64 0, .bool false] 103))
  have HE3 := Lib.hid (((Upd.refl (fun _ => False) w2).alloc (.cells #[.int .i64 0, .int .i64 0] 45)).alloc (.cells #[.slice la l.length lc, .int .i64 0, .bool false] 103))
  have hs3 : ((w2.alloc (.cells #[.int .i64 0, .int .i64 0] 45)).alloc (.cells #[.slice la l.length lc, .int .i64 0, .bool false] 103)).heap.size = w2.heap.size + 2 := by simp
  go_upto_region 5 with fail
  obtain ⟨rb, hrb⟩ : ∃ x, w2.heap.size + 1 = x := ⟨_, rfl⟩
  rw [show (w2.alloc (.cells #[.int .i64 0, .int .i64 0] 45)).heap.size = rb by rw [alloc_size]; exact hrb] at HB3
  try rw [hrb]
  generalize ((w2.alloc (.cells #[.int .i64 0, .int .i64 0] 45)).alloc (.cells #[.slice la l.length lc, .int .i64 0, .bool false] 103)) = w3 at *
  have HRD : Hid (Rd rb la lc (fun k => w1.heap.size + 1 ≤ k ∧ k < w2.heap.size) l w3 0 false) := Lib.hid ⟨HB3.out, HTK.out.ext HE3.out, fun h => by omega⟩
  have HTM := Lib.hid (term_x rb la lc (fun k => w1.heap.size + 1 ≤ k ∧ k < w2.heap.size) l HEN.out (by omega) l.length 0 false w3 HRD.out hl0 (by omega) (fun k hk => by omega))
  rw [if_neg (by decide)] at HTM
  have HSZ : Hid (∀ t j, pT l l.length 0 = .ok t j → t.size + 0 ≤ j) := Lib.hid (fun t j h => pT_size _ _ _ _ h)
  generalize pT l l.length 0 = Q at *
  go_wp2_with fail
  refine HTM.out.mono ?_
  rintro e w4 ⟨t, u, Bx, rfl, hT4, hB4, hu4, hm4⟩
  obtain ⟨ya, yc, hy⟩ := TlO.shape hT4
  subst hy
  obtain ⟨j, b, HJ⟩ : ∃ j b, Hid (j < l.length ∧ Rd rb la lc (fun k => w1.heap.size + 1 ≤ k ∧ k < w2.heap.size) l w4 j b ∧ (endF l j b).2 ≠ 0 ∧ R = (nulT, (endF l j b).1, (endF l j b).2) ∨
      j < l.length ∧ Rd rb la lc (fun k => w1.heap.size + 1 ≤ k ∧ k < w2.heap.size) l w4 j b ∧ endF l j b = ((0, 0), 0) ∧ t.size ≤ 1000000 ∧ R = (if formed nmB t = false then (nulT, (0, 0), 4) else if (sortsT t).isSome = true then (t, (0, 0), 0) else (nulT, (0, 0), 11))) := by
    have h2 := HRR.out
    cases Q with
    | bad j =>
      refine ⟨j, true, Lib.hid (.inl ⟨hjl, hm4, ?_, ?_⟩)⟩
      · unfold endF
        rw [if_neg (fun h => by cases h.1)]
        show (if _ then (8 : Int) else 7) ≠ 0
        split <;> decide
      · unfold endF
        rw [if_neg (fun h => by cases h.1)]
        exact h2.symm
    | ok x j =>
      have hjl : j < l.length := hjl
      obtain ⟨e1, hrd⟩ : t = x ∧ Rd rb la lc (fun k => w1.heap.size + 1 ≤ k ∧ k < w2.heap.size) l w4 j false := hm4
      subst e1
      dsimp only at h2
      refine ⟨j, false, Lib.hid ?_⟩
      by_cases hk : (tk l j).kind = 5
      · rw [if_neg (fun h => h hk)] at h2
        exact .inr ⟨hjl, hrd, by unfold endF; rw [if_pos ⟨rfl, hk⟩], by have := HSZ.out _ _ rfl; omega, h2.symm⟩
      · rw [if_pos hk] at h2
        refine .inl ⟨hjl, hrd, ?_, ?_⟩
        · unfold endF
          rw [if_neg (fun h => hk h.2), if_neg hk]
          show (7 : Int) ≠ 0
          decide
        · unfold endF
          rw [if_neg (fun h => hk h.2), if_neg hk]
          exact h2.symm
  have HT4 : Hid (TlR (fun k => w3.heap.size ≤ k ∧ k < w4.heap.size) w4 t.kids (.slice ya t.kids.length yc)) := Lib.hid ((TlO.read hT4).weaken hB4)
  have hs4 := hu4.size
  have HU4 : Hid (Ext w w4) := Lib.hid ((HW2.out.trans HE3.out).trans' hu4 (fun k hk e => by omega))
  have HZ4 := Lib.hid (hu4.heap (HE3.out.heap HZ2.out (fun h => h)) (by omega))
  have HQ4 := Lib.hid (hu4.heap (HE3.out.heap HQ2.out (fun h => h)) (by omega))
  clear hT4 hB4 hu4 hm4 HTM HRD hjl HSZ HRR
  clear Q
  have HO5 := Lib.hid (alloc0 w4 (.cells #[.string t.name, .string t.sort, .slice ya t.kids.length yc] 24))
  have HE5 := Lib.hid ((Upd.refl (fun _ => False) w4).alloc (.cells #[.string t.name, .string t.sort, .slice ya t.kids.length yc] 24))
  have hs5 := alloc_size w4 (.cells #[.string t.name, .string t.sort, .slice ya t.kids.length yc] 24)
  go_upto_region 6 with fail
  obtain ⟨nt, hnt⟩ : ∃ x, w4.heap.size = x := ⟨_, rfl⟩
  try rw [hnt] at HO5
  try rw [hnt]
  generalize w4.alloc (.cells #[.string t.name, .string t.sort, .slice ya t.kids.length yc] 24) = w5 at *
  obtain ⟨⟨⟨ln, cl⟩, er⟩, hef⟩ : ∃ q, endF l j b = q := ⟨_, rfl⟩
  have HEND : Hid (Calls Tryz.prog 64 #[.pointer (some ⟨rb, 0, none⟩)] w5 fun e w' => e = .returned (.tuple #[.agg #[.int .i64 ln, .int .i64 cl], .int .i64 er]) ∧ Ext w5 w') := Lib.hid (by
    rcases HJ.out with ⟨g1, g2, _⟩ | ⟨g1, g2, _⟩
    · have := end_g rb la lc _ l j b w5 (g2.ext HE5.out) g1 (by omega)
      rw [hef] at this
      exact this
    · have := end_g rb la lc _ l j b w5 (g2.ext HE5.out) g1 (by omega)
      rw [hef] at this
      exact this)
  rw [hef] at HJ
  clear hef
  have HJ2 : Hid ((er ≠ 0 ∧ R = (nulT, (ln, cl), er)) ∨ (ln = 0 ∧ cl = 0 ∧ er = 0 ∧ t.size ≤ 1000000 ∧ R = (if formed nmB t = false then (nulT, (0, 0), 4) else if (sortsT t).isSome = true then (t, (0, 0), 0) else (nulT, (0, 0), 11)))) := Lib.hid (by
    rcases HJ.out with ⟨_, _, g3, g4⟩ | ⟨_, _, g3, g4, g5⟩
    · exact .inl ⟨g3, g4⟩
    · injection g3 with g3 g6
      injection g3 with g3 g7
      exact .inr ⟨g3, g7, g6, g4, g5⟩)
  clear HJ
  go_wp2_with fail
  refine HEND.out.mono ?_
  rintro e w6 ⟨rfl, hw6⟩
  have HE6 := Lib.hid ((HE5.out.trans hw6).alloc (.cells #[.int .i64 ln, .int .i64 cl] 45))
  have HO6 := Lib.hid (allocOld (hw6.heap HO5.out (fun h => h)) (.cells #[.int .i64 ln, .int .i64 cl] 45))
  have HA6 := Lib.hid (alloc0 w6 (.cells #[.int .i64 ln, .int .i64 cl] 45))
  have hs6 := hw6.size
  have hs6' := alloc_size w6 (.cells #[.int .i64 ln, .int .i64 cl] 45)
  clear hw6 HEND
  rcases HJ2.out with ⟨her, hv⟩ | ⟨rfl, rfl, rfl, htz, hv⟩
  · have HV := Lib.hid hv
    have t1 : (er == 0) = false := beq_eq_false_iff_ne.2 her
    have t2 : (er != 0) = true := bne_iff_ne.2 her
    clear HJ2 her hv
    go_upto_region 8 with fail
    obtain ⟨ab, hab⟩ : ∃ x, w6.heap.size = x := ⟨_, rfl⟩
    rw [hab] at HA6
    try rw [hab]
    generalize w6.alloc (.cells #[.int .i64 ln, .int .i64 cl] 45) = w7 at *
    have HZ7 := Lib.hid (HE6.out.heap HZ4.out (fun h => h))
    have HQ7 := Lib.hid (HE6.out.heap HQ4.out (fun h => h))
    have HU7 := Lib.hid (HU4.out.trans HE6.out)
    have z0 := cellRow HZ7.out 0 (.string ⟨#[]⟩) rfl
    have z1 := cellRow HZ7.out 1 (.string ⟨#[]⟩) rfl
    have z2 := cellRow HZ7.out 2 (.slice none 0 0) rfl
    have p0 := cellRow HQ7.out 0 (.int .i64 0) rfl
    have p1 := cellRow HQ7.out 1 (.int .i64 0) rfl
    have a0 := cellRow HA6.out 0 (.int .i64 ln) rfl
    have a1 := cellRow HA6.out 1 (.int .i64 cl) rfl
    have fz := fun j => frozenRow HZ7.out j
    have fp := fun j => frozenRow HQ7.out j
    go_region
    go_wp2_with fail
    have hz := st3_heap HZ7.out (.string ⟨#[]⟩) (.string ⟨#[]⟩) (.slice none 0 0)
    have huz := st3_upd' w7 b0 (.string ⟨#[]⟩) (.string ⟨#[]⟩) (.slice none 0 0)
    have hq := st2_heap (huz.heap HQ7.out (by omega)) (.int .i64 (ln)) (.int .i64 (cl))
    have huq := st2_upd (((((w7).setCell ⟨b0, 0, none⟩ (.string ⟨#[]⟩)).setCell ⟨b0, 1, none⟩ (.string ⟨#[]⟩)).setCell ⟨b0, 2, none⟩ (.slice none 0 0))) (b0 + 1) (.int .i64 (ln)) (.int .i64 (cl))
    have hz2 := huq.heap hz (by omega)
    have e0 := cellRow hz2 0 _ rfl
    have e1 := cellRow hz2 1 _ rfl
    have e2 := cellRow hz2 2 _ rfl
    have e3 := cellRow hq 0 _ rfl
    have e4 := cellRow hq 1 _ rfl
    refine bodyPost_ret (v := .tuple #[.agg #[.string ⟨#[]⟩, .string ⟨#[]⟩, .slice none 0 0], .agg #[.int .i64 (ln), .int .i64 (cl)], .int .i64 (er)]) (by simp [results, Tryz.results25, go_sem, e0, e1, e2, e3, e4]) rfl ?_
    rw [HV.out]
    exact ⟨.slice none 0 0, rfl, .mk [] [] _ rfl (SlR.nil _ _ _) (fun i hi => absurd hi (Nat.not_lt_zero _)), ((HU7.out.trans' huz (fun k hk e => by omega)).trans' huq (fun k hk e => by omega)).drew⟩
  have HV := Lib.hid hv
  clear HJ2 hv
  go_upto_region 9 with fail
  generalize w6.alloc (.cells #[.int .i64 0, .int .i64 0] 45) = w7 at *
  have HT7 := Lib.hid (HT4.out.ext HE6.out)
  have HU7 := Lib.hid (HU4.out.trans HE6.out)
  have t0 := cellRow HO6.out 0 (.string t.name) rfl
  have t1 := cellRow HO6.out 1 (.string t.sort) rfl
  have t2 := cellRow HO6.out 2 (.slice ya t.kids.length yc) rfl
  have HF := Lib.hid (formed_x t (tV t (.slice ya t.kids.length yc)) w7 (asc_ext HTAB.out HU7.out) ⟨ya, yc, rfl, HT7.out.weaken (fun k hk => by omega)⟩ (by omega))
  obtain ⟨fb, hfb⟩ : ∃ b, formed nmB t = b := ⟨_, rfl⟩
  rw [hfb] at HF HV
  clear hfb
  dsimp only [tV] at HF
  go_wp2_with fail
  refine HF.out.mono ?_
  rintro e w8 ⟨rfl, hw8⟩
  have HO8 := Lib.hid (hw8.heap HO6.out (fun h => h))
  have HT8 := Lib.hid (HT7.out.ext hw8)
  have HE8 := Lib.hid hw8
  have hs8 := hw8.size
  clear hw8 HF t0 t1 t2
  cases fb
  · have HV2 : Hid (R = (nulT, (0, 0), 4)) := Lib.hid (by rw [HV.out, if_pos rfl])
    have HZ8 := Lib.hid ((HE6.out.trans HE8.out).heap HZ4.out (fun h => h))
    have HQ8 := Lib.hid ((HE6.out.trans HE8.out).heap HQ4.out (fun h => h))
    have HU8 := Lib.hid (HU7.out.trans HE8.out)
    clear HV
    have z0 := cellRow HZ8.out 0 (.string ⟨#[]⟩) rfl
    have z1 := cellRow HZ8.out 1 (.string ⟨#[]⟩) rfl
    have z2 := cellRow HZ8.out 2 (.slice none 0 0) rfl
    have p0 := cellRow HQ8.out 0 (.int .i64 0) rfl
    have p1 := cellRow HQ8.out 1 (.int .i64 0) rfl
    have fz := fun j => frozenRow HZ8.out j
    have fp := fun j => frozenRow HQ8.out j
    go_wp2_with fail
    have hz := st3_heap HZ8.out (.string ⟨#[]⟩) (.string ⟨#[]⟩) (.slice none 0 0)
    have huz := st3_upd' w8 b0 (.string ⟨#[]⟩) (.string ⟨#[]⟩) (.slice none 0 0)
    have hq := st2_heap (huz.heap HQ8.out (by omega)) (.int .i64 (0)) (.int .i64 (0))
    have huq := st2_upd (((((w8).setCell ⟨b0, 0, none⟩ (.string ⟨#[]⟩)).setCell ⟨b0, 1, none⟩ (.string ⟨#[]⟩)).setCell ⟨b0, 2, none⟩ (.slice none 0 0))) (b0 + 1) (.int .i64 (0)) (.int .i64 (0))
    have hz2 := huq.heap hz (by omega)
    have e0 := cellRow hz2 0 _ rfl
    have e1 := cellRow hz2 1 _ rfl
    have e2 := cellRow hz2 2 _ rfl
    have e3 := cellRow hq 0 _ rfl
    have e4 := cellRow hq 1 _ rfl
    refine bodyPost_ret (v := .tuple #[.agg #[.string ⟨#[]⟩, .string ⟨#[]⟩, .slice none 0 0], .agg #[.int .i64 (0), .int .i64 (0)], .int .i64 (4)]) (by simp [results, Tryz.results25, go_sem, e0, e1, e2, e3, e4]) rfl ?_
    rw [HV2.out]
    exact ⟨.slice none 0 0, rfl, .mk [] [] _ rfl (SlR.nil _ _ _) (fun i hi => absurd hi (Nat.not_lt_zero _)), (HU8.out.trans' huz (fun k hk e => by omega)).trans' huq (fun k hk e => by omega)⟩
  have HV3 : Hid (R = if (sortsT t).isSome = true then (t, (0, 0), 0) else (nulT, (0, 0), 11)) := Lib.hid (by rw [HV.out, if_neg (by decide)])
  clear HV
  have t0 := cellRow HO8.out 0 (.string t.name) rfl
  have t1 := cellRow HO8.out 1 (.string t.sort) rfl
  have t2 := cellRow HO8.out 2 (.slice ya t.kids.length yc) rfl
  have HL9 := Lib.hid (alloc0 w8 (.cells #[.string t.name, .string t.sort, .slice ya t.kids.length yc] 24))
  have HE9 := Lib.hid ((Upd.refl (fun _ => False) w8).alloc (.cells #[.string t.name, .string t.sort, .slice ya t.kids.length yc] 24))
  have hs9 := alloc_size w8 (.cells #[.string t.name, .string t.sort, .slice ya t.kids.length yc] 24)
  have HSO := Lib.hid (sorts_x t w8.heap.size 0 1 0 yc ya (w8.alloc (.cells #[.string t.name, .string t.sort, .slice ya t.kids.length yc] 24)) ⟨cellRow HL9.out 0 _ rfl, cellRow HL9.out 1 _ rfl, cellRow HL9.out 2 _ rfl⟩ ((HT8.out.ext HE9.out).weaken (fun k hk => by omega)) (by omega))
  go_wp2_with fail
  refine HSO.out.mono ?_
  rintro e w9 ⟨hp, hw9⟩
  have HE10 := Lib.hid (HE8.out.trans (HE9.out.trans hw9))
  have HO10 := Lib.hid ((HE9.out.trans hw9).heap HO8.out (fun h => h))
  have HZ10 := Lib.hid ((HE6.out.trans HE10.out).heap HZ4.out (fun h => h))
  have HQ10 := Lib.hid ((HE6.out.trans HE10.out).heap HQ4.out (fun h => h))
  have HT10 := Lib.hid (HT7.out.ext HE10.out)
  have HU10 := Lib.hid (HU7.out.trans HE10.out)
  have hs10 := hw9.size
  clear hw9 HSO t0 t1 t2
  cases hmm : sortsT t with
  | none =>
    rw [hmm] at hp HV3
    subst hp
    have HV2 : Hid (R = (nulT, (0, 0), 11)) := Lib.hid (by rw [HV3.out, if_neg (by simp)])
    clear HV3 hmm
    have z0 := cellRow HZ10.out 0 (.string ⟨#[]⟩) rfl
    have z1 := cellRow HZ10.out 1 (.string ⟨#[]⟩) rfl
    have z2 := cellRow HZ10.out 2 (.slice none 0 0) rfl
    have p0 := cellRow HQ10.out 0 (.int .i64 0) rfl
    have p1 := cellRow HQ10.out 1 (.int .i64 0) rfl
    have fz := fun j => frozenRow HZ10.out j
    have fp := fun j => frozenRow HQ10.out j
    go_wp2_with fail
    have hz := st3_heap HZ10.out (.string ⟨#[]⟩) (.string ⟨#[]⟩) (.slice none 0 0)
    have huz := st3_upd' w9 b0 (.string ⟨#[]⟩) (.string ⟨#[]⟩) (.slice none 0 0)
    have hq := st2_heap (huz.heap HQ10.out (by omega)) (.int .i64 (0)) (.int .i64 (0))
    have huq := st2_upd (((((w9).setCell ⟨b0, 0, none⟩ (.string ⟨#[]⟩)).setCell ⟨b0, 1, none⟩ (.string ⟨#[]⟩)).setCell ⟨b0, 2, none⟩ (.slice none 0 0))) (b0 + 1) (.int .i64 (0)) (.int .i64 (0))
    have hz2 := huq.heap hz (by omega)
    have e0 := cellRow hz2 0 _ rfl
    have e1 := cellRow hz2 1 _ rfl
    have e2 := cellRow hz2 2 _ rfl
    have e3 := cellRow hq 0 _ rfl
    have e4 := cellRow hq 1 _ rfl
    refine bodyPost_ret (v := .tuple #[.agg #[.string ⟨#[]⟩, .string ⟨#[]⟩, .slice none 0 0], .agg #[.int .i64 (0), .int .i64 (0)], .int .i64 (11)]) (by simp [results, Tryz.results25, go_sem, e0, e1, e2, e3, e4]) rfl ?_
    rw [HV2.out]
    exact ⟨.slice none 0 0, rfl, .mk [] [] _ rfl (SlR.nil _ _ _) (fun i hi => absurd hi (Nat.not_lt_zero _)), (HU10.out.trans' huz (fun k hk e => by omega)).trans' huq (fun k hk e => by omega)⟩
  | some mm =>
    rw [hmm] at hp HV3
    obtain ⟨bq, rfl, _, _⟩ := hp
    have HV2 : Hid (R = (t, (0, 0), 0)) := Lib.hid (by rw [HV3.out, if_pos (by simp)])
    clear HV3 hmm
    have t0 := cellRow HO10.out 0 (.string t.name) rfl
    have t1 := cellRow HO10.out 1 (.string t.sort) rfl
    have t2 := cellRow HO10.out 2 (.slice ya t.kids.length yc) rfl
    have z0 := cellRow HZ10.out 0 (.string ⟨#[]⟩) rfl
    have z1 := cellRow HZ10.out 1 (.string ⟨#[]⟩) rfl
    have z2 := cellRow HZ10.out 2 (.slice none 0 0) rfl
    have p0 := cellRow HQ10.out 0 (.int .i64 0) rfl
    have p1 := cellRow HQ10.out 1 (.int .i64 0) rfl
    have fz := fun j => frozenRow HZ10.out j
    have fp := fun j => frozenRow HQ10.out j
    go_wp2_with fail
    have hz := st3_heap HZ10.out (.string t.name) (.string t.sort) (.slice ya t.kids.length yc)
    have huz := st3_upd' w9 b0 (.string t.name) (.string t.sort) (.slice ya t.kids.length yc)
    have hq := st2_heap (huz.heap HQ10.out (by omega)) (.int .i64 (0)) (.int .i64 (0))
    have huq := st2_upd (((((w9).setCell ⟨b0, 0, none⟩ (.string t.name)).setCell ⟨b0, 1, none⟩ (.string t.sort)).setCell ⟨b0, 2, none⟩ (.slice ya t.kids.length yc))) (b0 + 1) (.int .i64 (0)) (.int .i64 (0))
    have hz2 := huq.heap hz (by omega)
    have e0 := cellRow hz2 0 _ rfl
    have e1 := cellRow hz2 1 _ rfl
    have e2 := cellRow hz2 2 _ rfl
    have e3 := cellRow hq 0 _ rfl
    have e4 := cellRow hq 1 _ rfl
    refine bodyPost_ret (v := .tuple #[.agg #[.string t.name, .string t.sort, .slice ya t.kids.length yc], .agg #[.int .i64 (0), .int .i64 (0)], .int .i64 (0)]) (by simp [results, Tryz.results25, go_sem, e0, e1, e2, e3, e4]) rfl ?_
    have hsa := huz.size
    have hsb := huq.size
    rw [HV2.out]
    exact ⟨.slice ya t.kids.length yc, rfl, ((HT10.out.kept huz (fun k hk e => by have := hk.1; omega)).kept huq (fun k hk e => by have := hk.1; omega)).weaken (fun k hk => ⟨by have := hk.1; omega, by have := hk.2; omega⟩), (HU10.out.trans' huz (fun k hk e => by omega)).trans' huq (fun k hk e => by omega)⟩

end Go.Proofs.YtjjaknmnhhfjeaaGreatDoor

/- Parsed of the reference. -/
namespace Go.Proofs.YtjjaknmnhhfjeaaGreatDoor
open Go.RowKit Go.Hw Go Go.Sort Go.Proofs Go.ChangeMaps
set_option linter.unusedVariables false
set_option linter.unusedSimpArgs false

open Tm
def PrP : PR Tm → Ending → World → World → Prop
  | .ok t j, e, w, w' => ∃ u B, e = .returned (.tuple #[tV t u, .int .i64 (j : Int), .bool true]) ∧ TlO 24 w' B t.kids u ∧ (∀ k, B k → w.heap.size ≤ k ∧ k < w'.heap.size) ∧ Ext w w'
  | .bad j, e, w, w' => e = .returned (.tuple #[.agg #[.string ⟨#[]⟩, .string ⟨#[]⟩, .slice none 0 0], .int .i64 (j : Int), .bool false]) ∧ Ext w w'
def pLe (l : List Tok) (n m j : Nat) (xs : List Tm) : PR (List Tm) := match pT l n j with
  | .bad k => .bad k
  | .ok x k => pL (pT l n) l m k false (xs ++ [x])
def wrapT (nm : By) : PR (List Tm) → PR Tm
  | .bad j => .bad j
  | .ok L j => .ok (.mk nm nul L) j
def tq (l : List Tok) (i : Nat) : Tok := tk l i
theorem pT_var {l : List Tok} {n i : Nat} (h1 : (tk l i).kind = 1) (h2 : isB (tk l (i + 1)) sCl = true) : pT l (n + 1) i = if (tk l (i + 2)).kind ≠ 1 then .bad (i + 2) else .ok (.mk (tk l i).text (tk l (i + 2)).text []) (i + 3) := by
  rw [pT, if_neg (fun h => h h1), if_pos h2]
theorem pT_par {l : List Tok} {n i : Nat} (h1 : (tk l i).kind = 1) (h2 : isB (tk l (i + 1)) sCl = false) : pT l (n + 1) i = wrapT (tk l i).text (pP (pT l n) l (i + 1)) := by
  rw [pT, if_neg (fun h => h h1), if_neg (by rw [h2]; decide)]
  cases pP (pT l n) l (i + 1) <;> rfl
theorem pL_next {l : List Tok} {n m k : Nat} {xs : List Tm} (h1 : isB (tk l k) sRp = false) (h2 : isB (tk l k) sCm = true) : pL (pT l n) l (m + 1) k false xs = pLe l n m (k + 1) xs := by
  rw [pL, if_neg (by rw [h1]; decide), if_neg (fun h => by rw [h2] at h; cases h.2), if_neg (by decide)]
  unfold pLe
  cases pT l n (k + 1) <;> rfl
theorem pL_first {l : List Tok} {n m k : Nat} (h1 : isB (tk l k) sRp = false) : pL (pT l n) l (m + 1) k true [] = pLe l n m k [] := by
  rw [pL, if_neg (by rw [h1]; decide), if_neg (fun h => by cases h.1), if_pos rfl]
  unfold pLe
  cases pT l n k <;> rfl
theorem one3 (a b : By) (c : Option Addr) (d e : Nat) : ∀ u ∈ [Value.string a, .string b, .slice c d e], u.oneCell' = true := fun u hu => by
  simp at hu
  rcases hu with h | h | h <;> (subst h; rfl)
set_option maxRecDepth 100000 in
set_option maxHeartbeats 8000000 in
theorem parsed_x (la : Option Addr) (lc : Nat) (S : Nat → Prop) (l : List Tok) (hE : Ended l) (hok : ∀ i, TkOk (tk l i)) (hl : l.length ≤ 1000000) : ∀ (n i : Nat) (w : World), TkR S w (.slice la l.length lc) l → (∀ k, S k → k < w.heap.size) → i < l.length → l.length - i ≤ n →
    Calls Tryz.prog 78 #[.slice la l.length lc, .int .i64 (i : Int)] w fun e w' => PrP (pT l n i) e w w' := by
  intro n
  induction n with
  | zero => intro i w _ _ hi hn; omega
  | succ n ih =>
  intro i w hR hS hi hn
  have HIH : Hid (∀ W, Ext w W → ∀ j, j < l.length → l.length - j ≤ n → Calls Tryz.prog 78 #[.slice la l.length lc, .int .i64 (j : Int)] W fun e w' => PrP (pT l n j) e W w') := Lib.hid (fun W hW j hj hn => ih j W (hR.ext hW) (fun k hk => Nat.lt_of_lt_of_le (hS k hk) hW.size) hj hn)
  obtain ⟨gg, off, hga, _, hat⟩ := (TkR.at_ hR (Nat.lt_of_le_of_lt (Nat.zero_le _) hi)).2
  subst hga
  have HC : Hid (∀ W, Ext w W → ∀ j, j < l.length → W.cell? ⟨gg, off + j * 5, none⟩ = some (.int .i64 ((tq l j).kind : Int)) ∧ W.cell? ⟨gg, off + j * 5 + 1, none⟩ = some (.string (tq l j).text) ∧ W.cell? ⟨gg, off + j * 5 + 2, none⟩ = some (.int .i64 (tq l j).n) ∧ W.cell? ⟨gg, off + j * 5 + 3, none⟩ = some (.int .i64 (tq l j).line) ∧ W.cell? ⟨gg, off + j * 5 + 4, none⟩ = some (.int .i64 (tq l j).col)) := Lib.hid (fun W hW j hj => by
    obtain ⟨q0, q1, q2, q3, q4⟩ := hat j hj
    exact ⟨hW.cell q0 (fun h => h), hW.cell q1 (fun h => h), hW.cell q2 (fun h => h), hW.cell q3 (fun h => h), hW.cell q4 (fun h => h)⟩)
  have HIS : Hid (∀ (j : Nat) (s : By) (W : World), kwB s = false → Calls Tryz.prog 105 #[.agg #[.int .i64 ((tq l j).kind : Int), .string (tq l j).text, .int .i64 (tq l j).n, .int .i64 (tq l j).line, .int .i64 (tq l j).col], .int .i64 4, .string s] W fun e W' => e = .returned (.bool (isB (tq l j) s)) ∧ Ext W W') := Lib.hid (fun j s W hs => by
    have h9 : isB (tq l j) s = (decide ((tq l j).kind = 4) && decide ((tq l j).text = s)) := is4 (hok j) hs
    rw [h9]
    exact rIs_x (tq l j) 4 s W)
  have HEN := Lib.hid hE
  obtain ⟨Q, hQ⟩ : ∃ Q, pT l (n + 1) i = Q := ⟨_, rfl⟩
  rw [hQ]
  have HQ := Lib.hid hQ
  have HE1 := Lib.hid ((Upd.refl (fun _ => False) w).alloc (.cells #[.string ⟨#[]⟩, .string ⟨#[]⟩, .slice none 0 0] 24))
  have HZ1 := Lib.hid (alloc0 w (.cells #[.string ⟨#[]⟩, .string ⟨#[]⟩, .slice none 0 0] 24))
  have hz1 := alloc_size w (.cells #[.string ⟨#[]⟩, .string ⟨#[]⟩, .slice none 0 0] 24)
  obtain ⟨rb, hrb⟩ : ∃ rb, w.heap.size = rb := ⟨_, rfl⟩
  rw [hrb] at HZ1
  have HK := Lib.hid kw_no
  clear ih hR hS hat hQ
  go_enter Tryz.func78, Tryz.ntmps78
  have i0 : (0 : Int) ≤ (i : Int) := by omega
  have i1' : (i : Int) < (l.length : Int) := by omega
  obtain ⟨q0, q1, q2, q3, q4⟩ := HC.out (w.alloc (.cells #[.string ⟨#[]⟩, .string ⟨#[]⟩, .slice none 0 0] 24)) HE1.out i hi
  by_cases hk1 : (tq l i).kind = 1
  case neg =>
    have HV : Hid (Q = .bad i) := Lib.hid (by rw [← HQ.out, pT, if_pos (show (tk l i).kind ≠ 1 from hk1)])
    have t1 : (((tq l i).kind : Int) == 1) = false := beq_eq_false_iff_ne.2 (by omega)
    have t2 : (((tq l i).kind : Int) != 1) = true := bne_iff_ne.2 (by omega)
    go_upto_region 1 with fail
    try rw [hrb]
    generalize w.alloc (.cells #[.string ⟨#[]⟩, .string ⟨#[]⟩, .slice none 0 0] 24) = w1 at *
    have z0 := cellRow HZ1.out 0 (.string ⟨#[]⟩) rfl
    have z1 := cellRow HZ1.out 1 (.string ⟨#[]⟩) rfl
    have z2 := cellRow HZ1.out 2 (.slice none 0 0) rfl
    have fz := fun j => frozenRow HZ1.out j
    go_wp2_with fail
    have hz := st3_heap HZ1.out (.string ⟨#[]⟩) (.string ⟨#[]⟩) (.slice none 0 0)
    have huz := st3_upd' w1 rb (.string ⟨#[]⟩) (.string ⟨#[]⟩) (.slice none 0 0)
    have e0 := cellRow hz 0 _ rfl
    have e1 := cellRow hz 1 _ rfl
    have e2 := cellRow hz 2 _ rfl
    refine bodyPost_ret (v := .tuple #[.agg #[.string ⟨#[]⟩, .string ⟨#[]⟩, .slice none 0 0], .int .i64 ((i : Int)), .bool false]) (by simp [results, Tryz.results78, go_sem, e0, e1, e2]) rfl ?_
    rw [HV.out]
    exact ⟨rfl, HE1.out.trans' huz (fun j hj e => by omega)⟩
  have hk1i : ((tq l i).kind : Int) = 1 := by omega
  rw [hk1i] at q0
  have hi1 := HEN.out.next hi (by show ¬ (tq l i).kind = 5; omega)
  obtain ⟨nm, hnm⟩ : ∃ nm, (tq l i).text = nm := ⟨_, rfl⟩
  rw [hnm] at q1
  have HNM : Hid ((tk l i).text = nm) := Lib.hid hnm
  have HK1 : Hid ((tk l i).kind = 1) := Lib.hid hk1
  have HE2 := Lib.hid (HE1.out.alloc (.cells #[.string nm, .string ⟨#[]⟩, .slice none 0 0] 24))
  have HZ2 := Lib.hid (allocOld HZ1.out (.cells #[.string nm, .string ⟨#[]⟩, .slice none 0 0] 24))
  have HT2 := Lib.hid (alloc_at (w.alloc (.cells #[.string ⟨#[]⟩, .string ⟨#[]⟩, .slice none 0 0] 24)) (.cells #[.string nm, .string ⟨#[]⟩, .slice none 0 0] 24) (n := rb + 1) (by rw [hz1, hrb]))
  have hz2 := alloc_size (w.alloc (.cells #[.string ⟨#[]⟩, .string ⟨#[]⟩, .slice none 0 0] 24)) (.cells #[.string nm, .string ⟨#[]⟩, .slice none 0 0] 24)
  have hzz : (w.alloc (.cells #[.string ⟨#[]⟩, .string ⟨#[]⟩, .slice none 0 0] 24)).heap.size = rb + 1 := by rw [hz1, hrb]
  have hW2 : ((w.alloc (.cells #[.string ⟨#[]⟩, .string ⟨#[]⟩, .slice none 0 0] 24)).alloc (.cells #[.string nm, .string ⟨#[]⟩, .slice none 0 0] 24)).heap.size = rb + 2 := by omega
  clear hnm hk1i hk1
  go_upto_region 5 with fail
  try rw [hrb]
  try rw [hzz]
  obtain ⟨tb, htb⟩ : ∃ tb, rb + 1 = tb := ⟨_, rfl⟩
  rw [htb] at HT2
  try rw [htb]
  clear hz2 hzz hz1 q0 q1 q2 q3 q4
  generalize ((w.alloc (.cells #[.string ⟨#[]⟩, .string ⟨#[]⟩, .slice none 0 0] 24)).alloc (.cells #[.string nm, .string ⟨#[]⟩, .slice none 0 0] 24)) = w2 at *
  obtain ⟨i2, hi2⟩ : ∃ q, i + 1 = q := ⟨_, rfl⟩
  have hci2 : (i : Int) + 1 = (i2 : Int) := by omega
  have hwi2 : IntKind.i64.wrap ((i : Int) + 1) = (i : Int) + 1 := IntWalk.i64_in _ (by omega)
  rw [hi2] at hi1
  clear i0 i1'
  have i0 : (0 : Int) ≤ (i2 : Int) := by omega
  have i1' : (i2 : Int) < (l.length : Int) := by omega
  obtain ⟨q0, q1, q2, q3, q4⟩ := HC.out w2 HE2.out i2 hi1
  try rw [hci2]
  go_wp2_with fail
  refine (HIS.out i2 sCl w2 HK.out.1).mono ?_
  rintro e w3 ⟨rfl, h3⟩
  have HE3 := Lib.hid (HE2.out.trans h3)
  have HZ3 := Lib.hid (h3.heap HZ2.out (fun h => h))
  have HT3 := Lib.hid (h3.heap HT2.out (fun h => h))
  have hs3 := h3.size
  clear h3 q0 q1 q2 q3 q4 HZ2 HT2
  obtain ⟨c, hc⟩ : ∃ c, isB (tq l i2) sCl = c := ⟨_, rfl⟩
  rw [hc]
  have HCC : Hid (isB (tk l i2) sCl = c) := Lib.hid hc
  clear hc
  cases c
  case true =>
    have hi3 := HEN.out.isB hi1 HCC.out
    have HQ2 : Hid (Q = if (tk l (i2 + 1)).kind ≠ 1 then .bad (i2 + 1) else .ok (.mk nm (tk l (i2 + 1)).text []) (i2 + 2)) := Lib.hid (by
      have h9 := pT_var (n := n) HK1.out (by rw [hi2]; exact HCC.out)
      rw [← HQ.out, h9, HNM.out, show i + 2 = i2 + 1 by omega, show i + 3 = i2 + 2 by omega])
    obtain ⟨i3, hi3⟩ : ∃ q, i2 + 1 = q := ⟨_, rfl⟩
    have hci3 : (i2 : Int) + 1 = (i3 : Int) := by omega
    have hwi3 : IntKind.i64.wrap ((i2 : Int) + 1) = (i2 : Int) + 1 := IntWalk.i64_in _ (by omega)
    rw [hi3] at HQ2
    have hi3 : i3 < l.length := by omega
    clear i0 i1'
    have i0 : (0 : Int) ≤ (i3 : Int) := by omega
    have i1' : (i3 : Int) < (l.length : Int) := by omega
    obtain ⟨q0, q1, q2, q3, q4⟩ := HC.out w3 HE3.out i3 hi3
    by_cases hk3 : (tq l i3).kind = 1
    case neg =>
      have HV : Hid (Q = .bad i3) := Lib.hid (by rw [HQ2.out, if_pos (show (tk l i3).kind ≠ 1 from hk3)])
      have t1 : (((tq l i3).kind : Int) == 1) = false := beq_eq_false_iff_ne.2 (by omega)
      have t2 : (((tq l i3).kind : Int) != 1) = true := bne_iff_ne.2 (by omega)
      go_upto_region 7 with fail
      try rw [hci3]
      have z0 := cellRow HZ3.out 0 (.string ⟨#[]⟩) rfl
      have z1 := cellRow HZ3.out 1 (.string ⟨#[]⟩) rfl
      have z2 := cellRow HZ3.out 2 (.slice none 0 0) rfl
      have fz := fun j => frozenRow HZ3.out j
      go_wp2_with fail
      have hz := st3_heap HZ3.out (.string ⟨#[]⟩) (.string ⟨#[]⟩) (.slice none 0 0)
      have huz := st3_upd' w3 rb (.string ⟨#[]⟩) (.string ⟨#[]⟩) (.slice none 0 0)
      have e0 := cellRow hz 0 _ rfl
      have e1 := cellRow hz 1 _ rfl
      have e2 := cellRow hz 2 _ rfl
      refine bodyPost_ret (v := .tuple #[.agg #[.string ⟨#[]⟩, .string ⟨#[]⟩, .slice none 0 0], .int .i64 ((i3 : Int)), .bool false]) (by simp [results, Tryz.results78, go_sem, e0, e1, e2]) rfl ?_
      rw [HV.out]
      exact ⟨rfl, HE3.out.trans' huz (fun j hj e => by omega)⟩
    have HV : Hid (Q = .ok (.mk nm (tq l i3).text []) (i2 + 2)) := Lib.hid (by rw [HQ2.out, if_neg (show ¬ (tk l i3).kind ≠ 1 from fun h => h hk3)]; rfl)
    have hk3i : ((tq l i3).kind : Int) = 1 := by omega
    rw [hk3i] at q0
    obtain ⟨so, hso⟩ : ∃ so, (tq l i3).text = so := ⟨_, rfl⟩
    rw [hso] at q1 HV
    have hci4 : (i3 : Int) + 1 = ((i2 + 2 : Nat) : Int) := by omega
    have hwi4 : IntKind.i64.wrap ((i3 : Int) + 1) = (i3 : Int) + 1 := IntWalk.i64_in _ (by omega)
    have t1 := cellRow HT3.out 1 (.string ⟨#[]⟩) rfl
    have ft := fun j => frozenRow HT3.out j
    clear hk3 hk3i hso HQ2
    go_upto_region 7 with fail
    try rw [hci3]
    go_upto_region 10 with fail
    have hbt := setBlock HT3.out 1 (.string so)
    have hut := (Upd.refl (fun k => k = tb) w3).setCell (p := ⟨tb, 1, none⟩) (.inl rfl) (.string so)
    have HT4 : Hid ((w3.setCell ⟨tb, 1, none⟩ (.string so)).heap[tb]? = some (.cells #[.string nm, .string so, .slice none 0 0] 24 (0, 0))) := Lib.hid (by simpa using hbt)
    have HZ4 := Lib.hid (hut.heap HZ3.out (by omega))
    have HE4 := Lib.hid (HE3.out.trans' hut (fun j hj e => by omega))
    clear hbt hut t1 ft q0 q1 q2 q3 q4
    generalize w3.setCell ⟨tb, 1, none⟩ (.string so) = w4 at *
    have t0 := cellRow HT4.out 0 (.string nm) rfl
    have t1 := cellRow HT4.out 1 (.string so) rfl
    have t2 := cellRow HT4.out 2 (.slice none 0 0) rfl
    have z0 := cellRow HZ4.out 0 (.string ⟨#[]⟩) rfl
    have z1 := cellRow HZ4.out 1 (.string ⟨#[]⟩) rfl
    have z2 := cellRow HZ4.out 2 (.slice none 0 0) rfl
    have fz := fun j => frozenRow HZ4.out j
    go_wp2_with fail
    have hz := st3_heap HZ4.out (.string nm) (.string so) (.slice none 0 0)
    have huz := st3_upd' w4 rb (.string nm) (.string so) (.slice none 0 0)
    have e0 := cellRow hz 0 _ rfl
    have e1 := cellRow hz 1 _ rfl
    have e2 := cellRow hz 2 _ rfl
    refine bodyPost_ret (v := .tuple #[.agg #[.string nm, .string so, .slice none 0 0], .int .i64 (((i2 + 2 : Nat) : Int)), .bool true]) (by simp [results, Tryz.results78, go_sem, e0, e1, e2]) rfl ?_
    rw [HV.out]
    exact ⟨.slice none 0 0, fun _ => False, rfl, TlO.nil _ _ _, fun k h => h.elim, HE4.out.trans' huz (fun j hj e => by omega)⟩
  -- an operation
  have HQ2 : Hid (Q = wrapT nm (pP (pT l n) l i2)) := Lib.hid (by
    have h9 := pT_par (n := n) HK1.out (by rw [hi2]; exact HCC.out)
    rw [← HQ.out, h9, HNM.out, hi2])
  obtain ⟨q0, q1, q2, q3, q4⟩ := HC.out w3 HE3.out i2 hi1
  go_wp2_with fail
  refine (HIS.out i2 sLp w3 HK.out.2.1).mono ?_
  rintro e w4 ⟨rfl, h4⟩
  have HE4 := Lib.hid (HE3.out.trans h4)
  have HZ4 := Lib.hid (h4.heap HZ3.out (fun h => h))
  have HT4 := Lib.hid (h4.heap HT3.out (fun h => h))
  have hs4 := h4.size
  clear h4 q0 q1 q2 q3 q4 HZ3 HT3 HCC
  obtain ⟨c, hc⟩ : ∃ c, isB (tq l i2) sLp = c := ⟨_, rfl⟩
  rw [hc]
  have HCC : Hid (isB (tk l i2) sLp = c) := Lib.hid hc
  clear hc
  cases c
  case false =>
    have HV : Hid (Q = .bad i2) := Lib.hid (by rw [HQ2.out, pP, if_neg (by rw [HCC.out]; decide)]; rfl)
    go_upto_region 12 with fail
    have z0 := cellRow HZ4.out 0 (.string ⟨#[]⟩) rfl
    have z1 := cellRow HZ4.out 1 (.string ⟨#[]⟩) rfl
    have z2 := cellRow HZ4.out 2 (.slice none 0 0) rfl
    have fz := fun j => frozenRow HZ4.out j
    go_wp2_with fail
    have hz := st3_heap HZ4.out (.string ⟨#[]⟩) (.string ⟨#[]⟩) (.slice none 0 0)
    have huz := st3_upd' w4 rb (.string ⟨#[]⟩) (.string ⟨#[]⟩) (.slice none 0 0)
    have e0 := cellRow hz 0 _ rfl
    have e1 := cellRow hz 1 _ rfl
    have e2 := cellRow hz 2 _ rfl
    refine bodyPost_ret (v := .tuple #[.agg #[.string ⟨#[]⟩, .string ⟨#[]⟩, .slice none 0 0], .int .i64 ((i2 : Int)), .bool false]) (by simp [results, Tryz.results78, go_sem, e0, e1, e2]) rfl ?_
    rw [HV.out]
    exact ⟨rfl, HE4.out.trans' huz (fun j hj e => by omega)⟩
  have hi3' := HEN.out.isB hi1 HCC.out
  obtain ⟨i3, hi3⟩ : ∃ q, i2 + 1 = q := ⟨_, rfl⟩
  have hci3 : (i2 : Int) + 1 = (i3 : Int) := by omega
  have hwi3 : IntKind.i64.wrap ((i2 : Int) + 1) = (i2 : Int) + 1 := IntWalk.i64_in _ (by omega)
  have HQ3 : Hid (Q = wrapT nm (pL (pT l n) l (l.length - i2) i3 true [])) := Lib.hid (by rw [HQ2.out, pP, if_pos HCC.out, hi3])
  have hi3 : i3 < l.length := by omega
  clear HQ2 HCC i0 i1' hi3'
  have i0 : (0 : Int) ≤ (i3 : Int) := by omega
  have i1' : (i3 : Int) < (l.length : Int) := by omega
  obtain ⟨q0, q1, q2, q3, q4⟩ := HC.out w4 HE4.out i3 hi3
  go_upto_region 14 with fail
  try rw [hci3]
  go_wp2_with fail
  refine (HIS.out i3 sRp w4 HK.out.2.2.1).mono ?_
  rintro e w5 ⟨rfl, h5⟩
  have HE5 := Lib.hid (HE4.out.trans h5)
  have HZ5 := Lib.hid (h5.heap HZ4.out (fun h => h))
  have HT5 := Lib.hid (h5.heap HT4.out (fun h => h))
  have hs5 := h5.size
  clear h5 q0 q1 q2 q3 q4 HZ4 HT4
  obtain ⟨c, hc⟩ : ∃ c, isB (tq l i3) sRp = c := ⟨_, rfl⟩
  rw [hc]
  have HCC : Hid (isB (tk l i3) sRp = c) := Lib.hid hc
  clear hc
  obtain ⟨m0, hm0⟩ : ∃ m0, l.length - i2 = m0 + 1 := ⟨l.length - i2 - 1, by omega⟩
  rw [hm0] at HQ3
  cases c
  case true =>
    have HV : Hid (Q = .ok (.mk nm nul []) (i3 + 1)) := Lib.hid (by rw [HQ3.out, pL, if_pos HCC.out]; rfl)
    obtain ⟨i4, hi4⟩ : ∃ q, i3 + 1 = q := ⟨_, rfl⟩
    have hci4 : (i3 : Int) + 1 = (i4 : Int) := by omega
    have hwi4 : IntKind.i64.wrap ((i3 : Int) + 1) = (i3 : Int) + 1 := IntWalk.i64_in _ (by omega)
    rw [hi4] at HV
    have t0 := cellRow HT5.out 0 (.string nm) rfl
    have t1 := cellRow HT5.out 1 (.string ⟨#[]⟩) rfl
    have t2 := cellRow HT5.out 2 (.slice none 0 0) rfl
    go_upto_region 15 with fail
    have z0 := cellRow HZ5.out 0 (.string ⟨#[]⟩) rfl
    have z1 := cellRow HZ5.out 1 (.string ⟨#[]⟩) rfl
    have z2 := cellRow HZ5.out 2 (.slice none 0 0) rfl
    have fz := fun j => frozenRow HZ5.out j
    go_wp2_with fail
    have hz := st3_heap HZ5.out (.string nm) (.string ⟨#[]⟩) (.slice none 0 0)
    have huz := st3_upd' w5 rb (.string nm) (.string ⟨#[]⟩) (.slice none 0 0)
    have e0 := cellRow hz 0 _ rfl
    have e1 := cellRow hz 1 _ rfl
    have e2 := cellRow hz 2 _ rfl
    refine bodyPost_ret (v := .tuple #[.agg #[.string nm, .string ⟨#[]⟩, .slice none 0 0], .int .i64 ((i4 : Int)), .bool true]) (by simp [results, Tryz.results78, go_sem, e0, e1, e2]) rfl ?_
    rw [HV.out]
    exact ⟨.slice none 0 0, fun _ => False, rfl, TlO.nil _ _ _, fun k h => h.elim, HE5.out.trans' huz (fun j hj e => by omega)⟩
  have HQL0 : Hid (Q = wrapT nm (pLe l n m0 i3 [])) := Lib.hid (by rw [HQ3.out, pL_first HCC.out])
  obtain ⟨QL, hQL⟩ : ∃ QL, pLe l n m0 i3 [] = QL := ⟨_, rfl⟩
  rw [hQL] at HQL0
  have HQE := Lib.hid hQL
  have hmm : l.length - i3 ≤ m0 := by omega
  have HJ0 : Hid (CpJ 24 (rb + 2) w5 [] (.slice none 0 0) [] (fun _ _ => False) 0) := Lib.hid ⟨rfl, ⟨rfl, .inl ⟨rfl, rfl⟩⟩, fun i hi => absurd hi (Nat.not_lt_zero _), fun i j hi => absurd hi (Nat.not_lt_zero _), fun i i' j hi => absurd hi (Nat.not_lt_zero _)⟩
  have HS5 : Hid (rb + 2 ≤ w5.heap.size) := Lib.hid (by omega)
  clear hQL HQ3 HCC hm0 HQ
  go_wp2_with fail
  clear i0 i1'
  go_loopg [1] (l.length - i3) (fun gk at_ wr => ∃ (m j : Nat) (xs : List Tm) (lv : Value) (us : List Value) (Bk : Nat → Nat → Prop), at_ = .int .i64 (j : Int) ∧ gk = l.length - j ∧ j < l.length ∧ i < j ∧ l.length - j ≤ m ∧ xs.length ≤ j ∧ Hid (pLe l n m j xs = QL) ∧ Hid (CpJ 24 (rb + 2) wr xs lv us Bk xs.length) ∧ Hid (wr.heap[tb]? = some (.cells #[.string nm, .string ⟨#[]⟩, lv] 24 (0, 0))) ∧ Hid (wr.heap[rb]? = some (.cells #[.string ⟨#[]⟩, .string ⟨#[]⟩, .slice none 0 0] 24 (0, 0))) ∧ Hid (Ext w wr) ∧ Hid (rb + 2 ≤ wr.heap.size))
  case atStart => exact ⟨m0, i3, [], _, _, _, rfl, rfl, hi3, by omega, hmm, Nat.zero_le _, HQE, HJ0, HT5, HZ5, HE5, HS5⟩
  case round =>
    clear HQE HJ0 HT5 HZ5 HE5 HS5 hi3 hmm hs3 hs4 hs5 hW2
    obtain ⟨m, j, xs, lv, us, Bk, rfl, rfl, hj, hij, hm, hxl, HQE, HJ, HT, HZ, HE, HS⟩ := hrel
    obtain ⟨a0, c0, hlv⟩ := own_shape HJ.out.own
    subst hlv
    have hs := HS.out
    have HCL := Lib.hid (HIH.out wr HE.out j hj (by omega))
    have hfw := pT_fwd HEN.out n j hj
    have HQE2 := HQE.out
    unfold pLe at HQE2
    obtain ⟨R, hR⟩ : ∃ R, pT l n j = R := ⟨_, rfl⟩
    rw [hR] at HCL hfw HQE2
    have HQ3 := Lib.hid HQE2
    clear HQE HQE2 hR
    cases R with
    | bad k =>
      have hql : QL = .bad k := HQ3.out.symm
      have HV : Hid (Q = .bad k) := Lib.hid (by rw [HQL0.out, hql]; rfl)
      clear HQ3 hql hfw
      go_wp2_with fail
      refine HCL.out.mono ?_
      rintro e w6 ⟨rfl, h6⟩
      have HE6 := Lib.hid ((HE.out.trans h6).alloc (.cells #[.string ⟨#[]⟩, .string ⟨#[]⟩, .slice none 0 0] 24))
      have HZ6 := Lib.hid (allocOld (h6.heap HZ.out (fun h => h)) (.cells #[.string ⟨#[]⟩, .string ⟨#[]⟩, .slice none 0 0] 24))
      clear h6 HCL
      go_upto_region 18 with fail
      generalize w6.alloc (.cells #[.string ⟨#[]⟩, .string ⟨#[]⟩, .slice none 0 0] 24) = w7 at *
      have z0 := cellRow HZ6.out 0 (.string ⟨#[]⟩) rfl
      have z1 := cellRow HZ6.out 1 (.string ⟨#[]⟩) rfl
      have z2 := cellRow HZ6.out 2 (.slice none 0 0) rfl
      have fz := fun j => frozenRow HZ6.out j
      go_wp2_with fail
      have hz := st3_heap HZ6.out (.string ⟨#[]⟩) (.string ⟨#[]⟩) (.slice none 0 0)
      have huz := st3_upd' w7 rb (.string ⟨#[]⟩) (.string ⟨#[]⟩) (.slice none 0 0)
      have e0 := cellRow hz 0 _ rfl
      have e1 := cellRow hz 1 _ rfl
      have e2 := cellRow hz 2 _ rfl
      refine bodyPost_ret (v := .tuple #[.agg #[.string ⟨#[]⟩, .string ⟨#[]⟩, .slice none 0 0], .int .i64 ((k : Int)), .bool false]) (by simp [results, Tryz.results78, go_sem, e0, e1, e2]) rfl ?_
      rw [HV.out]
      exact ⟨rfl, HE6.out.trans' huz (fun j hj e => by omega)⟩
    | ok x k =>
      have HQ4 : Hid (pL (pT l n) l m k false (xs ++ [x]) = QL) := HQ3
      have hkl : k < l.length := hfw.2.1
      have hjk : j < k := hfw.2.2 x k rfl
      clear HQ3 hfw
      go_wp2_with fail
      refine HCL.out.mono ?_
      rintro e w6 ⟨u, Bx, rfl, hTx, hBx, h6⟩
      obtain ⟨ya, yc, hy⟩ := TlO.shape hTx
      subst hy
      have HTX := Lib.hid hTx
      have HBX := Lib.hid hBx
      have H6 := Lib.hid h6
      have hs6 := h6.size
      have HT6 := Lib.hid (allocOld (h6.heap HT.out (fun h => h)) (.cells #[.string x.name, .string x.sort, .slice ya x.kids.length yc] 24))
      have HO6 := Lib.hid ((own_kept HJ.out.own h6 (fun _ _ h => h)).alloc (.cells #[.string x.name, .string x.sort, .slice ya x.kids.length yc] 24))
      have HX6 := Lib.hid (alloc0 w6 (.cells #[.string x.name, .string x.sort, .slice ya x.kids.length yc] 24))
      have HA6 := Lib.hid ((Upd.refl (fun _ => False) w6).alloc (.cells #[.string x.name, .string x.sort, .slice ya x.kids.length yc] 24))
      have hsa : w6.heap.size + 1 ≤ (w6.alloc (.cells #[.string x.name, .string x.sort, .slice ya x.kids.length yc] 24)).heap.size := Nat.le_of_eq (alloc_size w6 (.cells #[.string x.name, .string x.sort, .slice ya x.kids.length yc] 24)).symm
      obtain ⟨iT, hi, hz0, hz1, hz2⟩ := info_parts infoT
      clear hTx hBx h6 HCL
      dsimp only [tV]
      go_upto_region 17 with fail
      obtain ⟨xb, hxb⟩ : ∃ xb, w6.heap.size = xb := ⟨_, rfl⟩
      rw [hxb] at HX6
      try rw [hxb]
      generalize w6.alloc (.cells #[.string x.name, .string x.sort, .slice ya x.kids.length yc] 24) = w7 at *
      have x0 := cellRow HX6.out 0 (.string x.name) rfl
      have x1 := cellRow HX6.out 1 (.string x.sort) rfl
      have x2 := cellRow HX6.out 2 (.slice ya x.kids.length yc) rfl
      have t2 := cellRow HT6.out 2 (.slice a0 xs.length c0) rfl
      have HO7 := Lib.hid (HO6.out.alloc (.cells #[.string x.name, .string x.sort, .slice ya x.kids.length yc] 24))
      have hsb := alloc_size w7 (.cells #[.string x.name, .string x.sort, .slice ya x.kids.length yc] 24)
      go_wp2_with (at_builtin; refine wpList_append_at _ rfl (.tmp 81) (.tmp 83) 22 rfl (rb + 2) 24 iT (.agg #[.string ⟨#[]⟩, .string ⟨#[]⟩, .slice none 0 0]) 3 56 Tryz.underlying22 hi hz0 hz1 hz2 rfl (by decide) _ _ _ rfl HO7.out ⟨w7.heap.size, 0, none⟩ 1 1 [.string x.name, .string x.sort, .slice ya x.kids.length yc] rfl rfl ?c1 ?c2 ?c3 ?c4 ?c5 ?_)
      try (case c1 => exact new3 w7 (.string x.name) (.string x.sort) (.slice ya x.kids.length yc) 24)
      try (case c2 => exact one3 _ _ _ _ _)
      case c3 => unfold maxLen; omega
      case c4 => omega
      case c5 => omega
      intro lv' w8 hG
      obtain ⟨na, nc, hlv⟩ := own_shape hG.own
      subst hlv
      have HG := Lib.hid hG
      have hs8 := hG.upd.size
      have hT8 := hG.upd.heap (allocOld HT6.out (.cells #[.string x.name, .string x.sort, .slice ya x.kids.length yc] 24)) (fun e => by have := (HJ.out.own.lt _ e).1; omega)
      have HT8 := Lib.hid hT8
      clear hG x0 x1 x2 t2
      have t2 := cellRow hT8 2 (.slice a0 xs.length c0) rfl
      have ft := fun j => frozenRow hT8 j
      clear hT8
      go_upto_region 20 with fail
      have hbt := setBlock HT8.out 2 (.slice na (xs.length + 1) nc)
      have hut := (Upd.refl (fun k => k = tb) w8).setCell (p := ⟨tb, 2, none⟩) (.inl rfl) (.slice na (xs.length + 1) nc)
      have HT9 : Hid ((w8.setCell ⟨tb, 2, none⟩ (.slice na (xs.length + 1) nc)).heap[tb]? = some (.cells #[.string nm, .string ⟨#[]⟩, .slice na (xs.length + 1) nc] 24 (0, 0))) := Lib.hid (by simpa using hbt)
      have HUT := Lib.hid hut
      clear hbt hut t2 ft
      generalize w8.setCell ⟨tb, 2, none⟩ (.slice na (xs.length + 1) nc) = w9 at *
      have hs9 := HUT.out.size
      have HU69 : Hid (Upd (fun j => (Value.slice a0 xs.length c0).ownBlock = some j ∨ j = tb) w6 w9) := Lib.hid (((((HA6.out.alloc (.cells #[.string x.name, .string x.sort, .slice ya x.kids.length yc] 24)).mono (fun _ _ h => h.elim)).trans (HG.out.upd.mono (fun _ _ e => .inl e)))).trans (HUT.out.mono (fun _ _ e => .inr e)))
      have HJ9 : Hid (CpJ 24 (rb + 2) w9 (xs ++ [x]) (.slice na (xs.length + 1) nc) (us ++ [.slice ya x.kids.length yc]) (fun i => if i = xs.length then Bx else Bk i) (xs ++ [x]).length) := Lib.hid (HJ.out.snoc hs (Upd.refl _ _) (H6.out.mono (fun _ _ h => h.elim)) HTX.out HBX.out HU69.out (fun j hj => hj.elim .inr (fun e => .inl (by omega))) (fun j hj => by
        rcases HG.out.where_ with h | h
        · rw [h] at hj; exact .inl hj
        · rw [h] at hj; injection hj with hj; exact .inr (by omega)) (own_kept HG.out.own HUT.out (fun j hj e => by have := (HG.out.own.lt j hj).1; omega)))
      have HE9 : Hid (Ext w w9) := Lib.hid ((HE.out.trans H6.out).trans' HU69.out (fun j hj e => by
        rcases e with e | e
        · have := (HJ.out.own.lt j e).1; omega
        · omega))
      have HZ9 := Lib.hid (HU69.out.heap (H6.out.heap HZ.out (fun h => h)) (fun e => by
        rcases e with e | e
        · have := (HJ.out.own.lt _ e).1; omega
        · omega))
      clear HG HT8 HUT HU69 HO7 HX6 HA6 HO6 HT6 HTX HBX H6 HJ HT HZ HE
      have hlen : (xs ++ [x]).length = xs.length + 1 := by simp
      have i0 : (0 : Int) ≤ (k : Int) := by omega
      have i1' : (k : Int) < (l.length : Int) := by omega
      obtain ⟨q0, q1, q2, q3, q4⟩ := HC.out w9 HE9.out k hkl
      go_wp2_with fail
      refine (HIS.out k sRp w9 HK.out.2.2.1).mono ?_
      rintro e wa ⟨rfl, h10⟩
      have HE10 := Lib.hid (HE9.out.trans h10)
      have HZ10 := Lib.hid (h10.heap HZ9.out (fun h => h))
      have HT10 := Lib.hid (h10.heap HT9.out (fun h => h))
      have HX10 := Lib.hid h10
      have hs10 := h10.size
      clear h10 q0 q1 q2 q3 q4
      obtain ⟨m', rfl⟩ : ∃ m', m = m' + 1 := ⟨m - 1, by omega⟩
      obtain ⟨c, hc⟩ : ∃ c, isB (tq l k) sRp = c := ⟨_, rfl⟩
      rw [hc]
      have HCC : Hid (isB (tk l k) sRp = c) := Lib.hid hc
      clear hc
      cases c
      case true =>
        have hql : QL = .ok (xs ++ [x]) (k + 1) := by rw [← HQ4.out, pL, if_pos HCC.out]
        have HV : Hid (Q = .ok (.mk nm nul (xs ++ [x])) (k + 1)) := Lib.hid (by rw [HQL0.out, hql]; rfl)
        obtain ⟨k2, hk2⟩ : ∃ q, k + 1 = q := ⟨_, rfl⟩
        have hck2 : (k : Int) + 1 = (k2 : Int) := by omega
        have hwk2 : IntKind.i64.wrap ((k : Int) + 1) = (k : Int) + 1 := IntWalk.i64_in _ (by omega)
        rw [hk2] at HV
        have t0 := cellRow HT10.out 0 (.string nm) rfl
        have t1 := cellRow HT10.out 1 (.string ⟨#[]⟩) rfl
        have t2 := cellRow HT10.out 2 (.slice na (xs.length + 1) nc) rfl
        clear hql
        go_upto_region 22 with fail
        have z0 := cellRow HZ10.out 0 (.string ⟨#[]⟩) rfl
        have z1 := cellRow HZ10.out 1 (.string ⟨#[]⟩) rfl
        have z2 := cellRow HZ10.out 2 (.slice none 0 0) rfl
        have fz := fun j => frozenRow HZ10.out j
        go_wp2_with fail
        have hz := st3_heap HZ10.out (.string nm) (.string ⟨#[]⟩) (.slice na (xs.length + 1) nc)
        have huz := st3_upd' wa rb (.string nm) (.string ⟨#[]⟩) (.slice na (xs.length + 1) nc)
        have e0 := cellRow hz 0 _ rfl
        have e1 := cellRow hz 1 _ rfl
        have e2 := cellRow hz 2 _ rfl
        refine bodyPost_ret (v := .tuple #[.agg #[.string nm, .string ⟨#[]⟩, .slice na (xs.length + 1) nc], .int .i64 ((k2 : Int)), .bool true]) (by simp [results, Tryz.results78, go_sem, e0, e1, e2]) rfl ?_
        rw [HV.out]
        have hfin := (TlO.kept HJ9.out.fin HX10.out (fun _ _ h => h)).kept huz (fun j hj e => by have := hj.1; omega)
        have hsz := huz.size
        exact ⟨.slice na (xs.length + 1) nc, _, rfl, hfin, fun j hj => ⟨by have := hj.1; omega, by have := hj.2; omega⟩, HE10.out.trans' huz (fun j hj e => by omega)⟩
      have HJ10 : Hid (CpJ 24 (rb + 2) wa (xs ++ [x]) (.slice na (xs.length + 1) nc) (us ++ [.slice ya x.kids.length yc]) (fun i => if i = xs.length then Bx else Bk i) (xs ++ [x]).length) := Lib.hid (HJ9.out.keep HX10.out (fun _ _ h => h))
      obtain ⟨q0, q1, q2, q3, q4⟩ := HC.out wa HE10.out k hkl
      go_wp2_with fail
      refine (HIS.out k sCm wa HK.out.2.2.2.1).mono ?_
      rintro e wb ⟨rfl, h11⟩
      have HE11 := Lib.hid (HE10.out.trans h11)
      have HZ11 := Lib.hid (h11.heap HZ10.out (fun h => h))
      have HT11 := Lib.hid (h11.heap HT10.out (fun h => h))
      have HX11 := Lib.hid h11
      have hs11 := h11.size
      clear h11 q0 q1 q2 q3 q4
      obtain ⟨c, hc⟩ : ∃ c, isB (tq l k) sCm = c := ⟨_, rfl⟩
      rw [hc]
      have HCM : Hid (isB (tk l k) sCm = c) := Lib.hid hc
      clear hc
      cases c
      case false =>
        have hql : QL = .bad k := by rw [← HQ4.out, pL, if_neg (by rw [HCC.out]; decide), if_pos ⟨rfl, HCM.out⟩]
        have HV : Hid (Q = .bad k) := Lib.hid (by rw [HQL0.out, hql]; rfl)
        clear hql
        go_upto_region 24 with fail
        have z0 := cellRow HZ11.out 0 (.string ⟨#[]⟩) rfl
        have z1 := cellRow HZ11.out 1 (.string ⟨#[]⟩) rfl
        have z2 := cellRow HZ11.out 2 (.slice none 0 0) rfl
        have fz := fun j => frozenRow HZ11.out j
        go_wp2_with fail
        have hz := st3_heap HZ11.out (.string ⟨#[]⟩) (.string ⟨#[]⟩) (.slice none 0 0)
        have huz := st3_upd' wb rb (.string ⟨#[]⟩) (.string ⟨#[]⟩) (.slice none 0 0)
        have e0 := cellRow hz 0 _ rfl
        have e1 := cellRow hz 1 _ rfl
        have e2 := cellRow hz 2 _ rfl
        refine bodyPost_ret (v := .tuple #[.agg #[.string ⟨#[]⟩, .string ⟨#[]⟩, .slice none 0 0], .int .i64 ((k : Int)), .bool false]) (by simp [results, Tryz.results78, go_sem, e0, e1, e2]) rfl ?_
        rw [HV.out]
        exact ⟨rfl, HE11.out.trans' huz (fun j hj e => by omega)⟩
      have hk3 := HEN.out.isB hkl HCM.out
      have HQ5 : Hid (pLe l n m' (k + 1) (xs ++ [x]) = QL) := Lib.hid (by rw [← HQ4.out, pL_next HCC.out HCM.out])
      have hwk : IntKind.i64.wrap ((k : Int) + 1) = (k : Int) + 1 := IntWalk.i64_in _ (by omega)
      have HJ11 : Hid (CpJ 24 (rb + 2) wb (xs ++ [x]) (.slice na (xs.length + 1) nc) (us ++ [.slice ya x.kids.length yc]) (fun i => if i = xs.length then Bx else Bk i) (xs ++ [x]).length) := Lib.hid (HJ10.out.keep HX11.out (fun _ _ h => h))
      go_wp2_with fail
      go_roundg (l.length - (k + 1))
      case measure => omega
      case rel => exact ⟨m', k + 1, xs ++ [x], _, _, _, by go_num, rfl, hk3, by omega, by omega, by omega, HQ5, HJ11, HT11, HZ11, HE11, Lib.hid (by omega)⟩

end Go.Proofs.YtjjaknmnhhfjeaaGreatDoor

/- Parse of the reference. -/
namespace Go.Proofs.YtjjaknmnhhfjeaaGreatDoor
open Go.RowKit Go.Hw Go Go.Sort Go.Proofs Go.ChangeMaps
set_option linter.unusedVariables false
set_option linter.unusedSimpArgs false

open Tm
set_option maxRecDepth 100000 in
set_option maxHeartbeats 8000000 in
theorem rparse_e1 (s : By) (R : Tm × (Int × Int) × Int) (ln cl er : Int) (w : World) (hR : R = (nulT, (ln, cl), er)) (her : er ≠ 0) (ht : ∀ W, Ext w W → Calls Tryz.prog 65 #[.string s] W fun e W' => e = .returned (.tuple #[.slice none 0 0, .agg #[.int .i64 ln, .int .i64 cl], .int .i64 er]) ∧ Ext W W') :
    Calls Tryz.prog 26 #[.string s] w fun e w' => ∃ u, e = .returned (.tuple #[tV R.1 u, .agg #[.int .i64 R.2.1.1, .int .i64 R.2.1.2], .int .i64 R.2.2]) ∧ TlR (fun k => w.heap.size ≤ k ∧ k < w'.heap.size) w' R.1.kids u ∧ Ext w w' := by
  have HV := Lib.hid hR
  have t1 : (er == 0) = false := beq_eq_false_iff_ne.2 her
  have t2 : (er != 0) = true := bne_iff_ne.2 her
  have HE0 := Lib.hid (((Upd.refl (fun _ => False) w).alloc (.cells #[.string ⟨#[]⟩, .string ⟨#[]⟩, .slice none 0 0] 24)).alloc (.cells #[.int .i64 0, .int .i64 0] 45))
  have HZ0 := Lib.hid (allocOld (alloc0 w (.cells #[.string ⟨#[]⟩, .string ⟨#[]⟩, .slice none 0 0] 24)) (.cells #[.int .i64 0, .int .i64 0] 45))
  have HQ0 := Lib.hid (alloc_at (w.alloc (.cells #[.string ⟨#[]⟩, .string ⟨#[]⟩, .slice none 0 0] 24)) (.cells #[.int .i64 0, .int .i64 0] 45) (n := w.heap.size + 1) (by simp))
  have hs0 : ((w.alloc (.cells #[.string ⟨#[]⟩, .string ⟨#[]⟩, .slice none 0 0] 24)).alloc (.cells #[.int .i64 0, .int .i64 0] 45)).heap.size = w.heap.size + 2 := by simp
  obtain ⟨b0, hb0⟩ : ∃ x, w.heap.size = x := ⟨_, rfl⟩
  rw [hb0] at HZ0 HQ0
  have HTO := Lib.hid (ht ((w.alloc (.cells #[.string ⟨#[]⟩, .string ⟨#[]⟩, .slice none 0 0] 24)).alloc (.cells #[.int .i64 0, .int .i64 0] 45)) HE0.out)
  clear ht her hR
  go_enter Tryz.func26, Tryz.ntmps26
  go_wp2_with fail
  try rw [hb0]
  generalize ((w.alloc (.cells #[.string ⟨#[]⟩, .string ⟨#[]⟩, .slice none 0 0] 24)).alloc (.cells #[.int .i64 0, .int .i64 0] 45)) = w1 at *
  refine HTO.out.mono ?_
  rintro e w2 ⟨rfl, hw2⟩
  have HA3 := Lib.hid (alloc0 w2 (.cells #[.int .i64 ln, .int .i64 cl] 45))
  have HE3 := Lib.hid ((HE0.out.trans hw2).alloc (.cells #[.int .i64 ln, .int .i64 cl] 45))
  have HZ3 := Lib.hid (allocOld (hw2.heap HZ0.out (fun h => h)) (.cells #[.int .i64 ln, .int .i64 cl] 45))
  have HQ3 := Lib.hid (allocOld (hw2.heap HQ0.out (fun h => h)) (.cells #[.int .i64 ln, .int .i64 cl] 45))
  have hs2 := hw2.size
  have hs3 := alloc_size w2 (.cells #[.int .i64 ln, .int .i64 cl] 45)
  clear hw2 HTO
  go_upto_region 3 with fail
  obtain ⟨ab, hab⟩ : ∃ x, w2.heap.size = x := ⟨_, rfl⟩
  rw [hab] at HA3
  try rw [hab]
  generalize w2.alloc (.cells #[.int .i64 ln, .int .i64 cl] 45) = w3 at *
  have z0 := cellRow HZ3.out 0 (.string ⟨#[]⟩) rfl
  have z1 := cellRow HZ3.out 1 (.string ⟨#[]⟩) rfl
  have z2 := cellRow HZ3.out 2 (.slice none 0 0) rfl
  have p0 := cellRow HQ3.out 0 (.int .i64 0) rfl
  have p1 := cellRow HQ3.out 1 (.int .i64 0) rfl
  have a0 := cellRow HA3.out 0 (.int .i64 ln) rfl
  have a1 := cellRow HA3.out 1 (.int .i64 cl) rfl
  have fz := fun j => frozenRow HZ3.out j
  have fp := fun j => frozenRow HQ3.out j
  go_region
  go_wp2_with fail
  have hz := st3_heap HZ3.out (.string ⟨#[]⟩) (.string ⟨#[]⟩) (.slice none 0 0)
  have huz := st3_upd' w3 b0 (.string ⟨#[]⟩) (.string ⟨#[]⟩) (.slice none 0 0)
  have hq := st2_heap (huz.heap HQ3.out (by omega)) (.int .i64 (ln)) (.int .i64 (cl))
  have huq := st2_upd (((((w3).setCell ⟨b0, 0, none⟩ (.string ⟨#[]⟩)).setCell ⟨b0, 1, none⟩ (.string ⟨#[]⟩)).setCell ⟨b0, 2, none⟩ (.slice none 0 0))) (b0 + 1) (.int .i64 (ln)) (.int .i64 (cl))
  have hz2 := huq.heap hz (by omega)
  have e0 := cellRow hz2 0 _ rfl
  have e1 := cellRow hz2 1 _ rfl
  have e2 := cellRow hz2 2 _ rfl
  have e3 := cellRow hq 0 _ rfl
  have e4 := cellRow hq 1 _ rfl
  refine bodyPost_ret (v := .tuple #[.agg #[.string ⟨#[]⟩, .string ⟨#[]⟩, .slice none 0 0], .agg #[.int .i64 (ln), .int .i64 (cl)], .int .i64 (er)]) (by simp [results, Tryz.results26, go_sem, e0, e1, e2, e3, e4]) rfl ?_
  rw [HV.out]
  exact ⟨.slice none 0 0, rfl, .mk [] [] _ rfl (SlR.nil _ _ _) (fun i hi => absurd hi (Nat.not_lt_zero _)), ((HE3.out.trans' huz (fun k hk e => by omega)).trans' huq (fun k hk e => by omega)).drew⟩
set_option maxRecDepth 100000 in
set_option maxHeartbeats 8000000 in
theorem rparse_x (s : By) (w : World) (hs : s.size ≤ 1000000) (R : Tm × (Int × Int) × Int) (hR : psF s = R) :
    Calls Tryz.prog 26 #[.string s] w fun e w' => ∃ u, e = .returned (.tuple #[tV R.1 u, .agg #[.int .i64 R.2.1.1, .int .i64 R.2.1.2], .int .i64 R.2.2]) ∧ TlR (fun k => w.heap.size ≤ k ∧ k < w'.heap.size) w' R.1.kids u ∧ Ext w w' := by
  have HTT : ∀ W, Ext w W → Calls Tryz.prog 65 #[.string s] W fun e W' => TokP (W.heap.size + 2) W' e (tokF (wdF iR) s) ∧ Ext W W' := fun W hW => rtokens_x s W hs _ rfl
  unfold psF at hR
  cases h1 : tokF (wdF iR) s with
  | full => rw [h1] at hR HTT; exact rparse_e1 s R 0 0 4 w hR.symm (by decide) HTT
  | bad ln cl => rw [h1] at hR HTT; exact rparse_e1 s R ln cl 7 w hR.symm (by decide) HTT
  | ok l =>
  rw [h1] at hR HTT
  dsimp only at hR
  obtain ⟨hen, hll⟩ := tok_ended h1
  have hl0 := hen.pos
  have hjl := (pT_fwd hen l.length 0 hl0).2.1
  have HEN := Lib.hid hen
  have HOK := Lib.hid (tok_ok h1)
  have HE0 := Lib.hid (((Upd.refl (fun _ => False) w).alloc (.cells #[.string ⟨#[]⟩, .string ⟨#[]⟩, .slice none 0 0] 24)).alloc (.cells #[.int .i64 0, .int .i64 0] 45))
  have HZ0 := Lib.hid (allocOld (alloc0 w (.cells #[.string ⟨#[]⟩, .string ⟨#[]⟩, .slice none 0 0] 24)) (.cells #[.int .i64 0, .int .i64 0] 45))
  have HQ0 := Lib.hid (alloc_at (w.alloc (.cells #[.string ⟨#[]⟩, .string ⟨#[]⟩, .slice none 0 0] 24)) (.cells #[.int .i64 0, .int .i64 0] 45) (n := w.heap.size + 1) (by simp))
  have hs0 : ((w.alloc (.cells #[.string ⟨#[]⟩, .string ⟨#[]⟩, .slice none 0 0] 24)).alloc (.cells #[.int .i64 0, .int .i64 0] 45)).heap.size = w.heap.size + 2 := by simp
  obtain ⟨b0, hb0⟩ : ∃ x, w.heap.size = x := ⟨_, rfl⟩
  rw [hb0] at HZ0 HQ0
  have HTO := Lib.hid (HTT ((w.alloc (.cells #[.string ⟨#[]⟩, .string ⟨#[]⟩, .slice none 0 0] 24)).alloc (.cells #[.int .i64 0, .int .i64 0] 45)) HE0.out)
  have HRR := Lib.hid hR
  clear HTT hen h1 hR
  go_enter Tryz.func26, Tryz.ntmps26
  go_wp2_with fail
  try rw [hb0]
  generalize ((w.alloc (.cells #[.string ⟨#[]⟩, .string ⟨#[]⟩, .slice none 0 0] 24)).alloc (.cells #[.int .i64 0, .int .i64 0] 45)) = w1 at *
  refine HTO.out.mono ?_
  rintro e w2 ⟨⟨v, rfl, hTk⟩, hw2⟩
  obtain ⟨la, lc, hv⟩ := SlR.shape hTk
  subst hv
  have hw2' := hw2.alloc (.cells #[.int .i64 0, .int .i64 0] 45)
  have hs2 := hw2.size
  have HTK := Lib.hid (hTk.ext ((Upd.refl (fun _ => False) w2).alloc (.cells #[.int .i64 0, .int .i64 0] 45)))
  have HE3 := Lib.hid (HE0.out.trans hw2')
  have HZ3 := Lib.hid (hw2'.heap HZ0.out (fun h => h))
  have HQ3 := Lib.hid (hw2'.heap HQ0.out (fun h => h))
  have hs3 := hw2'.size
  have hs3' : w2.heap.size ≤ (w2.alloc (.cells #[.int .i64 0, .int .i64 0] 45)).heap.size := by rw [alloc_size]; omega
  clear hw2 hw2' hTk HTO
  go_upto_region 4 with fail
  generalize w2.alloc (.cells #[.int .i64 0, .int .i64 0] 45) = w3 at *
  have HPD := Lib.hid (parsed_x la lc (fun k => w1.heap.size + 2 ≤ k ∧ k < w2.heap.size) l HEN.out HOK.out (by omega) l.length 0 w3 HTK.out (fun k hk => by omega) hl0 (by omega))
  have HSZ : Hid (∀ t j, pT l l.length 0 = .ok t j → t.size + 0 ≤ j) := Lib.hid (fun t j h => pT_size _ _ _ _ h)
  obtain ⟨gg, off, hga, hSg, hat⟩ := (TkR.at_ HTK.out hl0).2
  subst hga
  have hgb : ¬ gg = b0 := by omega
  have HAT : Hid (∀ W, Ext w3 W → ∀ j, j < l.length → W.cell? ⟨gg, off + j * 5, none⟩ = some (.int .i64 ((tk l j).kind : Int)) ∧ W.cell? ⟨gg, off + j * 5 + 1, none⟩ = some (.string (tk l j).text) ∧ W.cell? ⟨gg, off + j * 5 + 2, none⟩ = some (.int .i64 (tk l j).n) ∧ W.cell? ⟨gg, off + j * 5 + 3, none⟩ = some (.int .i64 (tk l j).line) ∧ W.cell? ⟨gg, off + j * 5 + 4, none⟩ = some (.int .i64 (tk l j).col)) := Lib.hid (fun W hW j hj => by
    obtain ⟨q0, q1, q2, q3, q4⟩ := hat j hj
    exact ⟨hW.cell q0 (fun h => h), hW.cell q1 (fun h => h), hW.cell q2 (fun h => h), hW.cell q3 (fun h => h), hW.cell q4 (fun h => h)⟩)
  clear hat hSg HTK HEN HOK
  generalize pT l l.length 0 = Q at *
  cases Q with
  | bad j =>
    have hjl : j < l.length := hjl
    have hv := HRR.out
    dsimp only at hv
    clear HSZ
    go_wp2_with fail
    refine HPD.out.mono ?_
    rintro e w4 ⟨rfl, h4⟩
    have h5 := h4.alloc (.cells #[.string ⟨#[]⟩, .string ⟨#[]⟩, .slice none 0 0] 24)
    have HZ := Lib.hid (h5.heap HZ3.out (fun h => h))
    have HP := Lib.hid (h5.heap HQ3.out (fun h => h))
    have HE := Lib.hid (HE3.out.trans h5)
    have H5 := Lib.hid h5
    have hs5 := h5.size
    clear h4 h5 HPD
    go_upto_region 6 with fail
    generalize w4.alloc (.cells #[.string ⟨#[]⟩, .string ⟨#[]⟩, .slice none 0 0] 24) = w5 at *
    obtain ⟨q0, q1, q2, q3, q4⟩ := HAT.out w5 H5.out j hjl
    obtain ⟨⟨kd, tx, tn, tl, tc⟩, ht⟩ : ∃ t, tk l j = t := ⟨_, rfl⟩
    rw [ht] at q0 q1 q2 q3 q4 hv
    dsimp only at q0 q1 q2 q3 q4 hv
    obtain ⟨er, her⟩ : ∃ er : Int, (if kd = 5 then (8 : Int) else 7) = er := ⟨_, rfl⟩
    have HER := Lib.hid her
    rw [her] at hv
    have HV : Hid (R = (nulT, (tl, tc), er)) := Lib.hid hv.symm
    have j0 : (0 : Int) ≤ (j : Int) := by omega
    have j1 : (j : Int) < (l.length : Int) := by omega
    clear ht hv her HRR
    have X0 : ∀ x : XF (fun k => k = b0) w5, x.val.cell? ⟨gg, off + j * 5, none⟩ = some (.int .i64 (kd : Int)) := fun x => x.upd.cell q0 hgb
    have X1 : ∀ x : XF (fun k => k = b0) w5, x.val.cell? ⟨gg, off + j * 5 + 1, none⟩ = some (.string tx) := fun x => x.upd.cell q1 hgb
    have X2 : ∀ x : XF (fun k => k = b0) w5, x.val.cell? ⟨gg, off + j * 5 + 2, none⟩ = some (.int .i64 tn) := fun x => x.upd.cell q2 hgb
    have X3 : ∀ x : XF (fun k => k = b0) w5, x.val.cell? ⟨gg, off + j * 5 + 3, none⟩ = some (.int .i64 tl) := fun x => x.upd.cell q3 hgb
    have X4 : ∀ x : XF (fun k => k = b0) w5, x.val.cell? ⟨gg, off + j * 5 + 4, none⟩ = some (.int .i64 tc) := fun x => x.upd.cell q4 hgb
    have hq0 := q0
    clear q0 q1 q2 q3 q4
    refine wp_region_mix [(0, 0), (1, 0), (2, 0), (3, 0), (4, 0), (5, 0), (6, 0), (7, 0), (8, 0), (9, 0), (10, 1), (11, 1), (12, 2), (13, 2)] 12 (fun W => ∃ x : XF (fun k => k = b0) w5, W = x.val) (by kernel_rfl) (by kernel_rfl) (fun _ _ d _ _ h => by cases d <;> exact h) ⟨⟨_, (Upd.refl _ w5).drew⟩, rfl⟩ ?_
    simp only [pickO, List.getElem?_cons_zero, List.getElem?_cons_succ]
    have HS0 : Hid (∃ x : XF (fun k => k = b0) w5, w5.drew = x.val) := Lib.hid ⟨⟨_, (Upd.refl _ w5).drew⟩, rfl⟩
    iterate 10 (refine mix_take ?_; intro K hK; go_simp; refine hK _ ?_; clear hK K)
    refine mix_one ?_ HS0.out
    intro K hK _
    go_simp
    refine (rWrong_x ⟨kd, tx, tn, tl, tc⟩ w5.drew).mono ?_
    rintro e wz ⟨he, h⟩
    rw [HER.out] at he
    subst he
    have HEZ := Lib.hid (((Upd.refl (fun _ => False) w5).drew).trans h)
    refine hK _ _ ⟨⟨_, ((Upd.refl (fun _ => False) w5).drew.trans h).mono (fun _ _ h => h.elim)⟩, rfl⟩ ?_
    clear hK K h X0 X1 X2 X3 X4
    have HZZ := Lib.hid (HEZ.out.heap HZ.out (fun h => h))
    have HPZ := Lib.hid (HEZ.out.heap HP.out (fun h => h))
    have HEE := Lib.hid (HE.out.trans HEZ.out)
    have z0 := cellRow HZZ.out 0 (.string ⟨#[]⟩) rfl
    have z1 := cellRow HZZ.out 1 (.string ⟨#[]⟩) rfl
    have z2 := cellRow HZZ.out 2 (.slice none 0 0) rfl
    have p0 := cellRow HPZ.out 0 (.int .i64 0) rfl
    have p1 := cellRow HPZ.out 1 (.int .i64 0) rfl
    have fz := fun j => frozenRow HZZ.out j
    have fp := fun j => frozenRow HPZ.out j
    have HS1 : Hid (∃ x : XF (fun k => k = b0) w5, wz = x.val) := Lib.hid ⟨⟨wz, HEZ.out.mono (fun _ _ h => h.elim)⟩, rfl⟩
    refine mix_one ?_ HS1.out
    intro K hK _
    go_simp
    refine hK _ _ ⟨⟨_, (HEZ.out.mono (fun _ _ h => h.elim)).trans (st3_upd' wz b0 (.string ⟨#[]⟩) (.string ⟨#[]⟩) (.slice none 0 0))⟩, rfl⟩ ?_
    clear hK K
    iterate 2 (refine mix_two ?_; intro K hK; go_simp; refine hK _ _ ?_; clear hK K)
    simp only [wpMix]
    go_wp2_with fail
    have hz := st3_heap HZZ.out (.string ⟨#[]⟩) (.string ⟨#[]⟩) (.slice none 0 0)
    have huz := st3_upd' wz b0 (.string ⟨#[]⟩) (.string ⟨#[]⟩) (.slice none 0 0)
    have hq := st2_heap (huz.heap HPZ.out (by omega)) (.int .i64 (tl)) (.int .i64 (tc))
    have huq := st2_upd (((((wz).setCell ⟨b0, 0, none⟩ (.string ⟨#[]⟩)).setCell ⟨b0, 1, none⟩ (.string ⟨#[]⟩)).setCell ⟨b0, 2, none⟩ (.slice none 0 0))) (b0 + 1) (.int .i64 (tl)) (.int .i64 (tc))
    have hz2 := huq.heap hz (by omega)
    have e0 := cellRow hz2 0 _ rfl
    have e1 := cellRow hz2 1 _ rfl
    have e2 := cellRow hz2 2 _ rfl
    have e3 := cellRow hq 0 _ rfl
    have e4 := cellRow hq 1 _ rfl
    refine bodyPost_ret (v := .tuple #[.agg #[.string ⟨#[]⟩, .string ⟨#[]⟩, .slice none 0 0], .agg #[.int .i64 (tl), .int .i64 (tc)], .int .i64 (er)]) (by simp [results, Tryz.results26, go_sem, e0, e1, e2, e3, e4]) rfl ?_
    rw [HV.out]
    exact ⟨.slice none 0 0, rfl, .mk [] [] _ rfl (SlR.nil _ _ _) (fun i hi => absurd hi (Nat.not_lt_zero _)), (HEE.out.trans' huz (fun k hk e => by omega)).trans' huq (fun k hk e => by omega)⟩
  | ok t j =>
    have hjl : j < l.length := hjl
    have hv := HRR.out
    dsimp only at hv
    have htz : t.size ≤ 1000000 := by have := HSZ.out _ _ rfl; omega
    clear HSZ
    go_wp2_with fail
    refine HPD.out.mono ?_
    rintro e w4 ⟨u, Bx, rfl, hT4, hB4, h4⟩
    obtain ⟨ya, yc, hy⟩ := TlO.shape hT4
    subst hy
    dsimp only [tV]
    have HT4 : Hid (TlR (fun k => w3.heap.size ≤ k ∧ k < w4.heap.size) w4 t.kids (.slice ya t.kids.length yc)) := Lib.hid ((TlO.read hT4).weaken hB4)
    have h5 := h4.alloc (.cells #[.string t.name, .string t.sort, .slice ya t.kids.length yc] 24)
    have HA5 := Lib.hid ((Upd.refl (fun _ => False) w4).alloc (.cells #[.string t.name, .string t.sort, .slice ya t.kids.length yc] 24))
    have HO5 := Lib.hid (alloc0 w4 (.cells #[.string t.name, .string t.sort, .slice ya t.kids.length yc] 24))
    have HZ := Lib.hid (h5.heap HZ3.out (fun h => h))
    have HP := Lib.hid (h5.heap HQ3.out (fun h => h))
    have HE := Lib.hid (HE3.out.trans h5)
    have H5 := Lib.hid h5
    have hs4 := h4.size
    have hs5 := h5.size
    have hs5' := HA5.out.size
    clear h4 h5 HPD hT4 hB4
    go_upto_region 5 with fail
    obtain ⟨nt, hnt⟩ : ∃ x, w4.heap.size = x := ⟨_, rfl⟩
    rw [hnt] at HO5
    try rw [hnt]
    generalize w4.alloc (.cells #[.string t.name, .string t.sort, .slice ya t.kids.length yc] 24) = w5 at *
    have HT5 := Lib.hid (HT4.out.ext HA5.out)
    obtain ⟨q0, q1, q2, q3, q4⟩ := HAT.out w5 H5.out j hjl
    obtain ⟨⟨kd, tx, tn, tl, tc⟩, ht⟩ : ∃ t, tk l j = t := ⟨_, rfl⟩
    rw [ht] at q0 q1 q2 q3 q4 hv
    dsimp only at q0 q1 q2 q3 q4 hv
    have j0 : (0 : Int) ≤ (j : Int) := by omega
    have j1 : (j : Int) < (l.length : Int) := by omega
    clear ht HRR HT4 HA5
    by_cases hk5 : kd = 5
    case neg =>
      rw [if_pos hk5] at hv
      obtain ⟨er, her⟩ : ∃ er : Int, er = 7 := ⟨_, rfl⟩
      have HER : Hid ((if kd = 5 then (8 : Int) else 7) = er) := Lib.hid (by rw [if_neg hk5, her])
      rw [← her] at hv
      have HV : Hid (R = (nulT, (tl, tc), er)) := Lib.hid hv.symm
      have t1 : ((kd : Int) == 5) = false := beq_eq_false_iff_ne.2 (by omega)
      have t2 : ((kd : Int) != 5) = true := bne_iff_ne.2 (by omega)
      clear hv her hk5
      go_upto_region 6 with fail
      have X0 : ∀ x : XF (fun k => k = b0) w5, x.val.cell? ⟨gg, off + j * 5, none⟩ = some (.int .i64 (kd : Int)) := fun x => x.upd.cell q0 hgb
      have X1 : ∀ x : XF (fun k => k = b0) w5, x.val.cell? ⟨gg, off + j * 5 + 1, none⟩ = some (.string tx) := fun x => x.upd.cell q1 hgb
      have X2 : ∀ x : XF (fun k => k = b0) w5, x.val.cell? ⟨gg, off + j * 5 + 2, none⟩ = some (.int .i64 tn) := fun x => x.upd.cell q2 hgb
      have X3 : ∀ x : XF (fun k => k = b0) w5, x.val.cell? ⟨gg, off + j * 5 + 3, none⟩ = some (.int .i64 tl) := fun x => x.upd.cell q3 hgb
      have X4 : ∀ x : XF (fun k => k = b0) w5, x.val.cell? ⟨gg, off + j * 5 + 4, none⟩ = some (.int .i64 tc) := fun x => x.upd.cell q4 hgb
      have hq0 := q0
      clear q0 q1 q2 q3 q4
      refine wp_region_mix [(0, 0), (1, 0), (2, 0), (3, 0), (4, 0), (5, 0), (6, 0), (7, 0), (8, 0), (9, 0), (10, 1), (11, 1), (12, 2), (13, 2)] 12 (fun W => ∃ x : XF (fun k => k = b0) w5, W = x.val) (by kernel_rfl) (by kernel_rfl) (fun _ _ d _ _ h => by cases d <;> exact h) ⟨⟨_, (Upd.refl _ w5).drew⟩, rfl⟩ ?_
      simp only [pickO, List.getElem?_cons_zero, List.getElem?_cons_succ]
      have HS0 : Hid (∃ x : XF (fun k => k = b0) w5, w5.drew = x.val) := Lib.hid ⟨⟨_, (Upd.refl _ w5).drew⟩, rfl⟩
      iterate 10 (refine mix_take ?_; intro K hK; go_simp; refine hK _ ?_; clear hK K)
      refine mix_one ?_ HS0.out
      intro K hK _
      go_simp
      refine (rWrong_x ⟨kd, tx, tn, tl, tc⟩ w5.drew).mono ?_
      rintro e wz ⟨he, h⟩
      rw [HER.out] at he
      subst he
      have HEZ := Lib.hid (((Upd.refl (fun _ => False) w5).drew).trans h)
      refine hK _ _ ⟨⟨_, ((Upd.refl (fun _ => False) w5).drew.trans h).mono (fun _ _ h => h.elim)⟩, rfl⟩ ?_
      clear hK K h X0 X1 X2 X3 X4
      have HZZ := Lib.hid (HEZ.out.heap HZ.out (fun h => h))
      have HPZ := Lib.hid (HEZ.out.heap HP.out (fun h => h))
      have HEE := Lib.hid (HE.out.trans HEZ.out)
      have z0 := cellRow HZZ.out 0 (.string ⟨#[]⟩) rfl
      have z1 := cellRow HZZ.out 1 (.string ⟨#[]⟩) rfl
      have z2 := cellRow HZZ.out 2 (.slice none 0 0) rfl
      have p0 := cellRow HPZ.out 0 (.int .i64 0) rfl
      have p1 := cellRow HPZ.out 1 (.int .i64 0) rfl
      have fz := fun j => frozenRow HZZ.out j
      have fp := fun j => frozenRow HPZ.out j
      have HS1 : Hid (∃ x : XF (fun k => k = b0) w5, wz = x.val) := Lib.hid ⟨⟨wz, HEZ.out.mono (fun _ _ h => h.elim)⟩, rfl⟩
      refine mix_one ?_ HS1.out
      intro K hK _
      go_simp
      refine hK _ _ ⟨⟨_, (HEZ.out.mono (fun _ _ h => h.elim)).trans (st3_upd' wz b0 (.string ⟨#[]⟩) (.string ⟨#[]⟩) (.slice none 0 0))⟩, rfl⟩ ?_
      clear hK K
      iterate 2 (refine mix_two ?_; intro K hK; go_simp; refine hK _ _ ?_; clear hK K)
      simp only [wpMix]
      go_wp2_with fail
      have hz := st3_heap HZZ.out (.string ⟨#[]⟩) (.string ⟨#[]⟩) (.slice none 0 0)
      have huz := st3_upd' wz b0 (.string ⟨#[]⟩) (.string ⟨#[]⟩) (.slice none 0 0)
      have hq := st2_heap (huz.heap HPZ.out (by omega)) (.int .i64 (tl)) (.int .i64 (tc))
      have huq := st2_upd (((((wz).setCell ⟨b0, 0, none⟩ (.string ⟨#[]⟩)).setCell ⟨b0, 1, none⟩ (.string ⟨#[]⟩)).setCell ⟨b0, 2, none⟩ (.slice none 0 0))) (b0 + 1) (.int .i64 (tl)) (.int .i64 (tc))
      have hz2 := huq.heap hz (by omega)
      have e0 := cellRow hz2 0 _ rfl
      have e1 := cellRow hz2 1 _ rfl
      have e2 := cellRow hz2 2 _ rfl
      have e3 := cellRow hq 0 _ rfl
      have e4 := cellRow hq 1 _ rfl
      refine bodyPost_ret (v := .tuple #[.agg #[.string ⟨#[]⟩, .string ⟨#[]⟩, .slice none 0 0], .agg #[.int .i64 (tl), .int .i64 (tc)], .int .i64 (er)]) (by simp [results, Tryz.results26, go_sem, e0, e1, e2, e3, e4]) rfl ?_
      rw [HV.out]
      exact ⟨.slice none 0 0, rfl, .mk [] [] _ rfl (SlR.nil _ _ _) (fun i hi => absurd hi (Nat.not_lt_zero _)), (HEE.out.trans' huz (fun k hk e => by omega)).trans' huq (fun k hk e => by omega)⟩
    subst hk5
    rw [if_neg (fun h => h rfl)] at hv
    have HSM := Lib.hid (small_x t 1 1000 (tV t (.slice ya t.kids.length yc)) _ w5 ⟨ya, yc, rfl, HT5.out⟩ (by omega) (by omega) (by omega))
    have hsf := small_formed nmB t
    obtain ⟨M, hM⟩ : ∃ M, small nmB 1 1000 t = M := ⟨_, rfl⟩
    rw [hM] at HSM hsf
    have HFB : Hid (formed nmB t = decide (0 ≤ M)) := Lib.hid hsf
    have HV0 := Lib.hid hv
    dsimp only [tV] at HSM
    have t0 := cellRow HO5.out 0 (.string t.name) rfl
    have t1 := cellRow HO5.out 1 (.string t.sort) rfl
    have t2 := cellRow HO5.out 2 (.slice ya t.kids.length yc) rfl
    clear hM hsf hv q1 q2 q3 q4
    go_wp2_with fail
    refine HSM.out.mono ?_
    rintro e w6 ⟨rfl, h6⟩
    have HZ6 := Lib.hid (h6.heap HZ.out (fun h => h))
    have HP6 := Lib.hid (h6.heap HP.out (fun h => h))
    have HE6 := Lib.hid (HE.out.trans h6)
    have HO6 := Lib.hid (h6.heap HO5.out (fun h => h))
    have HT6 := Lib.hid (HT5.out.ext h6)
    have hs6 := h6.size
    clear h6 HSM t0 t1 t2 q0 HZ HP HE HO5 HT5
    by_cases hm : 0 ≤ M
    case neg =>
      have HV2 : Hid (R = (nulT, (0, 0), 4)) := Lib.hid (by rw [← HV0.out, HFB.out, decide_eq_false hm, if_pos rfl])
      have m1 : M < 0 := by omega
      have m2 : decide (M < 0) = true := decide_eq_true m1
      clear HV0 HFB
      have z0 := cellRow HZ6.out 0 (.string ⟨#[]⟩) rfl
      have z1 := cellRow HZ6.out 1 (.string ⟨#[]⟩) rfl
      have z2 := cellRow HZ6.out 2 (.slice none 0 0) rfl
      have p0 := cellRow HP6.out 0 (.int .i64 0) rfl
      have p1 := cellRow HP6.out 1 (.int .i64 0) rfl
      have fz := fun j => frozenRow HZ6.out j
      have fp := fun j => frozenRow HP6.out j
      go_wp2_with fail
      have hz := st3_heap HZ6.out (.string ⟨#[]⟩) (.string ⟨#[]⟩) (.slice none 0 0)
      have huz := st3_upd' w6 b0 (.string ⟨#[]⟩) (.string ⟨#[]⟩) (.slice none 0 0)
      have hq := st2_heap (huz.heap HP6.out (by omega)) (.int .i64 (0)) (.int .i64 (0))
      have huq := st2_upd (((((w6).setCell ⟨b0, 0, none⟩ (.string ⟨#[]⟩)).setCell ⟨b0, 1, none⟩ (.string ⟨#[]⟩)).setCell ⟨b0, 2, none⟩ (.slice none 0 0))) (b0 + 1) (.int .i64 (0)) (.int .i64 (0))
      have hz2 := huq.heap hz (by omega)
      have e0 := cellRow hz2 0 _ rfl
      have e1 := cellRow hz2 1 _ rfl
      have e2 := cellRow hz2 2 _ rfl
      have e3 := cellRow hq 0 _ rfl
      have e4 := cellRow hq 1 _ rfl
      refine bodyPost_ret (v := .tuple #[.agg #[.string ⟨#[]⟩, .string ⟨#[]⟩, .slice none 0 0], .agg #[.int .i64 (0), .int .i64 (0)], .int .i64 (4)]) (by simp [results, Tryz.results26, go_sem, e0, e1, e2, e3, e4]) rfl ?_
      rw [HV2.out]
      exact ⟨.slice none 0 0, rfl, .mk [] [] _ rfl (SlR.nil _ _ _) (fun i hi => absurd hi (Nat.not_lt_zero _)), (HE6.out.trans' huz (fun k hk e => by omega)).trans' huq (fun k hk e => by omega)⟩
    have m1 : ¬ M < 0 := by omega
    have m2 : decide (M < 0) = false := decide_eq_false m1
    have HFT : Hid (formed nmB t = true) := Lib.hid (by rw [HFB.out]; exact decide_eq_true hm)
    have HWB : Hid (wf nmB t = (sortsT t).isSome) := Lib.hid (by unfold wf; rw [HFT.out, Bool.true_and])
    have HFM := Lib.hid (rformed_x t (tV t (.slice ya t.kids.length yc)) _ w6 ⟨ya, yc, rfl, HT6.out⟩)
    obtain ⟨wb, hwb⟩ : ∃ b, wf nmB t = b := ⟨_, rfl⟩
    rw [hwb] at HFM HWB
    have HV1 : Hid (R = if wb = true then (t, (0, 0), 0) else (nulT, (0, 0), 11)) := Lib.hid (by rw [← HV0.out, if_neg (by rw [HFT.out]; decide), ← HWB.out])
    dsimp only [tV] at HFM
    have t0 := cellRow HO6.out 0 (.string t.name) rfl
    have t1 := cellRow HO6.out 1 (.string t.sort) rfl
    have t2 := cellRow HO6.out 2 (.slice ya t.kids.length yc) rfl
    clear hwb HWB HV0 HFB HFT hm
    go_wp2_with fail
    refine HFM.out.mono ?_
    rintro e w7 ⟨rfl, h7⟩
    have HZ7 := Lib.hid (h7.heap HZ6.out (fun h => h))
    have HP7 := Lib.hid (h7.heap HP6.out (fun h => h))
    have HE7 := Lib.hid (HE6.out.trans h7)
    have HO7 := Lib.hid (h7.heap HO6.out (fun h => h))
    have HT7 := Lib.hid (HT6.out.ext h7)
    have hs7 := h7.size
    clear h7 HFM t0 t1 t2 m1 m2
    cases wb
    · have HV2 : Hid (R = (nulT, (0, 0), 11)) := Lib.hid (by rw [HV1.out, if_neg (by decide)])
      clear HV1
      have z0 := cellRow HZ7.out 0 (.string ⟨#[]⟩) rfl
      have z1 := cellRow HZ7.out 1 (.string ⟨#[]⟩) rfl
      have z2 := cellRow HZ7.out 2 (.slice none 0 0) rfl
      have p0 := cellRow HP7.out 0 (.int .i64 0) rfl
      have p1 := cellRow HP7.out 1 (.int .i64 0) rfl
      have fz := fun j => frozenRow HZ7.out j
      have fp := fun j => frozenRow HP7.out j
      go_wp2_with fail
      have hz := st3_heap HZ7.out (.string ⟨#[]⟩) (.string ⟨#[]⟩) (.slice none 0 0)
      have huz := st3_upd' w7 b0 (.string ⟨#[]⟩) (.string ⟨#[]⟩) (.slice none 0 0)
      have hq := st2_heap (huz.heap HP7.out (by omega)) (.int .i64 (0)) (.int .i64 (0))
      have huq := st2_upd (((((w7).setCell ⟨b0, 0, none⟩ (.string ⟨#[]⟩)).setCell ⟨b0, 1, none⟩ (.string ⟨#[]⟩)).setCell ⟨b0, 2, none⟩ (.slice none 0 0))) (b0 + 1) (.int .i64 (0)) (.int .i64 (0))
      have hz2 := huq.heap hz (by omega)
      have e0 := cellRow hz2 0 _ rfl
      have e1 := cellRow hz2 1 _ rfl
      have e2 := cellRow hz2 2 _ rfl
      have e3 := cellRow hq 0 _ rfl
      have e4 := cellRow hq 1 _ rfl
      refine bodyPost_ret (v := .tuple #[.agg #[.string ⟨#[]⟩, .string ⟨#[]⟩, .slice none 0 0], .agg #[.int .i64 (0), .int .i64 (0)], .int .i64 (11)]) (by simp [results, Tryz.results26, go_sem, e0, e1, e2, e3, e4]) rfl ?_
      rw [HV2.out]
      exact ⟨.slice none 0 0, rfl, .mk [] [] _ rfl (SlR.nil _ _ _) (fun i hi => absurd hi (Nat.not_lt_zero _)), (HE7.out.trans' huz (fun k hk e => by omega)).trans' huq (fun k hk e => by omega)⟩
    have HV2 : Hid (R = (t, (0, 0), 0)) := Lib.hid (by rw [HV1.out, if_pos rfl])
    clear HV1
    have t0 := cellRow HO7.out 0 (.string t.name) rfl
    have t1 := cellRow HO7.out 1 (.string t.sort) rfl
    have t2 := cellRow HO7.out 2 (.slice ya t.kids.length yc) rfl
    have z0 := cellRow HZ7.out 0 (.string ⟨#[]⟩) rfl
    have z1 := cellRow HZ7.out 1 (.string ⟨#[]⟩) rfl
    have z2 := cellRow HZ7.out 2 (.slice none 0 0) rfl
    have p0 := cellRow HP7.out 0 (.int .i64 0) rfl
    have p1 := cellRow HP7.out 1 (.int .i64 0) rfl
    have fz := fun j => frozenRow HZ7.out j
    have fp := fun j => frozenRow HP7.out j
    go_wp2_with fail
    have hz := st3_heap HZ7.out (.string t.name) (.string t.sort) (.slice ya t.kids.length yc)
    have huz := st3_upd' w7 b0 (.string t.name) (.string t.sort) (.slice ya t.kids.length yc)
    have hq := st2_heap (huz.heap HP7.out (by omega)) (.int .i64 (0)) (.int .i64 (0))
    have huq := st2_upd (((((w7).setCell ⟨b0, 0, none⟩ (.string t.name)).setCell ⟨b0, 1, none⟩ (.string t.sort)).setCell ⟨b0, 2, none⟩ (.slice ya t.kids.length yc))) (b0 + 1) (.int .i64 (0)) (.int .i64 (0))
    have hz2 := huq.heap hz (by omega)
    have e0 := cellRow hz2 0 _ rfl
    have e1 := cellRow hz2 1 _ rfl
    have e2 := cellRow hz2 2 _ rfl
    have e3 := cellRow hq 0 _ rfl
    have e4 := cellRow hq 1 _ rfl
    refine bodyPost_ret (v := .tuple #[.agg #[.string t.name, .string t.sort, .slice ya t.kids.length yc], .agg #[.int .i64 (0), .int .i64 (0)], .int .i64 (0)]) (by simp [results, Tryz.results26, go_sem, e0, e1, e2, e3, e4]) rfl ?_
    have hsa := huz.size
    have hsb := huq.size
    rw [HV2.out]
    exact ⟨.slice ya t.kids.length yc, rfl, ((HT7.out.kept huz (fun k hk e => by have := hk.1; omega)).kept huq (fun k hk e => by have := hk.1; omega)).weaken (fun k hk => ⟨by have := hk.1; omega, by have := hk.2; omega⟩), (HE7.out.trans' huz (fun k hk e => by omega)).trans' huq (fun k hk e => by omega)⟩

end Go.Proofs.YtjjaknmnhhfjeaaGreatDoor

/- The law TermTexts. -/
namespace Go.Proofs.YtjjaknmnhhfjeaaGreatDoor
open Go.RowKit Go.Hw Go Go.Sort Go.Proofs Go.ChangeMaps
set_option linter.unusedVariables false
set_option linter.unusedSimpArgs false

open Tm
theorem eqP (a b : Int) (w : World) : (Op.equalIn 10000 45 (.agg #[.int .i64 a, .int .i64 b]) (.agg #[.int .i64 a, .int .i64 b])).run Tryz.prog w = .ok true w := by
  have u3 := Tryz.underlying3
  have hS : Tryz.prog.underlying 45 = some (.struct (Tryz.prog.fieldsOf 45)) := by kernel_rfl
  have hp : Tryz.prog.stoodInHeld 45 = false := by kernel_rfl
  rw [show (10000 : Nat) = 9999 + 1 from rfl, run_equalIn_agg w 9999 45 _ _ hS hp]
  simp only [Program.fieldsOf, Tryz.underlying45]
  go_simp
theorem wf_txt {t : Tm} (h : wf nmB t = true) : (txT t).length ≤ 90000 := by
  obtain ⟨h1, h2⟩ := formed_nd (wf_formed h)
  have := txT_len t (fun x hx => ⟨(h2 x hx).1, (h2 x hx).2.2⟩)
  omega
theorem ps_nb (s : By) : bigF [(psF s).1] = false := by
  unfold psF
  cases tokF (wdF iR) s with
  | full => exact nul_big
  | bad a b => exact nul_big
  | ok l =>
    dsimp only
    cases pT l l.length 0 with
    | bad j => exact nul_big
    | ok t j =>
      dsimp only
      split
      · exact nul_big
      · split
        · exact nul_big
        · split
          · rename_i h1 h2
            refine wf_big ?_
            unfold wf
            rw [Bool.and_eq_true]
            exact ⟨by simpa using h1, h2⟩
          · exact nul_big
set_option maxRecDepth 100000 in
set_option maxHeartbeats 8000000 in
theorem texts_law (t : Tm) (s : By) (tv : Value) (w : World) (hT : TmR (fun k => k < w.heap.size) w t tv) (htab : AscT w) (hA : AtoiD w) :
    Calls Tryz.prog 5 #[tv, .string s] w fun e w' => e = .returned (.bool true) ∧ Ext w w' := by
  obtain ⟨a, cap, rfl, hT⟩ := hT
  have HTL := Lib.hid hT
  have HTAB := Lib.hid htab
  have HAT := Lib.hid hA
  have HASC := Lib.hid (fun W (hW : Ext w W) => asc_ext htab hW)
  have HAW := Lib.hid (fun W (hW : Ext w W) => awake_x W (asc_ext htab hW))
  have HE1 := Lib.hid ((Upd.refl (fun _ => False) w).alloc (.cells #[.string t.name, .string t.sort, .slice a t.kids.length cap] 24))
  have HT1 := Lib.hid (alloc0 w (.cells #[.string t.name, .string t.sort, .slice a t.kids.length cap] 24))
  dsimp only [tV]
  clear hT htab hA
  go_enter Tryz.func5, Tryz.ntmps5
  go_wp2_with fail
  obtain ⟨x0, hx0⟩ : ∃ x0, w.heap.size = x0 := ⟨_, rfl⟩
  rw [hx0] at HT1
  try rw [hx0]
  generalize w.alloc (.cells #[.string t.name, .string t.sort, .slice a t.kids.length cap] 24) = w1 at *
  refine (HAW.out _ HE1.out).mono ?_
  rintro e w2 ⟨rfl, h⟩
  have HE2 := Lib.hid (HE1.out.trans h)
  have HT2 := Lib.hid (h.heap HT1.out (fun h => h))
  clear h HE1 HT1 
  clear HAW
  go_upto_region 3 with fail
  obtain ⟨G, hG⟩ : ∃ G, (bigF [t] || (decide (3000 < s.size) && decide (s.size ≤ 65536)) || decide (70000 < s.size)) = G := ⟨_, rfl⟩
  have HG := Lib.hid hG
  clear hG
  go_cut [36] (fun v ww => v = .bool G ∧ Hid (Ext w2 ww))
  case first =>
    have t0 := cellRow HT2.out 0 (.string t.name) rfl
    have t1 := cellRow HT2.out 1 (.string t.sort) rfl
    have t2 := cellRow HT2.out 2 (.slice a t.kids.length cap) rfl
    have HC := Lib.hid (alloc0 w2 (.cells #[.string t.name, .string t.sort, .slice a t.kids.length cap] 24))
    have HZ := Lib.hid ((Upd.refl (fun _ => False) w2).alloc (.cells #[.string t.name, .string t.sort, .slice a t.kids.length cap] 24))
    have HBG := Lib.hid (big_x [t] (.slice (some ⟨w2.heap.size, 0, none⟩) 1 1) (fun k => k < (w2.alloc (.cells #[.string t.name, .string t.sort, .slice a t.kids.length cap] 24)).heap.size) (w2.alloc (.cells #[.string t.name, .string t.sort, .slice a t.kids.length cap] 24)) (tl1_row HC.out (by simp) ((HTL.out.ext (HE2.out.trans HZ.out)).weaken (fun k hk => Nat.lt_of_lt_of_le hk (HE2.out.trans HZ.out).size))) (fun k hk => hk) (by simp))
    go_wp2_with fail
    refine HBG.out.mono ?_
    rintro e w3 ⟨rfl, h⟩
    have HR := Lib.hid (HZ.out.trans h)
    obtain ⟨B, hB⟩ : ∃ B, bigF [t] = B := ⟨_, rfl⟩
    rw [hB] at HG
    rw [hB]
    clear hB h HBG HC t0 t1 t2
    cases B
    case true =>
      have hg : true = G := by rw [← HG.out]; simp
      go_wp2_with fail
      go_meet
      case rel => exact ⟨by rw [← hg], HR⟩
    case false =>
      by_cases ha : 3000 < s.size
      · have a1 : (3000 : Int) < (s.size : Int) := by omega
        have a2 : decide ((3000 : Int) < (s.size : Int)) = true := decide_eq_true a1
        have a3 : decide (3000 < s.size) = true := decide_eq_true ha
        by_cases hb : s.size ≤ 65536
        · have b1 : (s.size : Int) ≤ 65536 := by omega
          have b2 : decide ((s.size : Int) ≤ 65536) = true := decide_eq_true b1
          have b3 : decide (s.size ≤ 65536) = true := decide_eq_true hb
          have hg : true = G := by rw [← HG.out, a3, b3]; simp
          clear ha hb
          go_wp2_with fail
          go_meet
          case rel => exact ⟨by rw [← hg], HR⟩
        · have b1 : ¬ (s.size : Int) ≤ 65536 := by omega
          have b2 : decide ((s.size : Int) ≤ 65536) = false := decide_eq_false b1
          have b3 : decide (s.size ≤ 65536) = false := decide_eq_false hb
          have hg : decide ((70000 : Int) < (s.size : Int)) = G := by rw [← HG.out, a3, b3]; simp; omega
          clear ha hb
          go_wp2_with fail
          go_meet
          case rel => exact ⟨by rw [← hg], HR⟩
      · have a1 : ¬ (3000 : Int) < (s.size : Int) := by omega
        have a2 : decide ((3000 : Int) < (s.size : Int)) = false := decide_eq_false a1
        have a3 : decide (3000 < s.size) = false := decide_eq_false ha
        have hg : decide ((70000 : Int) < (s.size : Int)) = G := by rw [← HG.out, a3]; simp; omega
        clear ha
        go_wp2_with fail
        go_meet
        case rel => exact ⟨by rw [← hg], HR⟩
  case rest =>
  obtain ⟨rfl, HX⟩ := hcut
  have h := HX.out
  have HE3 := Lib.hid (HE2.out.trans h)
  have HT3 := Lib.hid (h.heap HT2.out (fun h => h))
  clear h HE2 HT2 
  clear HX
  cases G
  case true =>
    go_wp2_with fail
    refine bodyPost_ret (v := .bool true) (by simp [results, Tryz.results5, go_sem]) rfl ?_
    exact ⟨rfl, HE3.out⟩
  have hsz0 : bigF [t] = false ∧ s.size ≤ 70000 := by
    have h := HG.out
    simp only [Bool.or_eq_false_iff, decide_eq_false_iff_not] at h
    exact ⟨h.1.1, by omega⟩
  obtain ⟨hbt, hsz⟩ := hsz0
  have HBT := Lib.hid hbt
  have hts := big_small hbt
  have HXB := Lib.hid (ps_nb s)
  have HPS := Lib.hid (parse_x s wc (asc_ext HTAB.out HE3.out) (HAT.out.ext HE3.out) (by omega) _ rfl)
  have HRS := Lib.hid (fun W => rparse_x s W (by omega) _ rfl)
  obtain ⟨⟨x, ⟨pl, pc⟩, er⟩, hR⟩ : ∃ R, psF s = R := ⟨_, rfl⟩
  rw [hR] at HXB HPS HRS
  dsimp only at HXB HPS HRS
  clear hR HG hbt
  go_wp2_with fail
  refine HPS.out.mono ?_
  rintro e w4 ⟨u, rfl, KX4, h⟩
  obtain ⟨xa, xc, hr⟩ := KX4.shape
  subst hr
  have KX4 := Lib.hid (KX4.weaken (fun k hk => hk.2))
  have HE4 := Lib.hid (HE3.out.trans h)
  have HT4 := Lib.hid (h.heap HT3.out (fun h => h))
  clear h HE3 HT3 
  clear HPS
  dsimp only [tV]
  have hz := ((Upd.refl (fun _ => False) w4).alloc (.cells #[.string x.name, .string x.sort, .slice xa x.kids.length xc] 24)).alloc (.cells #[.int .i64 pl, .int .i64 pc] 45)
  have HX5 := Lib.hid (allocOld (alloc0 w4 (.cells #[.string x.name, .string x.sort, .slice xa x.kids.length xc] 24)) (.cells #[.int .i64 pl, .int .i64 pc] 45))
  have HPX5 := Lib.hid (alloc_at (w4.alloc (.cells #[.string x.name, .string x.sort, .slice xa x.kids.length xc] 24)) (.cells #[.int .i64 pl, .int .i64 pc] 45) (n := w4.heap.size + 1) (by simp))
  have HE5 := Lib.hid (HE4.out.trans hz)
  have HT5 := Lib.hid (hz.heap HT4.out (fun h => h))
  have KX5 := Lib.hid (kup KX4.out hz)
  clear hz HE4 HT4 KX4
  go_upto_region 6 with fail
  obtain ⟨xb, hxb⟩ : ∃ q, w4.heap.size = q := ⟨_, rfl⟩
  rw [hxb] at HX5 HPX5
  try rw [hxb]
  generalize ((w4.alloc (.cells #[.string x.name, .string x.sort, .slice xa x.kids.length xc] 24)).alloc (.cells #[.int .i64 pl, .int .i64 pc] 45)) = w5 at *
  have x0 := cellRow HX5.out 0 (.string x.name) rfl
  have x1 := cellRow HX5.out 1 (.string x.sort) rfl
  have x2 := cellRow HX5.out 2 (.slice xa x.kids.length xc) rfl
  have HC := Lib.hid (alloc0 w5 (.cells #[.string x.name, .string x.sort, .slice xa x.kids.length xc] 24))
  have hz := (Upd.refl (fun _ => False) w5).alloc (.cells #[.string x.name, .string x.sort, .slice xa x.kids.length xc] 24)
  have HBX := Lib.hid (big_x [x] (.slice (some ⟨w5.heap.size, 0, none⟩) 1 1) (fun k => k < (w5.alloc (.cells #[.string x.name, .string x.sort, .slice xa x.kids.length xc] 24)).heap.size) (w5.alloc (.cells #[.string x.name, .string x.sort, .slice xa x.kids.length xc] 24)) (tl1_row HC.out (by simp) (kup KX5.out hz)) (fun k hk => hk) (by simp))
  rw [HXB.out] at HBX
  go_wp2_with fail
  refine HBX.out.mono ?_
  rintro e w6 ⟨rfl, h⟩
  have h := hz.trans h
  have HE6 := Lib.hid (HE5.out.trans h)
  have HT6 := Lib.hid (h.heap HT5.out (fun h => h))
  have HX6 := Lib.hid (h.heap HX5.out (fun h => h))
  have HPX6 := Lib.hid (h.heap HPX5.out (fun h => h))
  have KX6 := Lib.hid (kup KX5.out h)
  clear h HE5 HT5 HX5 HPX5 KX5
  clear HBX HC x0 x1 x2 hz
  go_wp2_with fail
  refine (HRS.out w6).mono ?_
  rintro e w7 ⟨u, rfl, KY7, h⟩
  obtain ⟨ya, yc, hr⟩ := KY7.shape
  subst hr
  have KY7 := Lib.hid (KY7.weaken (fun k hk => hk.2))
  dsimp only [tV]
  have HE7 := Lib.hid (HE6.out.trans h)
  have HT7 := Lib.hid (h.heap HT6.out (fun h => h))
  have HX7 := Lib.hid (h.heap HX6.out (fun h => h))
  have HPX7 := Lib.hid (h.heap HPX6.out (fun h => h))
  have KX7 := Lib.hid (kup KX6.out h)
  clear h HE6 HT6 HX6 HPX6 KX6
  clear HRS
  have hz := ((Upd.refl (fun _ => False) w7).alloc (.cells #[.string x.name, .string x.sort, .slice ya x.kids.length yc] 24)).alloc (.cells #[.int .i64 pl, .int .i64 pc] 45)
  have HY8 := Lib.hid (allocOld (alloc0 w7 (.cells #[.string x.name, .string x.sort, .slice ya x.kids.length yc] 24)) (.cells #[.int .i64 pl, .int .i64 pc] 45))
  have HPY8 := Lib.hid (alloc_at (w7.alloc (.cells #[.string x.name, .string x.sort, .slice ya x.kids.length yc] 24)) (.cells #[.int .i64 pl, .int .i64 pc] 45) (n := w7.heap.size + 1) (by simp))
  have HE8 := Lib.hid (HE7.out.trans hz)
  have HT8 := Lib.hid (hz.heap HT7.out (fun h => h))
  have HX8 := Lib.hid (hz.heap HX7.out (fun h => h))
  have HPX8 := Lib.hid (hz.heap HPX7.out (fun h => h))
  have KX8 := Lib.hid (kup KX7.out hz)
  have KY8 := Lib.hid (kup KY7.out hz)
  clear hz HE7 HT7 HX7 HPX7 KX7 KY7
  go_upto_region 9 with fail
  obtain ⟨yb, hyb⟩ : ∃ q, w7.heap.size = q := ⟨_, rfl⟩
  rw [hyb] at HY8 HPY8
  try rw [hyb]
  generalize ((w7.alloc (.cells #[.string x.name, .string x.sort, .slice ya x.kids.length yc] 24)).alloc (.cells #[.int .i64 pl, .int .i64 pc] 45)) = w8 at *
  have xx0 := cellRow HX8.out 0 (.string x.name) rfl
  have xx1 := cellRow HX8.out 1 (.string x.sort) rfl
  have xx2 := cellRow HX8.out 2 (.slice xa x.kids.length xc) rfl
  have yy0 := cellRow HY8.out 0 (.string x.name) rfl
  have yy1 := cellRow HY8.out 1 (.string x.sort) rfl
  have yy2 := cellRow HY8.out 2 (.slice ya x.kids.length yc) rfl
  have HS1 := Lib.hid (same_x x x (.agg #[.string x.name, .string x.sort, .slice xa x.kids.length xc]) (.agg #[.string x.name, .string x.sort, .slice ya x.kids.length yc]) _ _ w8 (TmR.of KX8.out) (TmR.of KY8.out) (by have := big_small HXB.out; omega))
  rw [decide_eq_true (rfl : x = x)] at HS1
  go_wp2_with fail
  refine HS1.out.mono ?_
  rintro e w9 ⟨rfl, h⟩
  have HE9 := Lib.hid (HE8.out.trans h)
  have HT9 := Lib.hid (h.heap HT8.out (fun h => h))
  have HPX9 := Lib.hid (h.heap HPX8.out (fun h => h))
  have HPY9 := Lib.hid (h.heap HPY8.out (fun h => h))
  clear h HE8 HT8 HPX8 HPY8 
  clear HS1 xx0 xx1 xx2 yy0 yy1 yy2 HX8 HY8 KX8 KY8 HXB
  have p0 := cellRow HPX9.out 0 (.int .i64 pl) rfl
  have p1 := cellRow HPX9.out 1 (.int .i64 pc) rfl
  have r0 := cellRow HPY9.out 0 (.int .i64 pl) rfl
  have r1 := cellRow HPY9.out 1 (.int .i64 pc) rfl
  have heq := fun W => eqP pl pc W
  have t0 := cellRow HT9.out 0 (.string t.name) rfl
  have t1 := cellRow HT9.out 1 (.string t.sort) rfl
  have t2 := cellRow HT9.out 2 (.slice a t.kids.length cap) rfl
  -- Text
  have HTX := Lib.hid (Text_x t (.agg #[.string t.name, .string t.sort, .slice a t.kids.length cap]) w9 (HASC.out w9 HE9.out) ⟨a, cap, rfl, (HTL.out.ext HE9.out).weaken (fun k hk => Nat.lt_of_lt_of_le hk HE9.out.size)⟩ (by omega) (fun h => by have := wf_txt h; omega))
  have HFM := Lib.hid (fun W (hW : Ext w W) => rformed_x t (.agg #[.string t.name, .string t.sort, .slice a t.kids.length cap]) (fun k => k < w.heap.size) W ⟨a, cap, rfl, HTL.out.ext hW⟩)
  obtain ⟨wb, hwb⟩ : ∃ b, wf nmB t = b := ⟨_, rfl⟩
  have HWB := Lib.hid hwb
  rw [hwb] at HTX HFM
  clear hwb
  cases wb
  case false =>
    rw [if_pos rfl, if_pos rfl] at HTX
    go_wp2_with fail
    refine HTX.out.mono ?_
    rintro e wa ⟨rfl, h⟩
    have HE10 := Lib.hid (HE9.out.trans h)
    have HT10 := Lib.hid (h.heap HT9.out (fun h => h))
    clear h HE9 HT9 
    clear HTX t0 t1 t2
    have t0 := cellRow HT10.out 0 (.string t.name) rfl
    have t1 := cellRow HT10.out 1 (.string t.sort) rfl
    have t2 := cellRow HT10.out 2 (.slice a t.kids.length cap) rfl
    go_wp2_with fail
    refine (HFM.out _ HE10.out).mono ?_
    rintro e wb ⟨rfl, h⟩
    have HE11 := Lib.hid (HE10.out.trans h)
    rw [show nul = (⟨#[]⟩ : ByteArray) from rfl]
    go_wp2_with fail
    refine bodyPost_ret (v := .bool true) (by simp [results, Tryz.results5, go_sem]) rfl ?_
    exact ⟨rfl, HE11.out⟩
  case true =>
  rw [if_neg (by decide), if_neg (by decide)] at HTX
  have hwt := wf_txt HWB.out
  have HRT := Lib.hid (fun W (hW : Ext w W) => rText_x t (.agg #[.string t.name, .string t.sort, .slice a t.kids.length cap]) (fun k => k < w.heap.size) W ⟨a, cap, rfl, HTL.out.ext hW⟩ (fun k hk => Nat.lt_of_lt_of_le hk hW.size) (by omega) (by omega))
  have hfz : (bs (txT t)).size = (txT t).length := bs_size _
  have HBK := Lib.hid (ps_back HWB.out)
  by_cases hbig : 65536 < (txT t).length
  · have hf : fitF (txT t) = (nul, 4) := by unfold fitF; rw [if_pos hbig]
    rw [hf] at HTX
    dsimp only at HTX
    obtain ⟨JJ, hJJ⟩ : ∃ J, bs (txT t) = J := ⟨_, rfl⟩
    rw [hJJ] at HRT hfz
    have z1 : (65536 : Int) < (JJ.size : Int) := by omega
    have z2 : decide ((65536 : Int) < (JJ.size : Int)) = true := decide_eq_true z1
    have z3 : decide (65536 < JJ.size) = true := decide_eq_true (by omega)
    clear hJJ hbig hf HBK
    go_wp2_with fail
    refine HTX.out.mono ?_
    rintro e wa ⟨rfl, h⟩
    have HE10 := Lib.hid (HE9.out.trans h)
    have HT10 := Lib.hid (h.heap HT9.out (fun h => h))
    clear h HE9 HT9 
    clear HTX t0 t1 t2
    have t0 := cellRow HT10.out 0 (.string t.name) rfl
    have t1 := cellRow HT10.out 1 (.string t.sort) rfl
    have t2 := cellRow HT10.out 2 (.slice a t.kids.length cap) rfl
    go_wp2_with fail
    refine (HFM.out _ HE10.out).mono ?_
    rintro e wb ⟨rfl, h⟩
    have HE11 := Lib.hid (HE10.out.trans h)
    have HT11 := Lib.hid (h.heap HT10.out (fun h => h))
    clear h HE10 HT10 
    clear t0 t1 t2
    have t0 := cellRow HT11.out 0 (.string t.name) rfl
    have t1 := cellRow HT11.out 1 (.string t.sort) rfl
    have t2 := cellRow HT11.out 2 (.slice a t.kids.length cap) rfl
    go_wp2_with fail
    refine (HRT.out _ HE11.out).mono ?_
    rintro e wd ⟨rfl, h⟩
    have HE12 := Lib.hid (HE11.out.trans h)
    rw [show nul = (⟨#[]⟩ : ByteArray) from rfl]
    go_wp2_with fail
    refine bodyPost_ret (v := .bool true) (by simp [results, Tryz.results5, go_sem]) rfl ?_
    exact ⟨rfl, HE12.out⟩
  have hf : fitF (txT t) = (bs (txT t), 0) := by unfold fitF; rw [if_neg hbig]
  rw [hf] at HTX
  dsimp only at HTX
  have HBK2 := Lib.hid (HBK.out (by omega))
  have HPB := Lib.hid (fun W (hW : Ext w W) => parse_x (bs (txT t)) W (HASC.out W hW) (HAT.out.ext hW) (by omega) _ HBK2.out)
  dsimp only at HPB
  obtain ⟨JJ, hJJ⟩ : ∃ J, bs (txT t) = J := ⟨_, rfl⟩
  rw [hJJ] at HRT hfz HTX HPB
  have z1 : ¬ (65536 : Int) < (JJ.size : Int) := by omega
  have z2 : decide ((65536 : Int) < (JJ.size : Int)) = false := decide_eq_false z1
  have z3 : decide (65536 < JJ.size) = false := decide_eq_false (by omega)
  clear hJJ hbig hf HBK HBK2
  go_wp2_with fail
  refine HTX.out.mono ?_
  rintro e wa ⟨rfl, h⟩
  have HE10 := Lib.hid (HE9.out.trans h)
  have HT10 := Lib.hid (h.heap HT9.out (fun h => h))
  clear h HE9 HT9 
  clear HTX t0 t1 t2
  have t0 := cellRow HT10.out 0 (.string t.name) rfl
  have t1 := cellRow HT10.out 1 (.string t.sort) rfl
  have t2 := cellRow HT10.out 2 (.slice a t.kids.length cap) rfl
  go_wp2_with fail
  refine (HFM.out _ HE10.out).mono ?_
  rintro e wb ⟨rfl, h⟩
  have HE11 := Lib.hid (HE10.out.trans h)
  have HT11 := Lib.hid (h.heap HT10.out (fun h => h))
  clear h HE10 HT10 
  clear t0 t1 t2
  have t0 := cellRow HT11.out 0 (.string t.name) rfl
  have t1 := cellRow HT11.out 1 (.string t.sort) rfl
  have t2 := cellRow HT11.out 2 (.slice a t.kids.length cap) rfl
  go_wp2_with fail
  refine (HRT.out _ HE11.out).mono ?_
  rintro e wd ⟨rfl, h⟩
  have HE12 := Lib.hid (HE11.out.trans h)
  have HT12 := Lib.hid (h.heap HT11.out (fun h => h))
  clear h HE11 HT11 
  clear t0 t1 t2
  go_wp2_with fail
  refine (HPB.out _ HE12.out).mono ?_
  rintro e we ⟨u, rfl, KB13, h⟩
  obtain ⟨ba, bc, hr⟩ := KB13.shape
  subst hr
  have KB13 := Lib.hid (KB13.weaken (fun k hk => hk.2))
  dsimp only [tV]
  have HE13 := Lib.hid (HE12.out.trans h)
  have HT13 := Lib.hid (h.heap HT12.out (fun h => h))
  clear h HE12 HT12 
  clear HPB
  have hz := ((Upd.refl (fun _ => False) we).alloc (.cells #[.string t.name, .string t.sort, .slice ba t.kids.length bc] 24)).alloc (.cells #[.int .i64 0, .int .i64 0] 45)
  have HB14 := Lib.hid (allocOld (alloc0 we (.cells #[.string t.name, .string t.sort, .slice ba t.kids.length bc] 24)) (.cells #[.int .i64 0, .int .i64 0] 45))
  have HPB14 := Lib.hid (alloc_at (we.alloc (.cells #[.string t.name, .string t.sort, .slice ba t.kids.length bc] 24)) (.cells #[.int .i64 0, .int .i64 0] 45) (n := we.heap.size + 1) (by simp))
  have HE14 := Lib.hid (HE13.out.trans hz)
  have HT14 := Lib.hid (hz.heap HT13.out (fun h => h))
  have KB14 := Lib.hid (kup KB13.out hz)
  clear hz HE13 HT13 KB13
  go_upto_region 18 with fail
  obtain ⟨bb, hbb⟩ : ∃ q, we.heap.size = q := ⟨_, rfl⟩
  rw [hbb] at HB14 HPB14
  try rw [hbb]
  generalize ((we.alloc (.cells #[.string t.name, .string t.sort, .slice ba t.kids.length bc] 24)).alloc (.cells #[.int .i64 0, .int .i64 0] 45)) = wf at *
  have b0 := cellRow HB14.out 0 (.string t.name) rfl
  have b1 := cellRow HB14.out 1 (.string t.sort) rfl
  have b2 := cellRow HB14.out 2 (.slice ba t.kids.length bc) rfl
  have p0 := cellRow HPB14.out 0 (.int .i64 0) rfl
  have p1 := cellRow HPB14.out 1 (.int .i64 0) rfl
  have heq0 := fun W => eqP 0 0 W
  have HC := Lib.hid (alloc0 wf (.cells #[.string t.name, .string t.sort, .slice ba t.kids.length bc] 24))
  have hz := (Upd.refl (fun _ => False) wf).alloc (.cells #[.string t.name, .string t.sort, .slice ba t.kids.length bc] 24)
  have HBX := Lib.hid (big_x [t] (.slice (some ⟨wf.heap.size, 0, none⟩) 1 1) (fun k => k < (wf.alloc (.cells #[.string t.name, .string t.sort, .slice ba t.kids.length bc] 24)).heap.size) (wf.alloc (.cells #[.string t.name, .string t.sort, .slice ba t.kids.length bc] 24)) (tl1_row HC.out (by simp) (kup KB14.out hz)) (fun k hk => hk) (by simp))
  rw [HBT.out] at HBX
  go_wp2_with fail
  refine HBX.out.mono ?_
  rintro e wg ⟨rfl, h⟩
  have h := hz.trans h
  have HE15 := Lib.hid (HE14.out.trans h)
  have HT15 := Lib.hid (h.heap HT14.out (fun h => h))
  have HB15 := Lib.hid (h.heap HB14.out (fun h => h))
  have KB15 := Lib.hid (kup KB14.out h)
  clear h HE14 HT14 HB14 KB14
  clear HBX HC b0 b1 b2 hz p0 p1
  have b0 := cellRow HB15.out 0 (.string t.name) rfl
  have b1 := cellRow HB15.out 1 (.string t.sort) rfl
  have b2 := cellRow HB15.out 2 (.slice ba t.kids.length bc) rfl
  have t0 := cellRow HT15.out 0 (.string t.name) rfl
  have t1 := cellRow HT15.out 1 (.string t.sort) rfl
  have t2 := cellRow HT15.out 2 (.slice a t.kids.length cap) rfl
  have HS1 := Lib.hid (same_x t t (.agg #[.string t.name, .string t.sort, .slice ba t.kids.length bc]) (.agg #[.string t.name, .string t.sort, .slice a t.kids.length cap]) _ _ wg (TmR.of KB15.out) ⟨a, cap, rfl, HTL.out.ext HE15.out⟩ (by omega))
  rw [decide_eq_true (rfl : t = t)] at HS1
  go_wp2_with fail
  refine HS1.out.mono ?_
  rintro e wh ⟨rfl, h⟩
  have HE16 := Lib.hid (HE15.out.trans h)
  go_wp2_with fail
  refine bodyPost_ret (v := .bool true) (by simp [results, Tryz.results5, go_sem]) rfl ?_
  exact ⟨rfl, HE16.out⟩

end Go.Proofs.YtjjaknmnhhfjeaaGreatDoor
