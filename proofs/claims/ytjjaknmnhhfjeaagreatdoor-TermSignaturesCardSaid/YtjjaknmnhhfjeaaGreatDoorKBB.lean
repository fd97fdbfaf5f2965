/- The texts Y37 Y52, one behind the other. -/
import Derived.Test.YtjjaknmnhhfjeaaGreatDoorKAW
import Derived.Test.YtjjaknmnhhfjeaaGreatDoorKBA
import Derived.Test.YtjjaknmnhhfjeaaGreatDoorKAO
/- end and Parse of the program. -/
namespace Go.Proofs.YtjjaknmnhhfjeaaGreatDoor
open Go.RowKit Go.Hw Go Go.Sort Go.Proofs Go.ChangeMaps
set_option linter.unusedVariables false
set_option linter.unusedSimpArgs false

open Tm
def endF (l : List Tok) (i : Nat) (b : Bool) : (Int × Int) × Int := if b = false ∧ (tk l i).kind = 5 then ((0, 0), 0) else (((tk l i).line, (tk l i).col), if (tk l i).kind = 5 then 8 else 7)
set_option maxRecDepth 100000 in
set_option maxHeartbeats 4000000 in
theorem end_g (rb : Nat) (la : Option Addr) (lc : Nat) (S : Nat → Prop) (l : List Tok) (i : Nat) (b : Bool) (w : World) (hR : Rd rb la lc S l w i b) (hi : i < l.length) (hl : l.length ≤ 1000000) :
    Calls Tryz.prog 64 #[.pointer (some ⟨rb, 0, none⟩)] w fun e w' => e = .returned (.tuple #[.agg #[.int .i64 (endF l i b).1.1, .int .i64 (endF l i b).1.2], .int .i64 (endF l i b).2]) ∧ Ext w w' := by
  have HV : Hid (endF l i b = if b = false ∧ (tk l i).kind = 5 then ((0, 0), 0) else (((tk l i).line, (tk l i).col), if (tk l i).kind = 5 then 8 else 7)) := Lib.hid rfl
  obtain ⟨V, hV⟩ : ∃ V, endF l i b = V := ⟨_, rfl⟩
  rw [hV] at HV ⊢
  clear hV
  obtain ⟨gg, off, hga, hSg, hat⟩ := (TkR.at_ hR.tk (Nat.lt_of_le_of_lt (Nat.zero_le _) hi)).2
  subst hga
  obtain ⟨q0, q1, q2, q3, q4⟩ := hat i hi
  have HR := Lib.hid hR
  obtain ⟨⟨kd, tx, tn, tl, tc⟩, ht⟩ : ∃ t, tk l i = t := ⟨_, rfl⟩
  rw [ht] at q0 q1 q2 q3 q4
  try rw [ht]
  have i0 : (0 : Int) ≤ (i : Int) := by omega
  have i1 : (i : Int) < (l.length : Int) := by omega
  dsimp only at q0 q1 q2 q3 q4
  clear hat hR
  rw [ht] at HV
  dsimp only at HV
  clear ht
  have HE0 := Lib.hid ((Upd.refl (fun _ => False) w).alloc (.cells #[.int .i64 0, .int .i64 0] 45))
  have HP0 := Lib.hid (alloc0 w (.cells #[.int .i64 0, .int .i64 0] 45))
  have HBR0 := Lib.hid (HE0.out.heap HR.out.box (fun h => h))
  obtain ⟨rp, hrp⟩ : ∃ x, w.heap.size = x := ⟨_, rfl⟩
  rw [hrp] at HP0
  have hs0 := alloc_size w (.cells #[.int .i64 0, .int .i64 0] 45)
  go_enter Tryz.func64, Tryz.ntmps64
  go_upto_region 1 with fail
  try rw [hrp]
  have q0 := HE0.out.cell q0 (fun h => h)
  have q1 := HE0.out.cell q1 (fun h => h)
  have q2 := HE0.out.cell q2 (fun h => h)
  have q3 := HE0.out.cell q3 (fun h => h)
  have q4 := HE0.out.cell q4 (fun h => h)
  obtain ⟨w1, hw1⟩ : ∃ w1, w1 = w.alloc (.cells #[.int .i64 0, .int .i64 0] 45) := ⟨_, rfl⟩
  rw [← hw1] at HE0 HP0 HBR0 q0 q1 q2 q3 q4 hs0 ⊢
  have HBR := HBR0
  clear hw1 HR
  have X0 := fun x : XW w1 => cellRow (x.ext.heap HBR.out (fun h => h)) 0 (.slice (some ⟨gg, off, none⟩) l.length lc) rfl
  have X1 := fun x : XW w1 => cellRow (x.ext.heap HBR.out (fun h => h)) 1 (.int .i64 (i : Int)) rfl
  have X2 := fun x : XW w1 => x.ext.cell q0 (fun h => h)
  have X3 := fun x : XW w1 => x.ext.cell q1 (fun h => h)
  have X4 := fun x : XW w1 => x.ext.cell q2 (fun h => h)
  have X5 := fun x : XW w1 => x.ext.cell q3 (fun h => h)
  have X6 := fun x : XW w1 => x.ext.cell q4 (fun h => h)
  refine wp_region_par (α := Nat) 11 [(11, 2)] [[], [0], [0, 1], [0, 1, 2], [], [4], [4, 5], [4, 5, 6], [0, 1, 2, 3, 4, 5, 6, 7], [0, 1, 2, 3, 4, 5, 6, 7, 8], [], [0, 1, 2, 3, 4, 5, 6, 7, 8, 9, 10]]
    [none, none, none, none, none, none, none, none, none, none, some (annTk w1.heap.size)] [false, false, false, false, false, false, false, false, false, false, true] (by kernel_rfl) (by kernel_rfl) rfl (fun _ _ d _ _ h => by cases d <;> exact h) ?_
  simp only [List.take_succ_cons, List.take_zero, pickO, List.getElem?_cons_zero, List.getElem?_cons_succ]
  iterate 10 (refine can_pure0 rfl (fun K hK => ?_); go_simp; refine hK _ ?_; clear hK K)
  refine can_mem _ rfl (by go_simp) (fun W hW hG K hK => ?_) (fun K x hK => ?_)
  · go_simp
    exact hK W.heap.size _ ((Upd.refl (fun _ => False) W).alloc _) ⟨hW.size, alloc0 _ _⟩
  refine hK _ ?_; clear hK K
  dsimp only [annTk]
  refine can_end (fun W hW hG => ?_)
  obtain ⟨hxs, hxb⟩ := hG _ (List.mem_singleton.2 rfl)
  have HBX := Lib.hid hxb
  have HWW := Lib.hid hW
  have z0 := cellRow hxb 0 (.int .i64 0) rfl
  have z1 := cellRow hxb 1 (.string ⟨#[]⟩) rfl
  have z2 := cellRow hxb 2 (.int .i64 0) rfl
  have z3 := cellRow hxb 3 (.int .i64 0) rfl
  have z4 := cellRow hxb 4 (.int .i64 0) rfl
  have fz := fun j => frozenRow hxb j
  clear hG hxb hW X0 X1 X2 X3 X4 X5 X6
  refine mix_two ?_
  intro K hK
  go_simp
  refine hK _ _ ?_
  clear hK K
  have hrx := st5_heap HBX.out (.int .i64 (kd : Int)) (.string tx) (.int .i64 tn) (.int .i64 tl) (.int .i64 tc)
  have hux := st5_upd W x (.int .i64 (kd : Int)) (.string tx) (.int .i64 tn) (.int .i64 tl) (.int .i64 tc)
  have HRX := Lib.hid hrx
  have HUX := Lib.hid hux
  clear hrx hux z0 z1 z2 z3 z4 fz
  generalize (((((W.setCell ⟨x, 0, none⟩ (.int .i64 (kd : Int))).setCell ⟨x, 1, none⟩ (.string tx)).setCell ⟨x, 2, none⟩ (.int .i64 tn)).setCell ⟨x, 3, none⟩ (.int .i64 tl)).setCell ⟨x, 4, none⟩ (.int .i64 tc)) = w5 at *
  have HE5 : Hid (Ext w1 w5) := Lib.hid (HWW.out.trans' HUX.out (fun j hj e => by omega))
  have k0 := cellRow HRX.out 0 (.int .i64 (kd : Int)) rfl
  have k1 := cellRow HRX.out 1 (.string tx) rfl
  have k2 := cellRow HRX.out 2 (.int .i64 tn) rfl
  have k3 := cellRow HRX.out 3 (.int .i64 tl) rfl
  have k4 := cellRow HRX.out 4 (.int .i64 tc) rfl
  simp only [wpMix]
  have HB5 := Lib.hid (HE5.out.heap HBR.out (fun h => h))
  have HP5 := Lib.hid (HE5.out.heap HP0.out (fun h => h))
  have HF := Lib.hid (HE0.out.trans HE5.out)
  have c0 := cellRow HB5.out 0 (.slice (some ⟨gg, off, none⟩) l.length lc) rfl
  have c1 := cellRow HB5.out 1 (.int .i64 (i : Int)) rfl
  have c2 := cellRow HB5.out 2 (.bool b) rfl
  have p0 := cellRow HP5.out 0 (.int .i64 0) rfl
  have p1 := cellRow HP5.out 1 (.int .i64 0) rfl
  have fp := fun j => frozenRow HP5.out j
  clear HBX HWW HUX HE5 q0 q1 q2 q3 q4
  by_cases h5 : kd = 5
  · subst h5
    cases b
    · have HV2 : Hid (V = ((0, 0), 0)) := Lib.hid (by rw [HV.out, if_pos ⟨rfl, rfl⟩])
      go_wp2_with fail
      have hr2 := st2_heap HP5.out (.int .i64 0) (.int .i64 0)
      have hu2 := st2_upd w5 rp (.int .i64 0) (.int .i64 0)
      have e0 := cellRow hr2 0 _ rfl
      have e1 := cellRow hr2 1 _ rfl
      refine bodyPost_ret (v := .tuple #[.agg #[.int .i64 0, .int .i64 0], .int .i64 0]) (by simp [results, Tryz.results64, go_sem, e0, e1]) rfl ?_
      rw [HV2.out]
      exact ⟨rfl, HF.out.trans' hu2 (fun j hj e => by omega)⟩
    · have HV2 : Hid (V = ((tl, tc), 8)) := Lib.hid (by rw [HV.out, if_neg (fun h => by cases h.1), if_pos rfl])
      go_wp2_with fail
      have hr2 := st2_heap HP5.out (.int .i64 tl) (.int .i64 tc)
      have hu2 := st2_upd w5 rp (.int .i64 tl) (.int .i64 tc)
      have e0 := cellRow hr2 0 _ rfl
      have e1 := cellRow hr2 1 _ rfl
      refine bodyPost_ret (v := .tuple #[.agg #[.int .i64 tl, .int .i64 tc], .int .i64 8]) (by simp [results, Tryz.results64, go_sem, e0, e1]) rfl ?_
      rw [HV2.out]
      exact ⟨rfl, HF.out.trans' hu2 (fun j hj e => by omega)⟩
  · have HV2 : Hid (V = ((tl, tc), 7)) := Lib.hid (by rw [HV.out, if_neg (fun h => h5 h.2), if_neg h5])
    have t5 : ((kd : Int) == 5) = false := beq_eq_false_iff_ne.2 (by omega)
    clear h5
    cases b
    · go_wp2_with fail
      have hr2 := st2_heap HP5.out (.int .i64 tl) (.int .i64 tc)
      have hu2 := st2_upd w5 rp (.int .i64 tl) (.int .i64 tc)
      have e0 := cellRow hr2 0 _ rfl
      have e1 := cellRow hr2 1 _ rfl
      refine bodyPost_ret (v := .tuple #[.agg #[.int .i64 tl, .int .i64 tc], .int .i64 7]) (by simp [results, Tryz.results64, go_sem, e0, e1]) rfl ?_
      rw [HV2.out]
      exact ⟨rfl, HF.out.trans' hu2 (fun j hj e => by omega)⟩
    · go_wp2_with fail
      have hr2 := st2_heap HP5.out (.int .i64 tl) (.int .i64 tc)
      have hu2 := st2_upd w5 rp (.int .i64 tl) (.int .i64 tc)
      have e0 := cellRow hr2 0 _ rfl
      have e1 := cellRow hr2 1 _ rfl
      refine bodyPost_ret (v := .tuple #[.agg #[.int .i64 tl, .int .i64 tc], .int .i64 7]) (by simp [results, Tryz.results64, go_sem, e0, e1]) rfl ?_
      rw [HV2.out]
      exact ⟨rfl, HF.out.trans' hu2 (fun j hj e => by omega)⟩
theorem tok_iP (s : By) (w : World) (htab : AscT w) (hA : AtoiD w) (hs : s.size ≤ 1000000) : Calls Tryz.prog 58 #[.string s] w fun e w' => TokP (w.heap.size + 1) w' e (tokF (wdF iR) s) ∧ Ext w w' := by
  rw [← tokF_iP]
  exact tokens_x iP s w htab (fun i k W _ hk _ hW => pword_x iP (s.extract i k) W (asc_ext htab hW) (.inr (.inr (fun W' hW' => integer_x _ W' ((hA.ext hW).ext hW') (by rw [ByteArray.size_extract]; omega)))))
end Go.Proofs.YtjjaknmnhhfjeaaGreatDoor

/- Signatures are read: a declaration; tokens that are wrong. -/
namespace Go.Proofs.YtjjaknmnhhfjeaaGreatDoor
open Go.RowKit Go.Hw Go Go.Sort Go.Proofs Go.ChangeMaps
set_option linter.unusedVariables false
set_option linter.unusedSimpArgs false

open Tm
theorem nameF_true (l : List Tok) (j : Nat) : nameF l j true = (nul, j, true) := by unfold nameF; rw [if_neg (fun h => by cases h.1)]
theorem takeF_true (l : List Tok) (j : Nat) (s : By) : takeF l j true s = (j, true) := by unfold takeF; rw [if_neg (by simp)]
theorem nameF_bad {l : List Tok} {j : Nat} (h : (tk l j).kind ≠ 1) : nameF l j false = (nul, j, true) ∧ pN l j = .bad j := by
  unfold nameF pN
  rw [if_neg (fun h2 => h h2.2), if_pos h]
  exact ⟨rfl, rfl⟩
theorem nameF_ok {l : List Tok} {j : Nat} (h : (tk l j).kind = 1) : nameF l j false = ((tk l j).text, j + 1, false) ∧ pN l j = .ok (tk l j).text (j + 1) := by
  unfold nameF pN
  rw [if_pos ⟨rfl, h⟩, if_neg (fun h2 => h2 h)]
  exact ⟨rfl, rfl⟩
theorem pD_of {l : List Tok} {i i2 j j5 j6 : Nat} {nm r : By} {b2 b4 b5 b6 : Bool} {ys : List By} (h1 : nameF l i false = (nm, i2, b2)) (h2 : b4 = true ∧ (if b2 = true then PR.bad i2 else pP (pN l) l i2) = .bad j ∨ b4 = false ∧ (if b2 = true then PR.bad i2 else pP (pN l) l i2) = .ok ys j)
    (h3 : takeF l j b4 sAr = (j5, b5)) (h4 : nameF l j5 b5 = (r, j6, b6)) : (b6 = true ∧ pD l i = .bad j6) ∨ (b6 = false ∧ pD l i = .ok (nm, ys, r) j6) := by
  by_cases hk : (tk l i).kind = 1
  · obtain ⟨g1, g2⟩ := nameF_ok hk
    rw [g1] at h1
    injection h1 with e1 e2
    injection e2 with e2 e3
    subst e1; subst e2; subst e3
    rw [if_neg (by decide)] at h2
    unfold pD
    rw [g2]
    dsimp only
    rcases h2 with ⟨rfl, h2⟩ | ⟨rfl, h2⟩
    · rw [takeF_true] at h3
      injection h3 with e1 e2
      subst e1; subst e2
      rw [nameF_true] at h4
      injection h4 with e1 e2
      injection e2 with e2 e3
      subst e2; subst e3
      rw [h2]
      exact .inl ⟨rfl, rfl⟩
    · rw [h2]
      dsimp only
      unfold takeF at h3
      rw [Bool.not_false, Bool.true_and] at h3
      by_cases ha : isB (tk l j) sAr = true
      · rw [if_pos ha] at h3 ⊢
        injection h3 with e1 e2
        subst e1; subst e2
        by_cases hk2 : (tk l (j + 1)).kind = 1
        · obtain ⟨g3, g4⟩ := nameF_ok hk2
          rw [g3] at h4
          injection h4 with e1 e2
          injection e2 with e2 e3
          subst e1; subst e2; subst e3
          rw [g4]
          exact .inr ⟨rfl, rfl⟩
        · obtain ⟨g3, g4⟩ := nameF_bad hk2
          rw [g3] at h4
          injection h4 with e1 e2
          injection e2 with e2 e3
          subst e1; subst e2; subst e3
          rw [g4]
          exact .inl ⟨rfl, rfl⟩
      · rw [if_neg ha] at h3 ⊢
        injection h3 with e1 e2
        subst e1; subst e2
        rw [nameF_true] at h4
        injection h4 with e1 e2
        injection e2 with e2 e3
        subst e2; subst e3
        exact .inl ⟨rfl, rfl⟩
  · obtain ⟨g1, g2⟩ := nameF_bad hk
    rw [g1] at h1
    injection h1 with e1 e2
    injection e2 with e2 e3
    subst e1; subst e2; subst e3
    rw [if_pos rfl] at h2
    rcases h2 with ⟨rfl, h2⟩ | ⟨rfl, h2⟩
    · injection h2 with h2
      subst h2
      rw [takeF_true] at h3
      injection h3 with e1 e2
      subst e1; subst e2
      rw [nameF_true] at h4
      injection h4 with e1 e2
      injection e2 with e2 e3
      subst e2; subst e3
      unfold pD
      rw [g2]
      exact .inl ⟨rfl, rfl⟩
    · cases h2
theorem nulG_r (S : Nat → Prop) (w : World) : SgR S w nulG (.agg #[.slice none 0 0, .slice none 0 0]) :=
  ⟨none, 0, none, 0, rfl, SlR.nil _ _ _, [], SlR.nil _ _ _, fun i hi => absurd hi (Nat.not_lt_zero _)⟩
set_option maxRecDepth 100000 in
set_option maxHeartbeats 8000000 in
theorem psig_e1 (s : By) (R : Sg × (Int × Int) × Int) (ln cl er : Int) (w : World) (hR : R = (nulG, (ln, cl), er)) (her : er ≠ 0) (ht : ∀ W, Ext w W → Calls Tryz.prog 58 #[.string s] W fun e W' => e = .returned (.tuple #[.slice none 0 0, .agg #[.int .i64 ln, .int .i64 cl], .int .i64 er]) ∧ Ext W W') :
    Calls Tryz.prog 19 #[.string s] w fun e w' => ∃ v, e = .returned (.tuple #[v, .agg #[.int .i64 R.2.1.1, .int .i64 R.2.1.2], .int .i64 R.2.2]) ∧ SgR (fun k => w.heap.size ≤ k ∧ k < w'.heap.size) w' R.1 v ∧ Ext w w' := by
  have HV := Lib.hid hR
  have t1 : (er == 0) = false := beq_eq_false_iff_ne.2 her
  have t2 : (er != 0) = true := bne_iff_ne.2 her
  have HE0 := Lib.hid (((Upd.refl (fun _ => False) w).alloc (.cells #[.slice none 0 0, .slice none 0 0] 42)).alloc (.cells #[.int .i64 0, .int .i64 0] 45))
  have HZ0 := Lib.hid (allocOld (alloc0 w (.cells #[.slice none 0 0, .slice none 0 0] 42)) (.cells #[.int .i64 0, .int .i64 0] 45))
  have HQ0 := Lib.hid (alloc_at (w.alloc (.cells #[.slice none 0 0, .slice none 0 0] 42)) (.cells #[.int .i64 0, .int .i64 0] 45) (n := w.heap.size + 1) (by simp))
  have hs0 : ((w.alloc (.cells #[.slice none 0 0, .slice none 0 0] 42)).alloc (.cells #[.int .i64 0, .int .i64 0] 45)).heap.size = w.heap.size + 2 := by simp
  obtain ⟨b0, hb0⟩ : ∃ x, w.heap.size = x := ⟨_, rfl⟩
  rw [hb0] at HZ0 HQ0
  have HTO := Lib.hid (ht ((w.alloc (.cells #[.slice none 0 0, .slice none 0 0] 42)).alloc (.cells #[.int .i64 0, .int .i64 0] 45)) HE0.out)
  clear ht her hR
  go_enter Tryz.func19, Tryz.ntmps19
  go_wp2_with fail
  try rw [hb0]
  generalize ((w.alloc (.cells #[.slice none 0 0, .slice none 0 0] 42)).alloc (.cells #[.int .i64 0, .int .i64 0] 45)) = w1 at *
  refine HTO.out.mono ?_
  rintro e w2 ⟨rfl, hw2⟩
  have HA3 := Lib.hid (alloc0 w2 (.cells #[.int .i64 ln, .int .i64 cl] 45))
  have HE3 := Lib.hid ((HE0.out.trans hw2).alloc (.cells #[.int .i64 ln, .int .i64 cl] 45))
  have HZ3 := Lib.hid (allocOld (hw2.heap HZ0.out (fun h => h)) (.cells #[.int .i64 ln, .int .i64 cl] 45))
  have HQ3 := Lib.hid (allocOld (hw2.heap HQ0.out (fun h => h)) (.cells #[.int .i64 ln, .int .i64 cl] 45))
  have hs2 := hw2.size
  have hs3 := alloc_size w2 (.cells #[.int .i64 ln, .int .i64 cl] 45)
  clear hw2 HTO
  go_upto_region 3 with fail
  obtain ⟨ab, hab⟩ : ∃ x, w2.heap.size = x := ⟨_, rfl⟩
  rw [hab] at HA3
  try rw [hab]
  generalize w2.alloc (.cells #[.int .i64 ln, .int .i64 cl] 45) = w3 at *
  have z0 := cellRow HZ3.out 0 (.slice none 0 0) rfl
  have z1 := cellRow HZ3.out 1 (.slice none 0 0) rfl
  have p0 := cellRow HQ3.out 0 (.int .i64 0) rfl
  have p1 := cellRow HQ3.out 1 (.int .i64 0) rfl
  have a0 := cellRow HA3.out 0 (.int .i64 ln) rfl
  have a1 := cellRow HA3.out 1 (.int .i64 cl) rfl
  have fz := fun j => frozenRow HZ3.out j
  have fp := fun j => frozenRow HQ3.out j
  go_region
  go_wp2_with fail
  have hz := st2_heap HZ3.out (.slice none 0 0) (.slice none 0 0)
  have huz := st2_upd w3 b0 (.slice none 0 0) (.slice none 0 0)
  have hq := st2_heap (huz.heap HQ3.out (by omega)) (.int .i64 (ln)) (.int .i64 (cl))
  have huq := st2_upd (((w3).setCell ⟨b0, 0, none⟩ (.slice none 0 0)).setCell ⟨b0, 1, none⟩ (.slice none 0 0)) (b0 + 1) (.int .i64 (ln)) (.int .i64 (cl))
  have hz2 := huq.heap hz (by omega)
  have e0 := cellRow hz2 0 _ rfl
  have e1 := cellRow hz2 1 _ rfl
  have e3 := cellRow hq 0 _ rfl
  have e4 := cellRow hq 1 _ rfl
  refine bodyPost_ret (v := .tuple #[.agg #[.slice none 0 0, .slice none 0 0], .agg #[.int .i64 (ln), .int .i64 (cl)], .int .i64 (er)]) (by simp [results, Tryz.results19, go_sem, e0, e1, e3, e4]) rfl ?_
  rw [HV.out]
  exact ⟨.agg #[.slice none 0 0, .slice none 0 0], rfl, nulG_r _ _, ((HE3.out.trans' huz (fun k hk e => by omega)).trans' huq (fun k hk e => by omega)).drew⟩

end Go.Proofs.YtjjaknmnhhfjeaaGreatDoor
