/- The texts Y10 Y11 Y12 Y13, one behind the other. -/
import Derived.Test.YtjjaknmnhhfjeaaGreatDoorKAR
import Derived.Test.YtjjaknmnhhfjeaaGreatDoorKAD
import Derived.Deep.RegionHeld3
/- The reader: is, take, name. -/
namespace Go.Proofs.YtjjaknmnhhfjeaaGreatDoor
open Go.RowKit Go.Hw Go
set_option linter.unusedVariables false
set_option linter.unusedSimpArgs false

open Tm
structure Rd (rb : Nat) (la : Option Addr) (lc : Nat) (S : Nat → Prop) (l : List Tok) (W : World) (i : Nat) (b : Bool) : Prop where
  box : W.heap[rb]? = some (.cells #[.slice la l.length lc, .int .i64 (i : Int), .bool b] 103 (0, 0))
  tk : TkR S W (.slice la l.length lc) l
  apart : ¬ S rb
section
variable {rb : Nat} {la : Option Addr} {lc : Nat} {S : Nat → Prop} {l : List Tok} {W W' : World} {i i' : Nat} {b b' : Bool}
theorem Rd.ext (h : Rd rb la lc S l W i b) (hu : Ext W W') : Rd rb la lc S l W' i b := ⟨hu.heap h.box (fun h => h), h.tk.ext hu, h.apart⟩
theorem Rd.to (h : Rd rb la lc S l W i b) (hu : Upd (fun k => k = rb) W W') (hb : W'.heap[rb]? = some (.cells #[.slice la l.length lc, .int .i64 (i' : Int), .bool b'] 103 (0, 0))) : Rd rb la lc S l W' i' b' := ⟨hb, h.tk.kept hu (fun k hk e => h.apart (by rw [← show k = rb from e]; exact hk)), h.apart⟩
end
def annTk (n0 : Nat) : Ann Nat := ⟨fun x => .pointer (some ⟨x, 0, none⟩), fun x W => n0 ≤ x ∧ W.heap[x]? = some (.cells #[.int .i64 0, .string ⟨#[]⟩, .int .i64 0, .int .i64 0, .int .i64 0] 114 (0, 0)), fun x W W' h hE => ⟨h.1, hE.heap h.2 (fun h => h)⟩⟩
set_option maxRecDepth 100000 in
set_option maxHeartbeats 4000000 in
theorem is_x (rb : Nat) (la : Option Addr) (lc : Nat) (S : Nat → Prop) (l : List Tok) (i : Nat) (b : Bool) (s : By) (w : World) (hR : Rd rb la lc S l w i b) (hi : i < l.length) (hl : l.length ≤ 1000000) :
    Calls Tryz.prog 59 #[.pointer (some ⟨rb, 0, none⟩), .string s] w fun e w' => e = .returned (.bool (!b && isB (tk l i) s)) ∧ Ext w w' := by
  obtain ⟨gg, off, hga, hSg, hat⟩ := (TkR.at_ hR.tk (Nat.lt_of_le_of_lt (Nat.zero_le _) hi)).2
  subst hga
  obtain ⟨q0, q1, q2, q3, q4⟩ := hat i hi
  have HR := Lib.hid hR
  obtain ⟨⟨kd, tx, tn, tl, tc⟩, ht⟩ : ∃ t, tk l i = t := ⟨_, rfl⟩
  rw [ht] at q0 q1 q2 q3 q4
  try rw [ht]
  have i0 : (0 : Int) ≤ (i : Int) := by omega
  have i1 : (i : Int) < (l.length : Int) := by omega
  dsimp only at q0 q1 q2 q3 q4
  clear hat hR
  have HV : Hid ((!b && isB ⟨kd, tx, tn, tl, tc⟩ s) = (!b && ((decide (kd = 4) || decide (kd = 3)) && decide (tx = s)))) := Lib.hid rfl
  obtain ⟨V, hV⟩ : ∃ V, (!b && isB ⟨kd, tx, tn, tl, tc⟩ s) = V := ⟨_, rfl⟩
  rw [hV] at HV ⊢
  clear hV ht
  go_enter Tryz.func59, Tryz.ntmps59
  have HBR := Lib.hid HR.out.box
  obtain ⟨w1, hw1⟩ : ∃ w1, w1 = w := ⟨_, rfl⟩
  have HW1 : Hid (Ext w w1) := Lib.hid (by rw [hw1]; exact Upd.refl _ _)
  rw [← hw1] at HBR q0 q1 q2 q3 q4 ⊢
  clear hw1 HR
  have X0 := fun x : XW w1 => cellRow (x.ext.heap HBR.out (fun h => h)) 0 (.slice (some ⟨gg, off, none⟩) l.length lc) rfl
  have X1 := fun x : XW w1 => cellRow (x.ext.heap HBR.out (fun h => h)) 1 (.int .i64 (i : Int)) rfl
  have X2 := fun x : XW w1 => x.ext.cell q0 (fun h => h)
  have X3 := fun x : XW w1 => x.ext.cell q1 (fun h => h)
  have X4 := fun x : XW w1 => x.ext.cell q2 (fun h => h)
  have X5 := fun x : XW w1 => x.ext.cell q3 (fun h => h)
  have X6 := fun x : XW w1 => x.ext.cell q4 (fun h => h)
  go_wp2_with fail
  refine wp_region_par (α := Nat) 11 [(11, 2)] [[], [0], [0, 1], [0, 1, 2], [], [4], [4, 5], [4, 5, 6], [0, 1, 2, 3, 4, 5, 6, 7], [0, 1, 2, 3, 4, 5, 6, 7, 8], [], [0, 1, 2, 3, 4, 5, 6, 7, 8, 9, 10]]
    [none, none, none, none, none, none, none, none, none, none, some (annTk w1.heap.size)] [false, false, false, false, false, false, false, false, false, false, true] (by kernel_rfl) (by kernel_rfl) rfl (fun _ _ d _ _ h => by cases d <;> exact h) ?_
  simp only [List.take_succ_cons, List.take_zero, pickO, List.getElem?_cons_zero, List.getElem?_cons_succ]
  iterate 10 (refine can_pure0 rfl (fun K hK => ?_); go_simp; refine hK _ ?_; clear hK K)
  refine can_mem _ rfl (by go_simp) (fun W hW hG K hK => ?_) (fun K x hK => ?_)
  · go_simp
    exact hK W.heap.size _ ((Upd.refl (fun _ => False) W).alloc _) ⟨hW.size, alloc0 _ _⟩
  refine hK _ ?_; clear hK K
  dsimp only [annTk]
  refine can_end (fun W hW hG => ?_)
  obtain ⟨hxs, hxb⟩ := hG _ (List.mem_singleton.2 rfl)
  have HBX := Lib.hid hxb
  have HWW := Lib.hid hW
  have z0 := cellRow hxb 0 (.int .i64 0) rfl
  have z1 := cellRow hxb 1 (.string ⟨#[]⟩) rfl
  have z2 := cellRow hxb 2 (.int .i64 0) rfl
  have z3 := cellRow hxb 3 (.int .i64 0) rfl
  have z4 := cellRow hxb 4 (.int .i64 0) rfl
  have fz := fun j => frozenRow hxb j
  clear hG hxb hW X0 X1 X2 X3 X4 X5 X6
  refine mix_two ?_
  intro K hK
  go_simp
  refine hK _ _ ?_
  clear hK K
  have hrx := st5_heap HBX.out (.int .i64 (kd : Int)) (.string tx) (.int .i64 tn) (.int .i64 tl) (.int .i64 tc)
  have hux := st5_upd W x (.int .i64 (kd : Int)) (.string tx) (.int .i64 tn) (.int .i64 tl) (.int .i64 tc)
  have HRX := Lib.hid hrx
  have HUX := Lib.hid hux
  clear hrx hux z0 z1 z2 z3 z4 fz
  generalize (((((W.setCell ⟨x, 0, none⟩ (.int .i64 (kd : Int))).setCell ⟨x, 1, none⟩ (.string tx)).setCell ⟨x, 2, none⟩ (.int .i64 tn)).setCell ⟨x, 3, none⟩ (.int .i64 tl)).setCell ⟨x, 4, none⟩ (.int .i64 tc)) = w5 at *
  have HE5 : Hid (Ext w1 w5) := Lib.hid (HWW.out.trans' HUX.out (fun j hj e => by omega))
  have k0 := cellRow HRX.out 0 (.int .i64 (kd : Int)) rfl
  have k1 := cellRow HRX.out 1 (.string tx) rfl
  have k2 := cellRow HRX.out 2 (.int .i64 tn) rfl
  have k3 := cellRow HRX.out 3 (.int .i64 tl) rfl
  have k4 := cellRow HRX.out 4 (.int .i64 tc) rfl
  simp only [wpMix]
  have HB5 := Lib.hid (HE5.out.heap HBR.out (fun h => h))
  have HF := HE5
  have c0 := cellRow HB5.out 0 (.slice (some ⟨gg, off, none⟩) l.length lc) rfl
  have c1 := cellRow HB5.out 1 (.int .i64 (i : Int)) rfl
  have c2 := cellRow HB5.out 2 (.bool b) rfl
  clear HBX HWW HUX HE5 q0 q1 q2 q3 q4
  cases b
  case true =>
    have HV2 : Hid (V = false) := Lib.hid (by rw [HV.out]; rfl)
    go_wp2_with fail
    go_ret
    rw [HV2.out]
    exact ⟨rfl, HF.out⟩
  have e9 := str_dec tx s
  by_cases h4 : kd = 4
  · subst h4
    have HV2 : Hid (V = decide (tx = s)) := Lib.hid (by rw [HV.out]; simp)
    obtain ⟨b2, hb2⟩ : ∃ b, decide (tx = s) = b := ⟨_, rfl⟩
    rw [hb2] at HV2 e9
    clear HV hb2
    go_wp2_with fail
    go_ret
    rw [HV2.out]
    exact ⟨rfl, HF.out⟩
  by_cases h3 : kd = 3
  · subst h3
    have HV2 : Hid (V = decide (tx = s)) := Lib.hid (by rw [HV.out]; simp)
    obtain ⟨b2, hb2⟩ : ∃ b, decide (tx = s) = b := ⟨_, rfl⟩
    rw [hb2] at HV2 e9
    clear HV hb2
    go_wp2_with fail
    go_ret
    rw [HV2.out]
    exact ⟨rfl, HF.out⟩
  have HV2 : Hid (V = false) := Lib.hid (by rw [HV.out, decide_eq_false h4, decide_eq_false h3]; rfl)
  have t4 : ((kd : Int) == 4) = false := beq_eq_false_iff_ne.2 (by omega)
  have t3 : ((kd : Int) == 3) = false := beq_eq_false_iff_ne.2 (by omega)
  go_wp2_with fail
  go_ret
  rw [HV2.out]
  exact ⟨rfl, HF.out⟩
def takeF (l : List Tok) (i : Nat) (b : Bool) (s : By) : Nat × Bool := if (!b && isB (tk l i) s) = true then (i + 1, false) else (i, true)
def RdP (rb : Nat) (la : Option Addr) (lc : Nat) (S : Nat → Prop) (l : List Tok) (w w' : World) (p : Nat × Bool) : Prop := Upd (fun k => k = rb) w w' ∧ Rd rb la lc S l w' p.1 p.2
set_option maxRecDepth 100000 in
set_option maxHeartbeats 2000000 in
theorem take_x (rb : Nat) (la : Option Addr) (lc : Nat) (S : Nat → Prop) (l : List Tok) (i : Nat) (b : Bool) (s : By) (w : World) (hR : Rd rb la lc S l w i b) (hi : i < l.length) (hl : l.length ≤ 1000000) :
    Calls Tryz.prog 63 #[.pointer (some ⟨rb, 0, none⟩), .string s] w fun e w' => e = .returned (.tuple #[]) ∧ RdP rb la lc S l w w' (takeF l i b s) := by
  have HR := Lib.hid hR
  have HI := Lib.hid (is_x rb la lc S l i b s w hR hi hl)
  have HV : Hid (takeF l i b s = if (!b && isB (tk l i) s) = true then (i + 1, false) else (i, true)) := Lib.hid rfl
  have HVB : Hid ((!b && isB (tk l i) s) = true → b = false) := Lib.hid (fun h => by cases b; rfl; simp at h)
  obtain ⟨V, hV⟩ : ∃ V, takeF l i b s = V := ⟨_, rfl⟩
  rw [hV] at HV ⊢
  obtain ⟨c, hc⟩ : ∃ c, (!b && isB (tk l i) s) = c := ⟨_, rfl⟩
  rw [hc] at HI HV HVB
  clear hV hc hR
  go_enter Tryz.func63, Tryz.ntmps63
  go_wp2_with fail
  refine HI.out.mono ?_
  rintro e w4 ⟨rfl, hw4⟩
  have HR4 := Lib.hid (HR.out.ext hw4)
  have H4 := Lib.hid hw4
  have HB4 := Lib.hid HR4.out.box
  clear hw4 HI
  have c0 := cellRow HB4.out 0 (.slice la l.length lc) rfl
  have c1 := cellRow HB4.out 1 (.int .i64 (i : Int)) rfl
  have c2 := cellRow HB4.out 2 (.bool b) rfl
  have fr := fun j => frozenRow HB4.out j
  cases c
  · have HV2 : Hid (V = (i, true)) := Lib.hid (by rw [HV.out]; rfl)
    have hb := setBlock HB4.out 2 (.bool true)
    have hu := (Upd.refl (fun k => k = rb) w4).setCell (p := ⟨rb, 2, none⟩) (.inl rfl) (.bool true)
    have HB := Lib.hid hb
    have HU := Lib.hid hu
    clear hb hu
    go_wp2_with fail
    refine bodyPost_ret (v := .tuple #[]) (by simp [results, Tryz.results63, go_sem]) rfl ?_
    rw [HV2.out]
    exact ⟨rfl, (H4.out.mono (fun _ _ h => h.elim)).trans HU.out, HR4.out.to HU.out (by simpa using HB.out)⟩
  · have HV2 : Hid (V = (i + 1, false)) := Lib.hid (by rw [HV.out]; rfl)
    have hbf := HVB.out (by simp)
    subst hbf
    have hw1 : IntKind.i64.wrap ((i : Int) + 1) = (i : Int) + 1 := IntWalk.i64_in _ (by omega)
    have hb := setBlock HB4.out 1 (.int .i64 ((i : Int) + 1))
    have hu := (Upd.refl (fun k => k = rb) w4).setCell (p := ⟨rb, 1, none⟩) (.inl rfl) (.int .i64 ((i : Int) + 1))
    have HB := Lib.hid hb
    have HU := Lib.hid hu
    clear hb hu
    go_wp2_with fail
    go_end0
    rw [HV2.out]
    exact ⟨rfl, (H4.out.mono (fun _ _ h => h.elim)).trans HU.out, HR4.out.to HU.out (by simpa using HB.out)⟩
def nameF (l : List Tok) (i : Nat) (b : Bool) : By × Nat × Bool := if b = false ∧ (tk l i).kind = 1 then ((tk l i).text, i + 1, false) else (nul, i, true)
set_option maxRecDepth 100000 in
set_option maxHeartbeats 2000000 in
theorem name_x (rb : Nat) (la : Option Addr) (lc : Nat) (S : Nat → Prop) (l : List Tok) (i : Nat) (b : Bool) (w : World) (hR : Rd rb la lc S l w i b) (hi : i < l.length) (hl : l.length ≤ 1000000) :
    Calls Tryz.prog 60 #[.pointer (some ⟨rb, 0, none⟩)] w fun e w' => e = .returned (.string (nameF l i b).1) ∧ RdP rb la lc S l w w' (nameF l i b).2 := by
  obtain ⟨gg, off, hga, hSg, hat⟩ := (TkR.at_ hR.tk (Nat.lt_of_le_of_lt (Nat.zero_le _) hi)).2
  subst hga
  obtain ⟨q0, q1, q2, q3, q4⟩ := hat i hi
  have HR := Lib.hid hR
  obtain ⟨⟨kd, tx, tn, tl, tc⟩, ht⟩ : ∃ t, tk l i = t := ⟨_, rfl⟩
  rw [ht] at q0 q1 q2 q3 q4
  try rw [ht]
  have i0 : (0 : Int) ≤ (i : Int) := by omega
  have i1 : (i : Int) < (l.length : Int) := by omega
  dsimp only at q0 q1 q2 q3 q4
  clear hat hR
  have HV : Hid (nameF l i b = if b = false ∧ (tk l i).kind = 1 then ((tk l i).text, i + 1, false) else (nul, i, true)) := Lib.hid rfl
  obtain ⟨V, hV⟩ : ∃ V, nameF l i b = V := ⟨_, rfl⟩
  rw [hV] at HV ⊢
  rw [ht] at HV
  dsimp only at HV
  clear hV ht
  have HB := Lib.hid HR.out.box
  go_enter Tryz.func60, Tryz.ntmps60
  have c0 := cellRow HB.out 0 (.slice (some ⟨gg, off, none⟩) l.length lc) rfl
  have c1 := cellRow HB.out 1 (.int .i64 (i : Int)) rfl
  have c2 := cellRow HB.out 2 (.bool b) rfl
  have fr := fun j => frozenRow HB.out j
  have c0 := c0
  by_cases hok : b = false ∧ kd = 1
  · obtain ⟨rfl, rfl⟩ := hok
    have HV2 : Hid (V = (tx, i + 1, false)) := Lib.hid (by rw [HV.out, if_pos ⟨rfl, rfl⟩])
    have hw1 : IntKind.i64.wrap ((i : Int) + 1) = (i : Int) + 1 := IntWalk.i64_in _ (by omega)
    have hw2 : IntKind.i64.wrap ((i : Int) + 1 - 1) = (i : Int) := by rw [IntWalk.i64_in _ (by omega)]; omega
    go_upto_region 1 with fail
    go_quiet (fail)
    have HD := Lib.hid ((Upd.refl (fun _ => False) w).drewN' nq)
    have HRD := Lib.hid (HR.out.ext HD.out)
    have HBD := Lib.hid HRD.out.box
    have q1 := HD.out.cell q1 (fun h => h)
    clear c0 c1 c2 fr q0 q2 q3 q4
    generalize w.drewN nq = wd at *
    have c0 := cellRow HBD.out 0 (.slice (some ⟨gg, off, none⟩) l.length lc) rfl
    have c1 := cellRow HBD.out 1 (.int .i64 (i : Int)) rfl
    have c2 := cellRow HBD.out 2 (.bool false) rfl
    have fr := fun j => frozenRow HBD.out j
    go_upto_region 5 with fail
    have hb := setBlock HBD.out 1 (.int .i64 ((i : Int) + 1))
    have hu := (Upd.refl (fun k => k = rb) wd).setCell (p := ⟨rb, 1, none⟩) (.inl rfl) (.int .i64 ((i : Int) + 1))
    have hne : gg ≠ rb := fun e => HRD.out.apart (by rw [← e]; exact hSg)
    have q1 := hu.cell q1 hne
    have HB8 : Hid ((wd.setCell ⟨rb, 1, none⟩ (.int .i64 ((i : Int) + 1))).heap[rb]? = some (.cells #[.slice (some ⟨gg, off, none⟩) l.length lc, .int .i64 ((i : Int) + 1), .bool false] 103 (0, 0))) := Lib.hid (by simpa using hb)
    have HU8 := Lib.hid hu
    generalize wd.setCell ⟨rb, 1, none⟩ (.int .i64 ((i : Int) + 1)) = w8 at *
    clear hb hu c0 c1 c2 fr
    have c0 := cellRow HB8.out 0 (.slice (some ⟨gg, off, none⟩) l.length lc) rfl
    have c1 := cellRow HB8.out 1 (.int .i64 ((i : Int) + 1)) rfl
    have c2 := cellRow HB8.out 2 (.bool false) rfl
    go_quiet (fail)
    have HU9 := Lib.hid (((HD.out.mono (fun _ _ h => h.elim)).trans HU8.out).drewN' nq)
    have HB9 := Lib.hid (((Upd.refl (fun _ => False) w8).drewN' nq).heap HB8.out (fun h => h))
    go_wp2_with fail
    go_ret
    rw [HV2.out]
    exact ⟨rfl, HU9.out, HR.out.to HU9.out HB9.out⟩
  · have HV2 : Hid (V = (nul, i, true)) := Lib.hid (by rw [HV.out, if_neg hok])
    have t1 : b = false → ((kd : Int) == 1) = false ∧ ((kd : Int) != 1) = true := fun hb => ⟨beq_eq_false_iff_ne.2 (fun e => hok ⟨hb, by omega⟩), bne_iff_ne.2 (fun e => hok ⟨hb, by omega⟩)⟩
    clear hok HV
    go_upto_region 1 with fail
    cases b
    · obtain ⟨t1, t2⟩ := t1 rfl
      go_quiet (fail)
      have HD := Lib.hid ((Upd.refl (fun _ => False) w).drewN' nq)
      have HRD := Lib.hid (HR.out.ext HD.out)
      have HBD := Lib.hid HRD.out.box
      clear c0 c1 c2 fr q0 q1 q2 q3 q4
      generalize w.drewN nq = wd at *
      have c0 := cellRow HBD.out 0 (.slice (some ⟨gg, off, none⟩) l.length lc) rfl
      have c1 := cellRow HBD.out 1 (.int .i64 (i : Int)) rfl
      have c2 := cellRow HBD.out 2 (.bool false) rfl
      have fr := fun j => frozenRow HBD.out j
      have hb := setBlock HBD.out 2 (.bool true)
      have hu := (Upd.refl (fun k => k = rb) wd).setCell (p := ⟨rb, 2, none⟩) (.inl rfl) (.bool true)
      have HB := Lib.hid hb
      have HU := Lib.hid hu
      clear hb hu
      go_wp2_with fail
      go_ret
      rw [HV2.out]
      exact ⟨rfl, (HD.out.mono (fun _ _ h => h.elim)).trans HU.out, HRD.out.to HU.out (by simpa using HB.out)⟩
    · go_quiet (fail)
      have HD := Lib.hid ((Upd.refl (fun _ => False) w).drewN' nq)
      have HRD := Lib.hid (HR.out.ext HD.out)
      have HBD := Lib.hid HRD.out.box
      clear c0 c1 c2 fr q0 q1 q2 q3 q4
      generalize w.drewN nq = wd at *
      have c0 := cellRow HBD.out 0 (.slice (some ⟨gg, off, none⟩) l.length lc) rfl
      have c1 := cellRow HBD.out 1 (.int .i64 (i : Int)) rfl
      have c2 := cellRow HBD.out 2 (.bool true) rfl
      have fr := fun j => frozenRow HBD.out j
      have hb := setBlock HBD.out 2 (.bool true)
      have hu := (Upd.refl (fun k => k = rb) wd).setCell (p := ⟨rb, 2, none⟩) (.inl rfl) (.bool true)
      have HB := Lib.hid hb
      have HU := Lib.hid hu
      clear hb hu
      go_wp2_with fail
      go_ret
      rw [HV2.out]
      exact ⟨rfl, (HD.out.mono (fun _ _ h => h.elim)).trans HU.out, HRD.out.to HU.out (by simpa using HB.out)⟩

end Go.Proofs.YtjjaknmnhhfjeaaGreatDoor

/- A list in parentheses. -/
namespace Go.Proofs.YtjjaknmnhhfjeaaGreatDoor
open Go.RowKit Go.Hw Go
set_option linter.unusedVariables false
set_option linter.unusedSimpArgs false

open Tm
def ElP {α : Type} (K : List α → Nat → Bool → World → Prop) (xs : List α) (r : PR α) (W : World) : Prop := match r with
  | .ok x j => K (xs ++ [x]) j false W
  | .bad j => ∃ ys, K ys j true W
def LsP {α : Type} (K : List α → Nat → Bool → World → Prop) (r : PR (List α)) (W : World) : Prop := match r with
  | .ok xs j => K xs j false W
  | .bad j => ∃ ys, K ys j true W
set_option maxRecDepth 100000 in
set_option maxHeartbeats 4000000 in
theorem list111_x {α : Type} (el : Nat → PR α) (K : List α → Nat → Bool → World → Prop) (K0 : List α → Nat → World → Prop) (rb : Nat) (la : Option Addr) (lc : Nat) (S : Nat → Prop) (l : List Tok) (tb rx : Nat) (hE : Ended l) (hf : Fwd l el) (hl : l.length ≤ 1000000)
    (hK1 : ∀ xs i b W, K xs i b W → Rd rb la lc S l W i b)
    (hK2 : ∀ xs i b W W' i' b', K xs i b W → i ≤ i' → (b = true → b' = true) → Upd (fun k => k = rb) W W' → Rd rb la lc S l W' i' b' → K xs i' b' W')
    (hK0 : ∀ xs i W W', K xs i false W → Upd (fun k => k = rb) W W' → Rd rb la lc S l W' i true → K0 xs i W')
    (h1 : ∀ xs i W, K xs i false W → i < l.length → Calls Tryz.prog 111 #[.pointer (some ⟨tb, 0, none⟩), .pointer (some ⟨rx, 0, none⟩)] W fun e W' => e = .returned (.tuple #[]) ∧ ElP K xs (el i) W')
    (h2 : ∀ xs i W, K0 xs i W → i < l.length → Calls Tryz.prog 111 #[.pointer (some ⟨tb, 0, none⟩), .pointer (some ⟨rx, 0, none⟩)] W fun e W' => e = .returned (.tuple #[]) ∧ ∃ ys, K ys i true W')
    (i : Nat) (b : Bool) (w : World) (h0 : K [] i b w) (hi : i < l.length) :
    Calls Tryz.prog 61 #[.pointer (some ⟨rb, 0, none⟩), .func (.func 111) #[] #[.pointer (some ⟨tb, 0, none⟩), .pointer (some ⟨rx, 0, none⟩)]] w fun e w' => e = .returned (.tuple #[]) ∧ LsP K (if b = true then .bad i else pP el l i) w' := by
  have hK1 := Lib.hid hK1
  have hK2 := Lib.hid hK2
  have hK0 := Lib.hid hK0
  have h1 := Lib.hid h1
  have h2 := Lib.hid h2
  have hf := Lib.hid hf
  have hE := Lib.hid hE
  have H0 := Lib.hid h0
  obtain ⟨R, hR⟩ : ∃ R, (if b = true then .bad i else pP el l i) = R := ⟨_, rfl⟩
  rw [hR]
  have HR := Lib.hid hR
  have HTK := Lib.hid (take_x rb la lc S l i b sLp w (hK1.out _ _ _ _ h0) hi hl)
  have hs1 : (⟨#[40]⟩ : By) = sLp := rfl
  have heg : ∀ args W, (callFunc 111 args).run Tryz.prog W = .ok (.enter 111 args) W := enters_of Tryz.func111 (by kernel_rfl) rfl
  obtain ⟨⟨i1, b1⟩, htk⟩ : ∃ p, takeF l i b sLp = p := ⟨_, rfl⟩
  rw [htk] at HTK
  have HII : Hid (i ≤ i1 ∧ (b = true → b1 = true)) := Lib.hid (by
    unfold takeF at htk
    split at htk
    · rename_i hc
      injection htk with e1 e2
      refine ⟨by omega, fun hb => ?_⟩
      rw [hb] at hc
      simp at hc
    · injection htk with e1 e2
      exact ⟨by omega, fun _ => e2.symm⟩)
  have HST : Hid (i1 < l.length ∧ R = (if b1 = true then .bad i1 else pL el l (l.length - i) i1 true []) ∧ l.length - i1 ≤ l.length - i) := Lib.hid (by
    rw [← hR]
    unfold takeF at htk
    unfold pP
    cases b
    · rw [Bool.not_false, Bool.true_and] at htk
      rw [if_neg (by decide)]
      by_cases hc : isB (tk l i) sLp = true
      · rw [if_pos hc] at htk ⊢
        injection htk with e1 e2
        subst e1; subst e2
        exact ⟨hE.out.isB hi hc, rfl, by omega⟩
      · rw [if_neg hc] at htk ⊢
        injection htk with e1 e2
        subst e1; subst e2
        exact ⟨hi, rfl, Nat.le_refl _⟩
    · rw [if_neg (by simp)] at htk
      injection htk with e1 e2
      subst e1; subst e2
      exact ⟨hi, rfl, Nat.le_refl _⟩)
  clear h0 hR htk HR
  go_enter Tryz.func61, Tryz.ntmps61
  rw [hs1]
  go_wp2_with fail
  refine HTK.out.mono ?_
  rintro e w4 ⟨rfl, hu4, hr4⟩
  have HK4 := Lib.hid (hK2.out _ _ _ _ _ _ _ H0.out HII.out.1 HII.out.2 hu4 hr4)
  obtain ⟨hi1, hR1, hm1⟩ := HST.out
  have HR1 := Lib.hid hR1
  clear hu4 hr4 HTK H0 HST hR1 hs1
  go_wp2_with fail
  go_loopg [4] (if b1 = true then 0 else l.length - i1) (fun gk x4 wr => ∃ (xs : List α) (i : Nat) (b : Bool) (m : Nat) (first : Bool), x4 = .bool first ∧ gk = (if b = true then 0 else l.length - i) ∧ i < l.length ∧ l.length - i ≤ m ∧ Hid (K xs i b wr) ∧ Hid (R = (if b = true then .bad i else pL el l m i first xs)))
  case atStart => exact ⟨[], i1, b1, l.length - i, true, rfl, rfl, hi1, hm1, HK4, HR1⟩
  case round =>
    clear HK4 HR1 hi1 hm1 hi
    obtain ⟨xs, i, b, m, first, rfl, rfl, hi, hm, HK, HR⟩ := hrel
    have HRd := Lib.hid (hK1.out _ _ _ _ HK.out)
    have HBx := Lib.hid HRd.out.box
    have c0 := cellRow HBx.out 0 (.slice la l.length lc) rfl
    have c1 := cellRow HBx.out 1 (.int .i64 (i : Int)) rfl
    have c2 := cellRow HBx.out 2 (.bool b) rfl
    have hs2 : (⟨#[41]⟩ : By) = sRp := rfl
    have hs3 : (⟨#[44]⟩ : By) = sCm := rfl
    cases b
    case true =>
      have HR2 : Hid (R = .bad i) := Lib.hid (by rw [HR.out, if_pos rfl])
      have HTK := Lib.hid (take_x rb la lc S l i true sRp wr HRd.out hi hl)
      have hte : takeF l i true sRp = (i, true) := by unfold takeF; rw [if_neg (by simp)]
      rw [hte] at HTK
      clear hte HR
      go_wp2_with fail
      try rw [hs2]
      refine HTK.out.mono ?_
      rintro e w5 ⟨rfl, hu5, hr5⟩
      have HK5 := Lib.hid (hK2.out _ _ _ _ _ _ _ HK.out (Nat.le_refl _) (fun h => h) hu5 hr5)
      clear hu5 hr5 HTK
      go_wp2_with fail
      go_end0
      rw [HR2.out]
      exact ⟨rfl, xs, HK5.out⟩
    obtain ⟨m, rfl⟩ : ∃ m', m = m' + 1 := ⟨m - 1, by omega⟩
    have hr := HR.out
    rw [if_neg (by decide), pL] at hr
    have HIS := Lib.hid (is_x rb la lc S l i false sRp wr HRd.out hi hl)
    rw [Bool.not_false, Bool.true_and] at HIS
    obtain ⟨c, hc⟩ : ∃ c, isB (tk l i) sRp = c := ⟨_, rfl⟩
    rw [hc] at HIS hr
    have HC := Lib.hid hc
    have HR1 := Lib.hid hr
    clear hc hr HR
    go_wp2_with fail
    try rw [hs2]
    refine HIS.out.mono ?_
    rintro e w5 ⟨rfl, hw5⟩
    have hr5 := HRd.out.ext hw5
    have HK5 := Lib.hid (hK2.out _ _ _ _ _ _ _ HK.out (Nat.le_refl _) (fun h => h) (hw5.mono (fun _ _ h => h.elim)) hr5)
    have HRd5 := Lib.hid hr5
    clear hw5 hr5 HIS HBx c0 c1 c2 HRd HK
    cases c
    case true =>
      have HR2 : Hid (R = .ok xs (i + 1)) := Lib.hid (by rw [HR1.out, if_pos rfl])
      have HTK := Lib.hid (take_x rb la lc S l i false sRp w5 HRd5.out hi hl)
      have hte : takeF l i false sRp = (i + 1, false) := by unfold takeF; rw [HC.out, if_pos (by simp)]
      rw [hte] at HTK
      clear hte HR1
      go_wp2_with fail
      try rw [hs2]
      refine HTK.out.mono ?_
      rintro e w6 ⟨rfl, hu5, hr5⟩
      have HK6 := Lib.hid (hK2.out _ _ _ _ _ _ _ HK5.out (Nat.le_succ _) (fun h => h) hu5 hr5)
      clear hu5 hr5 HTK
      go_wp2_with fail
      go_end0
      rw [HR2.out]
      exact ⟨rfl, HK6.out⟩
    have hr := HR1.out
    rw [if_neg (by decide)] at hr
    cases first
    case true =>
      have HR2 : Hid (R = match el i with | .bad j => .bad j | .ok x j => pL el l m j false (xs ++ [x])) := Lib.hid (by rw [hr, if_neg (by simp), if_pos rfl]; cases el i <;> rfl)
      have HEL := Lib.hid (h1.out xs i w5 HK5.out hi)
      clear hr HR1 HC
      obtain ⟨q, hq⟩ : ∃ q, el (i) = q := ⟨_, rfl⟩
      have HFW := Lib.hid (hf.out (i) (by omega))
      rw [hq] at HEL HR2 HFW
      clear hq
      go_wp2_with fail
      refine HEL.out.mono ?_
      rintro e w7 ⟨rfl, hP⟩
      cases q with
      | ok x j =>
        have HK7 : Hid (K (xs ++ [x]) j false w7) := Lib.hid hP
        have hfw := HFW.out
        have hij := hfw.2.2 x j rfl
        have hjl : j < l.length := hfw.2.1
        have HR3 : Hid (R = if false = true then .bad j else pL el l m j false (xs ++ [x])) := Lib.hid (by rw [HR2.out]; rfl)
        clear hP hfw HFW HEL HR2
        go_wp2_with fail
        go_roundg (if false = true then 0 else l.length - j)
        case measure => simp; omega
        case rel => exact ⟨xs ++ [x], j, false, m, false, rfl, rfl, hjl, by omega, HK7, HR3⟩
      | bad j =>
        obtain ⟨ys, hy⟩ : ∃ ys, K ys j true w7 := hP
        have HK7 : Hid (K ys j true w7) := Lib.hid hy
        have hjl : j < l.length := HFW.out.2.1
        have HR3 : Hid (R = if true = true then .bad j else pL el l l.length j false ys) := Lib.hid (by rw [HR2.out]; rfl)
        clear hy HFW HEL HR2
        go_wp2_with fail
        go_roundg (if true = true then 0 else l.length - j)
        case measure => simp; omega
        case rel => exact ⟨ys, j, true, l.length, false, rfl, rfl, hjl, by omega, HK7, HR3⟩
    have HTK := Lib.hid (take_x rb la lc S l i false sCm w5 HRd5.out hi hl)
    obtain ⟨c2, hc2⟩ : ∃ c, isB (tk l i) sCm = c := ⟨_, rfl⟩
    have hte : takeF l i false sCm = if c2 = true then (i + 1, false) else (i, true) := by unfold takeF; rw [hc2]; simp
    rw [hte] at HTK
    rw [hc2] at hr
    have HC2 := Lib.hid hc2
    clear hte hc2 HR1 HC
    cases c2
    case false =>
      have HR2 : Hid (R = .bad i) := Lib.hid (by rw [hr, if_pos ⟨rfl, rfl⟩])
      rw [if_neg (by decide)] at HTK
      clear hr
      go_wp2_with fail
      try rw [hs3]
      refine HTK.out.mono ?_
      rintro e w6 ⟨rfl, hu5, hr5⟩
      have HK6 := Lib.hid (hK0.out _ _ _ _ HK5.out hu5 hr5)
      have HEL := Lib.hid (h2.out xs i w6 HK6.out hi)
      clear hu5 hr5 HTK
      go_wp2_with fail
      refine HEL.out.mono ?_
      rintro e w7 ⟨rfl, ys, hy⟩
      have HK7 : Hid (K ys i true w7) := Lib.hid hy
      have HR3 : Hid (R = if true = true then .bad i else pL el l l.length i false ys) := Lib.hid (by rw [HR2.out]; rfl)
      clear hy HEL HR2
      go_wp2_with fail
      go_roundg (if true = true then 0 else l.length - i)
      case measure => simp; omega
      case rel => exact ⟨ys, i, true, l.length, false, rfl, rfl, hi, by omega, HK7, HR3⟩
    have hi2 := hE.out.isB hi HC2.out
    have HR2 : Hid (R = match el (i + 1) with | .bad j => .bad j | .ok x j => pL el l m j false (xs ++ [x])) := Lib.hid (by rw [hr, if_neg (by simp), if_neg (by decide)]; cases el (i + 1) <;> rfl)
    rw [if_pos rfl] at HTK
    clear hr
    go_wp2_with fail
    try rw [hs3]
    refine HTK.out.mono ?_
    rintro e w6 ⟨rfl, hu5, hr5⟩
    have HK6 := Lib.hid (hK2.out _ _ _ _ _ _ _ HK5.out (Nat.le_succ _) (fun h => h) hu5 hr5)
    have HEL := Lib.hid (h1.out xs (i + 1) w6 HK6.out hi2)
    clear hu5 hr5 HTK
    obtain ⟨q, hq⟩ : ∃ q, el (i + 1) = q := ⟨_, rfl⟩
    have HFW := Lib.hid (hf.out (i + 1) (by omega))
    rw [hq] at HEL HR2 HFW
    clear hq
    go_wp2_with fail
    refine HEL.out.mono ?_
    rintro e w7 ⟨rfl, hP⟩
    cases q with
    | ok x j =>
      have HK7 : Hid (K (xs ++ [x]) j false w7) := Lib.hid hP
      have hfw := HFW.out
      have hij := hfw.2.2 x j rfl
      have hjl : j < l.length := hfw.2.1
      have HR3 : Hid (R = if false = true then .bad j else pL el l m j false (xs ++ [x])) := Lib.hid (by rw [HR2.out]; rfl)
      clear hP hfw HFW HEL HR2
      go_wp2_with fail
      go_roundg (if false = true then 0 else l.length - j)
      case measure => simp; omega
      case rel => exact ⟨xs ++ [x], j, false, m, false, rfl, rfl, hjl, by omega, HK7, HR3⟩
    | bad j =>
      obtain ⟨ys, hy⟩ : ∃ ys, K ys j true w7 := hP
      have HK7 : Hid (K ys j true w7) := Lib.hid hy
      have hjl : j < l.length := HFW.out.2.1
      have HR3 : Hid (R = if true = true then .bad j else pL el l l.length j false ys) := Lib.hid (by rw [HR2.out]; rfl)
      clear hy HFW HEL HR2
      go_wp2_with fail
      go_roundg (if true = true then 0 else l.length - j)
      case measure => simp; omega
      case rel => exact ⟨ys, j, true, l.length, false, rfl, rfl, hjl, by omega, HK7, HR3⟩

end Go.Proofs.YtjjaknmnhhfjeaaGreatDoor

/- A part that was read is appended: what holds behind it. -/
namespace Go.Proofs.YtjjaknmnhhfjeaaGreatDoor
open Go.RowKit Go.Hw Go
set_option linter.unusedVariables false
set_option linter.unusedSimpArgs false

open Tm
def TmM (rb : Nat) (la : Option Addr) (lc : Nat) (S : Nat → Prop) (l : List Tok) (r : PR Tm) (t : Tm) (W' : World) : Prop := match r with
  | .ok t' j => t = t' ∧ Rd rb la lc S l W' j false
  | .bad j => Rd rb la lc S l W' j true
def TmP (rb : Nat) (la : Option Addr) (lc : Nat) (S : Nat → Prop) (l : List Tok) (r : PR Tm) (e : Ending) (W W' : World) : Prop :=
  ∃ (t : Tm) (u : Value) (B : Nat → Prop), e = .returned (tV t u) ∧ TlO 24 W' B t.kids u ∧ (∀ j, B j → W.heap.size ≤ j ∧ j < W'.heap.size) ∧ Upd (fun k => k = rb) W W' ∧ TmM rb la lc S l r t W'
structure KT (rb : Nat) (la : Option Addr) (lc : Nat) (S : Nat → Prop) (l : List Tok) (tb rx n0 : Nat) (nm : By) (w0 : World) (xs : List Tm) (i : Nat) (b : Bool) (W : World) : Prop where
  rd : Rd rb la lc S l W i b
  tbx : ∃ lv us Bk, W.heap[tb]? = some (.cells #[.string nm, .string nul, lv] 24 (0, 0)) ∧ CpJ 24 n0 W xs lv us Bk xs.length
  rxx : W.heap[rx]? = some (.cells #[.pointer (some ⟨rb, 0, none⟩)] 101 (0, 0))
  sz : n0 ≤ W.heap.size
  up : Upd (fun k => k = rb ∨ w0.heap.size ≤ k) w0 W
  ln : xs.length ≤ i + (if b = true then 1 else 0)
theorem CpJ.keep {te : TypeId} {n0 k : Nat} {W W' : World} {L : List Tm} {lv : Value} {us : List Value} {Bk : Nat → Nat → Prop} {F : Nat → Prop} (h : CpJ te n0 W L lv us Bk k) (hu : Upd F W W') (hF : ∀ j, n0 ≤ j → ¬ F j) : CpJ te n0 W' L lv us Bk k :=
  ⟨h.len, own_kept h.own hu (fun j hj => hF j (h.own.lt j hj).1), fun i hi => (h.kid i hi).kept hu (fun j hj => hF j (h.blk i j hi hj).1), fun i j hi hj => ⟨(h.blk i j hi hj).1, Nat.lt_of_lt_of_le (h.blk i j hi hj).2.1 hu.size, (h.blk i j hi hj).2.2⟩, h.dis⟩
theorem KT.to {rb : Nat} {la : Option Addr} {lc : Nat} {S : Nat → Prop} {l : List Tok} {tb rx n0 : Nat} {nm : By} {w0 W W' : World} {xs : List Tm} {i i' : Nat} {b b' : Bool} (h : KT rb la lc S l tb rx n0 nm w0 xs i b W) (h1 : rb < n0) (h2 : tb ≠ rb) (h3 : rx ≠ rb) (hii : i ≤ i') (hbb : b = true → b' = true) (hu : Upd (fun k => k = rb) W W') (hr : Rd rb la lc S l W' i' b') : KT rb la lc S l tb rx n0 nm w0 xs i' b' W' := by
  obtain ⟨lv, us, Bk, k1, k2⟩ := h.tbx
  exact ⟨hr, ⟨lv, us, Bk, hu.heap k1 h2, k2.keep hu (fun j hj e => by omega)⟩, hu.heap h.rxx h3, Nat.le_trans h.sz hu.size, h.up.trans (hu.mono fun _ _ e => .inl e), by
    have h4 := h.ln
    cases b
    · simp at h4; omega
    · rw [hbb rfl]; simp at h4 ⊢; omega⟩
theorem el3_upd (W : World) (z m : Nat) (u0 u1 u2 : Value) : Upd (fun k => k = z) W (((W.setCell ⟨z, m, none⟩ u0).setCell ⟨z, m + 1, none⟩ u1).setCell ⟨z, m + 2, none⟩ u2) :=
  (((Upd.refl (fun k => k = z) W).setCell (p := ⟨z, m, none⟩) (.inl rfl) u0).setCell (p := ⟨z, m + 1, none⟩) (.inl rfl) u1).setCell (p := ⟨z, m + 2, none⟩) (.inl rfl) u2
theorem sbt_own {w : World} {b g n cap : Nat} {xs : List Value} (h : w.ownsRow b 24 3 (.slice (some ⟨g, 0, none⟩) n cap) n xs) (j : Nat) (u0 u1 u2 : Value) :
    (((w.setCell ⟨g, j, none⟩ u0).setCell ⟨g, j + 1, none⟩ u1).setCell ⟨g, j + 2, none⟩ u2).ownsRow b 24 3 (.slice (some ⟨g, 0, none⟩) n cap) n (((xs.set j u0).set (j + 1) u1).set (j + 2) u2) := own_setN (own_setN (own_setN h _ _) _ _) _ _
theorem set_end (cs : List Value) (m : Nat) (hm : cs.length = m) (a b c u0 u1 u2 : Value) : ((((cs ++ [a, b, c]).set m u0).set (m + 1) u1).set (m + 2) u2) = cs ++ [u0, u1, u2] := by
  subst hm
  apply List.ext_getElem?
  intro j
  rcases Nat.lt_trichotomy j cs.length with h | h | h
  · rw [List.getElem?_set_ne (by omega), List.getElem?_set_ne (by omega), List.getElem?_set_ne (by omega), List.getElem?_append_left h, List.getElem?_append_left h]
  · subst h
    rw [List.getElem?_set_ne (by omega), List.getElem?_set_ne (by omega), List.getElem?_set_self (by simp)]
    simp
  · rcases (by omega : j = cs.length + 1 ∨ j = cs.length + 2 ∨ cs.length + 3 ≤ j) with h | h | h
    · subst h
      rw [List.getElem?_set_ne (by omega), List.getElem?_set_self (by simp)]
      simp
    · subst h
      rw [List.getElem?_set_self (by simp)]
      simp
    · rw [List.getElem?_eq_none (by simp; omega), List.getElem?_eq_none (by simp; omega)]
theorem CpJ.snoc {n0 : Nat} {W W1 w5 w8 : World} {xs : List Tm} {lv lv' u : Value} {us : List Value} {Bk : Nat → Nat → Prop} {Bx F : Nat → Prop} {t : Tm} (h : CpJ 24 n0 W xs lv us Bk xs.length) (h0 : n0 ≤ W.heap.size) (h1 : Ext W W1) (hu : Upd (fun k => k < n0) W1 w5)
    (hT : TlO 24 w5 Bx t.kids u) (hB : ∀ j, Bx j → W1.heap.size ≤ j ∧ j < w5.heap.size) (h8 : Upd F w5 w8) (hF : ∀ j, F j → j < n0 ∨ lv.ownBlock = some j)
    (hl : ∀ j, lv'.ownBlock = some j → lv.ownBlock = some j ∨ w5.heap.size ≤ j) (ho : w8.ownsRow n0 24 3 lv' (xs.length + 1) (tCells xs us ++ [.string t.name, .string t.sort, u])) :
    CpJ 24 n0 w8 (xs ++ [t]) lv' (us ++ [u]) (fun i => if i = xs.length then Bx else Bk i) (xs ++ [t]).length := by
  have hw5 : Upd (fun k => k < n0) W w5 := (h1.mono (fun _ _ h => h.elim)).trans hu
  have hlt := fun j hj => h.own.lt j hj
  have hs1 := h1.size
  have hs5 := hu.size
  have hs8 := h8.size
  rw [List.length_append, List.length_singleton]
  refine ⟨by rw [List.length_append, h.len]; rfl, ?_, fun i hi => ?_, fun i j hi hj => ?_, fun i i' j hi hi' hne hj => ?_⟩
  · rw [List.take_of_length_le (by simp), tCells_snoc _ _ _ _ h.len]
    exact ho
  · by_cases e : i = xs.length
    · subst e
      rw [if_pos rfl]
      have e2 : ug (us ++ [u]) xs.length = u := by unfold ug; rw [List.getD_eq_getElem?_getD, List.getElem?_append_right (by rw [h.len]; exact Nat.le_refl _), h.len, Nat.sub_self]; rfl
      have e3 : tg (xs ++ [t]) xs.length = t := by unfold tg; rw [List.getD_eq_getElem?_getD, List.getElem?_append_right (Nat.le_refl _), Nat.sub_self]; rfl
      rw [e2, e3]
      refine hT.kept h8 (fun j hj e => ?_)
      have h2 := (hB j hj).1
      rcases hF j e with h3 | h3
      · omega
      · have := (hlt j h3).2; omega
    · rw [if_neg e]
      have e2 : ug (us ++ [u]) i = ug us i := by unfold ug; rw [List.getD_eq_getElem?_getD, List.getD_eq_getElem?_getD, List.getElem?_append_left (by rw [h.len]; omega)]
      have e3 : tg (xs ++ [t]) i = tg xs i := by unfold tg; rw [List.getD_eq_getElem?_getD, List.getD_eq_getElem?_getD, List.getElem?_append_left (by omega)]
      rw [e2, e3]
      have hb := fun j hj => h.blk i j (by omega) hj
      exact ((h.kid i (by omega)).kept hw5 (fun j hj e => by have := (hb j hj).1; omega)).kept h8 (fun j hj e => by
        rcases hF j e with h3 | h3
        · have := (hb j hj).1; omega
        · exact (hb j hj).2.2 h3)
  · by_cases e : i = xs.length
    · subst e
      rw [if_pos rfl] at hj
      have h2 := hB j hj
      refine ⟨by omega, by omega, fun e => ?_⟩
      rcases hl j e with h3 | h3
      · have := (hlt j h3).2; omega
      · omega
    · rw [if_neg e] at hj
      obtain ⟨b1, b2, b3⟩ := h.blk i j (by omega) hj
      refine ⟨b1, by omega, fun e => ?_⟩
      rcases hl j e with h3 | h3
      · exact b3 h3
      · omega
  · by_cases e : i = xs.length
    · subst e
      rw [if_pos rfl] at hj
      have h2 := hB j hj
      rw [if_neg (fun e => hne e.symm)]
      intro h3
      have := (h.blk i' j (by omega) h3).2.1
      omega
    · rw [if_neg e] at hj
      by_cases e' : i' = xs.length
      · subst e'
        rw [if_pos rfl]
        intro h3
        have h4 := hB j h3
        have := (h.blk i j (by omega) hj).2.1
        omega
      · rw [if_neg e']
        exact h.dis i i' j (by omega) (by omega) hne hj
theorem part_fin {rb : Nat} {la : Option Addr} {lc : Nat} {S : Nat → Prop} {l : List Tok} {tb rx n0 : Nat} {nm : By} {w0 w w5 wA w7 w8 : World} {xs : List Tm} {i : Nat} {b : Bool} {r : PR Tm} {t : Tm} {us : List Value} {Bk : Nat → Nat → Prop} {Bx : Nat → Prop} {la0 ya : Option Addr} {lc0 yc gn cn : Nat}
    (h1 : rb < n0) (h2 : tb ≠ rb) (h3 : rx ≠ rb) (htb : tb < n0) (htb0 : w0.heap.size ≤ tb) (htx : rx ≠ tb) (hn0 : w0.heap.size ≤ n0) (hrx : rx < n0) (hrb : rb < w0.heap.size) (hSw : ∀ k, S k → k < w0.heap.size) (hln : xs.length ≤ i) (hat : ∀ x j, r = .ok x j → i < j) (hbt : ∀ j, r = .bad j → i ≤ j)
    (hK : KT rb la lc S l tb rx n0 nm w0 xs i b w) (hC : CpJ 24 n0 w xs (.slice la0 xs.length lc0) us Bk xs.length) (hW5 : ∃ W1, Ext w W1 ∧ Upd (fun k => k = rb) W1 w5 ∧ ∀ j, Bx j → W1.heap.size ≤ j ∧ j < w5.heap.size) (hT : TlO 24 w5 Bx t.kids (.slice ya t.kids.length yc))
    (hM : TmM rb la lc S l r t w5) (hA : Ext w5 wA)
    (hG : Grew n0 24 3 (.slice la0 xs.length lc0) (xs.length + 1) (tCells xs us ++ [Value.string ⟨#[]⟩, .string ⟨#[]⟩, .slice none 0 0]) wA w7 (.slice (some ⟨gn, 0, none⟩) (xs.length + 1) cn)) (hB : w7.heap[tb]? = some (.cells #[.string nm, .string nul, .slice la0 xs.length lc0] 24 (0, 0)))
    (h8 : w8 = ((((w7.setCell ⟨gn, xs.length * 3, none⟩ (.string t.name)).setCell ⟨gn, xs.length * 3 + 1, none⟩ (.string t.sort)).setCell ⟨gn, xs.length * 3 + 2, none⟩ (.slice ya t.kids.length yc)).setCell ⟨tb, 2, none⟩ (.slice (some ⟨gn, 0, none⟩) (xs.length + 1) cn)) ∨ w8 = ((((w7.setCell ⟨tb, 2, none⟩ (.slice (some ⟨gn, 0, none⟩) (xs.length + 1) cn)).setCell ⟨gn, xs.length * 3, none⟩ (.string t.name)).setCell ⟨gn, xs.length * 3 + 1, none⟩ (.string t.sort)).setCell ⟨gn, xs.length * 3 + 2, none⟩ (.slice ya t.kids.length yc))) : ElP (KT rb la lc S l tb rx n0 nm w0) xs r w8 := by
  obtain ⟨W1, hw1, hu1, hBx⟩ := hW5
  have hgn : n0 ≤ gn := (hG.own.lt gn rfl).1
  have hset := set_end (tCells xs us) (xs.length * 3) (tCells_len xs us) (.string ⟨#[]⟩) (.string ⟨#[]⟩) (.slice none 0 0) (.string t.name) (.string t.sort) (.slice ya t.kids.length yc)
  have key : w8.ownsRow n0 24 3 (.slice (some ⟨gn, 0, none⟩) (xs.length + 1) cn) (xs.length + 1) (tCells xs us ++ [.string t.name, .string t.sort, .slice ya t.kids.length yc]) ∧ w8.heap[tb]? = some (.cells #[.string nm, .string nul, .slice (some ⟨gn, 0, none⟩) (xs.length + 1) cn] 24 (0, 0)) ∧ Upd (fun k => k = gn ∨ k = tb) w7 w8 := by
    rcases h8 with rfl | rfl
    · have hu := el3_upd w7 gn (xs.length * 3) (.string t.name) (.string t.sort) (.slice ya t.kids.length yc)
      have ho := sbt_own hG.own (xs.length * 3) (.string t.name) (.string t.sort) (.slice ya t.kids.length yc)
      rw [hset] at ho
      have hb := hu.heap hB (by omega)
      refine ⟨own_kept ho ((Upd.refl (fun k => k = tb) _).setCell (p := ⟨tb, 2, none⟩) (.inl rfl) _) (fun j hj e => ?_), by have := setBlock hb 2 (.slice (some ⟨gn, 0, none⟩) (xs.length + 1) cn); simpa using this, (hu.mono (fun _ _ e => .inl e)).setCell (p := ⟨tb, 2, none⟩) (.inl (.inr rfl)) _⟩
      have hj2 : gn = j := Option.some.inj hj
      omega
    · have hut := (Upd.refl (fun k => k = tb) w7).setCell (p := ⟨tb, 2, none⟩) (.inl rfl) (.slice (some ⟨gn, 0, none⟩) (xs.length + 1) cn)
      have hot := own_kept hG.own hut (fun j hj e => by have hj2 : gn = j := Option.some.inj hj; omega)
      have ho := sbt_own hot (xs.length * 3) (.string t.name) (.string t.sort) (.slice ya t.kids.length yc)
      rw [hset] at ho
      have hu := el3_upd (w7.setCell ⟨tb, 2, none⟩ (.slice (some ⟨gn, 0, none⟩) (xs.length + 1) cn)) gn (xs.length * 3) (.string t.name) (.string t.sort) (.slice ya t.kids.length yc)
      have hb := setBlock hB 2 (.slice (some ⟨gn, 0, none⟩) (xs.length + 1) cn)
      exact ⟨ho, hu.heap (by simpa using hb) (by omega), (hut.mono (fun _ _ e => .inr e)).trans (hu.mono (fun _ _ e => .inl e))⟩
  obtain ⟨ho8, hb8, hu78⟩ := key
  have hl : ∀ j, (Value.slice (some ⟨gn, 0, none⟩) (xs.length + 1) cn).ownBlock = some j → (Value.slice la0 xs.length lc0).ownBlock = some j ∨ w5.heap.size ≤ j := fun j e => by
    rcases hG.where_ with h | h
    · rw [h] at e; exact .inl e
    · rw [h] at e; injection e with e; have := hA.size; exact .inr (by omega)
  have hu58 : Upd (fun j => j = tb ∨ (Value.slice la0 xs.length lc0).ownBlock = some j) w5 w8 := (((hA.mono (fun _ _ h => h.elim)).trans (hG.upd.mono (fun _ _ e => .inr e)))).trans' hu78 (fun j hj e => by
    rcases e with e | e
    · rcases hl j (by rw [e]; rfl) with h | h
      · exact .inr h
      · omega
    · exact .inl e)
  have hown := hC.own
  have hlt := fun j hj => (hown.lt j hj).1
  have hC8 := hC.snoc (lv' := .slice (some ⟨gn, 0, none⟩) (xs.length + 1) cn) hK.sz hw1 (hu1.mono (fun k _ e => by omega)) hT hBx hu58 (fun j hj => hj.imp (fun e => by omega) id) hl ho8
  have hu5 : Upd (fun k => k = rb) w w5 := (hw1.mono (fun _ _ h => h.elim)).trans hu1
  have hR8 : ∀ j bb, Rd rb la lc S l w5 j bb → Rd rb la lc S l w8 j bb := fun j bb h => ⟨hu58.heap h.box (fun e => by
    rcases e with e | e
    · exact h2 e.symm
    · have := hlt _ e; omega), h.tk.kept hu58 (fun k hk e => by
    have := hSw k hk
    rcases e with e | e
    · omega
    · have := hlt _ e; omega), h.apart⟩
  have hrx8 := hu58.heap (hu5.heap hK.rxx h3) (fun e => by
    rcases e with e | e
    · exact htx e
    · have := hlt _ e; omega)
  have hsz8 : n0 ≤ w8.heap.size := Nat.le_trans hK.sz (Nat.le_trans hu5.size hu58.size)
  have hup8 : Upd (fun k => k = rb ∨ w0.heap.size ≤ k) w0 w8 := (hK.up.trans (hu5.mono fun _ _ e => .inl e)).trans (hu58.mono fun k _ e => .inr (by
    rcases e with e | e
    · omega
    · have := hlt _ e; omega))
  have hlen : (xs ++ [t]).length = xs.length + 1 := by simp
  cases r with
  | ok t' j =>
    obtain ⟨rfl, hr⟩ := hM
    exact ⟨hR8 j false hr, ⟨_, _, _, hb8, hC8⟩, hrx8, hsz8, hup8, by have := hat _ _ rfl; rw [hlen]; simp; omega⟩
  | bad j =>
    exact ⟨xs ++ [t], hR8 j true hM, ⟨_, _, _, hb8, hC8⟩, hrx8, hsz8, hup8, by have := hbt _ rfl; rw [hlen]; simp; omega⟩

end Go.Proofs.YtjjaknmnhhfjeaaGreatDoor

/- A part is read and appended. -/
namespace Go.Proofs.YtjjaknmnhhfjeaaGreatDoor
open Go.RowKit Go.Hw Go
set_option linter.unusedVariables false
set_option linter.unusedSimpArgs false
open Tm
set_option maxRecDepth 100000 in
set_option maxHeartbeats 8000000 in
theorem part_x (rb : Nat) (la : Option Addr) (lc : Nat) (S : Nat → Prop) (l : List Tok) (tb rx n0 : Nat) (nm : By) (w0 : World) (hl : l.length ≤ 1000000) (h1 : rb < n0) (h2 : tb ≠ rb) (h3 : rx ≠ rb) (htb : tb < n0) (htb0 : w0.heap.size ≤ tb) (htx : rx ≠ tb) (hn0 : w0.heap.size ≤ n0)
    (hrb : rb < w0.heap.size) (hSw : ∀ k, S k → k < w0.heap.size) (xs : List Tm) (i : Nat) (b : Bool) (w : World) (r : PR Tm) (h0 : KT rb la lc S l tb rx n0 nm w0 xs i b w) (hi : i < l.length) (hln : xs.length ≤ i) (hrx : rx < n0) (hat : ∀ x j, r = .ok x j → i < j) (hbt : ∀ j, r = .bad j → i ≤ j)
    (hix : ∀ W, Ext w W → Calls Tryz.prog 77 #[.pointer (some ⟨rb, 0, none⟩)] W fun e W' => TmP rb la lc S l r e W W') :
    Calls Tryz.prog 111 #[.pointer (some ⟨tb, 0, none⟩), .pointer (some ⟨rx, 0, none⟩)] w fun e w' => e = .returned (.tuple #[]) ∧ ElP (KT rb la lc S l tb rx n0 nm w0) xs r w' := by
  have HIX := Lib.hid hix
  have HK := Lib.hid h0
  obtain ⟨lv, us, Bk, htx2, hcp⟩ := h0.tbx
  obtain ⟨la0, lc0, hlv⟩ := own_shape hcp.own
  subst hlv
  have hown := hcp.own
  rw [List.take_length] at hown
  have HOW := Lib.hid hown
  have HCP := Lib.hid hcp
  have HTBX := Lib.hid htx2
  have HRN : Hid (rb < n0) := Lib.hid h1
  have HTR : Hid (tb ≠ rb) := Lib.hid h2
  have HSZ := Lib.hid h0.sz
  have HX1 : Hid (Ext w w.drew) := Lib.hid (Upd.refl (fun _ => False) w).drew
  have HX2 : Hid (Ext w (w.alloc (.cells #[.string ⟨#[]⟩, .string ⟨#[]⟩, .slice none 0 0] 24)).drew) := Lib.hid ((Upd.refl (fun _ => False) w).alloc _).drew
  have hrbw : rb < w.heap.size := (Array.getElem?_eq_some_iff.1 h0.rd.box).1
  have HRW : Hid (¬ w.heap.size = rb) := Lib.hid (by omega)
  have HNT : Hid (¬ (Value.slice la0 xs.length lc0).ownBlock = some tb) := Lib.hid (fun e => by have := (hown.lt _ e).1; omega)
  have HONE : Hid (∀ u ∈ [Value.string ⟨#[]⟩, .string ⟨#[]⟩, .slice none 0 0], u.oneCell' = true) := Lib.hid (fun u hu => by simp at hu; rcases hu with h | h <;> (subst h; rfl))
  have HLM : Hid (xs.length + 1 ≤ maxLen ∧ (xs.length + 1) * 56 ≤ 140737488355328) := Lib.hid ⟨by unfold maxLen; omega, by omega⟩
  have htl : (tCells xs us).length = xs.length * 3 := tCells_len xs us
  have HLA : Hid (∀ m, m < 3 → (tCells xs us ++ [Value.string ⟨#[]⟩, .string ⟨#[]⟩, .slice none 0 0])[xs.length * 3 + m]? = [Value.string ⟨#[]⟩, .string ⟨#[]⟩, .slice none 0 0][m]?) := Lib.hid (fun m hm => by rw [List.getElem?_append_right (by omega), htl]; congr 1; omega)
  obtain ⟨iT, hi0, hz0, hz1, hz2⟩ := info_parts infoT
  have hi := hi0
  have c2 := cellRow htx2 2 (.slice la0 xs.length lc0) rfl
  have r0 := cellRow h0.rxx 0 (.pointer (some ⟨rb, 0, none⟩)) rfl
  have c2b := ((Upd.refl (fun _ => False) w).alloc (.cells #[.string ⟨#[]⟩, .string ⟨#[]⟩, .slice none 0 0] 24)).cell c2 (fun h => h)
  have r0b := ((Upd.refl (fun _ => False) w).alloc (.cells #[.string ⟨#[]⟩, .string ⟨#[]⟩, .slice none 0 0] 24)).cell r0 (fun h => h)
  have k0 : (0 : Int) ≤ (xs.length : Int) := by omega
  have k1 : (xs.length : Int) < (xs.length : Int) + 1 := by omega
  have HTL := Lib.hid htl
  clear hix h0 htx2 hcp hown hrbw htl
  go_enter Tryz.func111, Tryz.ntmps111
  go_region_law (first
  | (refine step_append_at _ (.tmp 3) (.tmp 7) 22 rfl n0 24 iT (.agg #[.string ⟨#[]⟩, .string ⟨#[]⟩, .slice none 0 0]) 3 56 Tryz.underlying22 hi hz0 hz1 hz2 rfl (by decide) _ _ _ rfl (by first | exact HOA.out | exact HOB.out) _ 1 1 [Value.string ⟨#[]⟩, .string ⟨#[]⟩, .slice none 0 0] rfl rfl (by first | exact HNA.out | exact HNB.out) HONE.out HLM.out.1 HLM.out.2 (by first | exact HSA.out | exact HSB.out) ?_; intro v7 w7 hG7; obtain ⟨gn, cn, cur, hv7, hg7, hsz7⟩ := own_row0 hG7.own (Nat.succ_pos _); subst hv7; have hb7 := hG7.upd.heap (by first | exact HTA.out | exact HTB.out) HNT.out; have f7 := fun i => frozenRow hg7 i; have ft7 := fun i => frozenRow hb7 i; have t72 := cellRow hb7 2 (.slice la0 xs.length lc0) rfl; have g0 := (World.ownsRow.cellAt hG7.own (xs.length * 3) (by omega)).trans (HLA.out 0 (by omega)); have g1 := (World.ownsRow.cellAt hG7.own (xs.length * 3 + 1) (by omega)).trans (HLA.out 1 (by omega)); have g2 := (World.ownsRow.cellAt hG7.own (xs.length * 3 + 2) (by omega)).trans (HLA.out 2 (by omega)); have hgn := (hG7.own.lt gn rfl).1; have HNG : Hid (gn ≠ tb ∧ n0 ≤ gn) := Lib.hid ⟨by omega, hgn⟩; have tA := (el3_upd w7 gn (xs.length * 3) (.string t.name) (.string t.sort) (.slice ya t.kids.length yc)).cell t72 (by show ¬ tb = gn; have := HNG.out; omega); have hus := (Upd.refl (fun k => k = tb) w7).setCell (p := ⟨tb, 2, none⟩) (.inl rfl) (.slice (some ⟨gn, 0, none⟩) (xs.length + 1) cn); have gA0 := hus.cell g0 (by show ¬ gn = tb; exact HNG.out.1); have gA1 := hus.cell g1 (by show ¬ gn = tb; exact HNG.out.1); have gA2 := hus.cell g2 (by show ¬ gn = tb; exact HNG.out.1); clear hus hgn; have HB7 := Lib.hid hb7; have HG7 := Lib.hid hG7; have HGR : Hid (w7.heap[gn]? = some (.cells cur 24 (0, 0))) := Lib.hid hg7; clear hG7 hb7 hg7)
  | (go_simp; refine (HIX.out _ (by first | exact HX1.out | exact HX2.out)).mono ?_; rintro e w5 ⟨t, u, Bx, rfl, hT5, hb5, hu5, hm5⟩; obtain ⟨ya, yc, hry⟩ := TlO.shape hT5; subst hry; have HT5 := Lib.hid hT5; have HBX5 := Lib.hid hb5; have HU5 : Hid (Upd (fun k => k = rb) w w5) := Lib.hid (((by first | exact HX1.out | exact HX2.out : Ext w _).mono (fun _ _ h => h.elim)).trans hu5); have HW5 : Hid (∃ W1, Ext w W1 ∧ Upd (fun k => k = rb) W1 w5 ∧ ∀ j, Bx j → W1.heap.size ≤ j ∧ j < w5.heap.size) := Lib.hid ⟨_, (by first | exact HX1.out | exact HX2.out), hu5, hb5⟩; have HM5 := Lib.hid hm5; have HOB := Lib.hid (own_kept HOW.out HU5.out (fun j hj e => by have := (HOW.out.lt j hj).1; have := HRN.out; omega)); have HOA := Lib.hid (HOB.out.alloc (.cells #[.string ⟨#[]⟩, .string ⟨#[]⟩, .slice none 0 0] 24)); have HTB := Lib.hid (HU5.out.heap HTBX.out HTR.out); have HTA := Lib.hid (allocOld HTB.out (.cells #[.string ⟨#[]⟩, .string ⟨#[]⟩, .slice none 0 0] 24)); have HNA := Lib.hid (new3 w5 (.string ⟨#[]⟩) (.string ⟨#[]⟩) (.slice none 0 0) 24); have HSB : Hid (n0 ≤ w5.heap.size) := Lib.hid (Nat.le_trans HSZ.out HU5.out.size); have HSA : Hid (n0 ≤ (w5.alloc (.cells #[.string ⟨#[]⟩, .string ⟨#[]⟩, .slice none 0 0] 24)).heap.size) := Lib.hid (by rw [alloc_size]; have := HSB.out; omega); have c5 := cellRow HTB.out 2 (.slice la0 xs.length lc0) rfl; have c5a := cellRow HTA.out 2 (.slice la0 xs.length lc0) rfl; try (have HNB := Lib.hid (fun (j : Nat) (v : Value) (hj : [Value.string ⟨#[]⟩, .string ⟨#[]⟩, .slice none 0 0][j]? = some v) => hu5.cell (new3 w (.string ⟨#[]⟩) (.string ⟨#[]⟩) (.slice none 0 0) 24 j v hj) (by cases j with | zero => simp [Addr.add]; exact HRW.out | succ j => simp [Addr.add]; exact HRW.out))); clear hT5 hb5 hu5 hm5))
  all_goals (go_wp2_with fail)
  all_goals go_end0
  all_goals refine ⟨rfl, ?_⟩
  all_goals first
    | exact part_fin h1 h2 h3 htb htb0 htx hn0 hrx hrb hSw hln hat hbt HK.out HCP.out HW5.out HT5.out HM5.out (by with_reducible first | exact Upd.refl _ _ | exact Upd.alloc (Upd.refl _ _) _) HG7.out HB7.out (.inl (by with_reducible rfl))
    | exact part_fin h1 h2 h3 htb htb0 htx hn0 hrx hrb hSw hln hat hbt HK.out HCP.out HW5.out HT5.out HM5.out (by with_reducible first | exact Upd.refl _ _ | exact Upd.alloc (Upd.refl _ _) _) HG7.out HB7.out (.inr (by with_reducible rfl))

end Go.Proofs.YtjjaknmnhhfjeaaGreatDoor
