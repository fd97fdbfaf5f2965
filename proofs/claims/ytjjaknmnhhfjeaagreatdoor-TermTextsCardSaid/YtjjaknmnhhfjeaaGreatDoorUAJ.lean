/- The texts Y10 Y11 Y12 Y13 Y14 Y15 N36 Y16 NX, one behind the other. -/
import Derived.Test.YtjjaknmnhhfjeaaGreatDoorUAI
import Derived.Test.YtjjaknmnhhfjeaaGreatDoorUAC
import Derived.Deep.RegionHeld3
import Derived.Test.YtjjaknmnhhfjeaaGreatDoorUAF
import Derived.Test.YtjjaknmnhhfjeaaGreatDoorUAH
import Derived.Test.YtjjaknmnhhfjeaaGreatDoorUAG
/- The reader: is, take, name. -/
namespace Go.Proofs.YtjjaknmnhhfjeaaGreatDoor
open Go.RowKit Go.Hw Go
set_option linter.unusedVariables false
set_option linter.unusedSimpArgs false

open Tm
structure Rd (rb : Nat) (la : Option Addr) (lc : Nat) (S : Nat → Prop) (l : List Tok) (W : World) (i : Nat) (b : Bool) : Prop where
  box : W.heap[rb]? = some (.cells #[.slice la l.length lc, .int .i64 (i : Int), .bool b] 103 (0, 0))
  tk : TkR S W (.slice la l.length lc) l
  apart : ¬ S rb
section
variable {rb : Nat} {la : Option Addr} {lc : Nat} {S : Nat → Prop} {l : List Tok} {W W' : World} {i i' : Nat} {b b' : Bool}
theorem Rd.ext (h : Rd rb la lc S l W i b) (hu : Ext W W') : Rd rb la lc S l W' i b := ⟨hu.heap h.box (fun h => h), h.tk.ext hu, h.apart⟩
theorem Rd.to (h : Rd rb la lc S l W i b) (hu : Upd (fun k => k = rb) W W') (hb : W'.heap[rb]? = some (.cells #[.slice la l.length lc, .int .i64 (i' : Int), .bool b'] 103 (0, 0))) : Rd rb la lc S l W' i' b' := ⟨hb, h.tk.kept hu (fun k hk e => h.apart (by rw [← show k = rb from e]; exact hk)), h.apart⟩
end
def annTk (n0 : Nat) : Ann Nat := ⟨fun x => .pointer (some ⟨x, 0, none⟩), fun x W => n0 ≤ x ∧ W.heap[x]? = some (.cells #[.int .i64 0, .string ⟨#[]⟩, .int .i64 0, .int .i64 0, .int .i64 0] 114 (0, 0)), fun x W W' h hE => ⟨h.1, hE.heap h.2 (fun h => h)⟩⟩
set_option maxRecDepth 100000 in
set_option maxHeartbeats 4000000 in
theorem is_x (rb : Nat) (la : Option Addr) (lc : Nat) (S : Nat → Prop) (l : List Tok) (i : Nat) (b : Bool) (s : By) (w : World) (hR : Rd rb la lc S l w i b) (hi : i < l.length) (hl : l.length ≤ 1000000) :
    Calls Tryz.prog 59 #[.pointer (some ⟨rb, 0, none⟩), .string s] w fun e w' => e = .returned (.bool (!b && isB (tk l i) s)) ∧ Ext w w' := by
  obtain ⟨gg, off, hga, hSg, hat⟩ := (TkR.at_ hR.tk (Nat.lt_of_le_of_lt (Nat.zero_le _) hi)).2
  subst hga
  obtain ⟨q0, q1, q2, q3, q4⟩ := hat i hi
  have HR := Lib.hid hR
  obtain ⟨⟨kd, tx, tn, tl, tc⟩, ht⟩ : ∃ t, tk l i = t := ⟨_, rfl⟩
  rw [ht] at q0 q1 q2 q3 q4
  try rw [ht]
  have i0 : (0 : Int) ≤ (i : Int) := by omega
  have i1 : (i : Int) < (l.length : Int) := by omega
  dsimp only at q0 q1 q2 q3 q4
  clear hat hR
  have HV : Hid ((!b && isB ⟨kd, tx, tn, tl, tc⟩ s) = (!b && ((decide (kd = 4) || decide (kd = 3)) && decide (tx = s)))) := Lib.hid rfl
  obtain ⟨V, hV⟩ : ∃ V, (!b && isB ⟨kd, tx, tn, tl, tc⟩ s) = V := ⟨_, rfl⟩
  rw [hV] at HV ⊢
  clear hV ht
  go_enter Tryz.func59, Tryz.ntmps59
  have HBR := Lib.hid HR.out.box
  obtain ⟨w1, hw1⟩ : ∃ w1, w1 = w := ⟨_, rfl⟩
  have HW1 : Hid (Ext w w1) := Lib.hid (by rw [hw1]; exact Upd.refl _ _)
  rw [← hw1] at HBR q0 q1 q2 q3 q4 ⊢
  clear hw1 HR
  have X0 := fun x : XW w1 => cellRow (x.ext.heap HBR.out (fun h => h)) 0 (.slice (some ⟨gg, off, none⟩) l.length lc) rfl
  have X1 := fun x : XW w1 => cellRow (x.ext.heap HBR.out (fun h => h)) 1 (.int .i64 (i : Int)) rfl
  have X2 := fun x : XW w1 => x.ext.cell q0 (fun h => h)
  have X3 := fun x : XW w1 => x.ext.cell q1 (fun h => h)
  have X4 := fun x : XW w1 => x.ext.cell q2 (fun h => h)
  have X5 := fun x : XW w1 => x.ext.cell q3 (fun h => h)
  have X6 := fun x : XW w1 => x.ext.cell q4 (fun h => h)
  go_wp2_with fail
  refine wp_region_par (α := Nat) 11 [(11, 2)] [[], [0], [0, 1], [0, 1, 2], [], [4], [4, 5], [4, 5, 6], [0, 1, 2, 3, 4, 5, 6, 7], [0, 1, 2, 3, 4, 5, 6, 7, 8], [], [0, 1, 2, 3, 4, 5, 6, 7, 8, 9, 10]]
    [none, none, none, none, none, none, none, none, none, none, some (annTk w1.heap.size)] [false, false, false, false, false, false, false, false, false, false, true] (by kernel_rfl) (by kernel_rfl) rfl (fun _ _ d _ _ h => by cases d <;> exact h) ?_
  simp only [List.take_succ_cons, List.take_zero, pickO, List.getElem?_cons_zero, List.getElem?_cons_succ]
  iterate 10 (refine can_pure0 rfl (fun K hK => ?_); go_simp; refine hK _ ?_; clear hK K)
  refine can_mem _ rfl (by go_simp) (fun W hW hG K hK => ?_) (fun K x hK => ?_)
  · go_simp
    exact hK W.heap.size _ ((Upd.refl (fun _ => False) W).alloc _) ⟨hW.size, alloc0 _ _⟩
  refine hK _ ?_; clear hK K
  dsimp only [annTk]
  refine can_end (fun W hW hG => ?_)
  obtain ⟨hxs, hxb⟩ := hG _ (List.mem_singleton.2 rfl)
  have HBX := Lib.hid hxb
  have HWW := Lib.hid hW
  have z0 := cellRow hxb 0 (.int .i64 0) rfl
  have z1 := cellRow hxb 1 (.string ⟨#[]⟩) rfl
  have z2 := cellRow hxb 2 (.int .i64 0) rfl
  have z3 := cellRow hxb 3 (.int .i64 0) rfl
  have z4 := cellRow hxb 4 (.int .i64 0) rfl
  have fz := fun j => frozenRow hxb j
  clear hG hxb hW X0 X1 X2 X3 X4 X5 X6
  refine mix_two ?_
  intro K hK
  go_simp
  refine hK _ _ ?_
  clear hK K
  have hrx := st5_heap HBX.out (.int .i64 (kd : Int)) (.string tx) (.int .i64 tn) (.int .i64 tl) (.int .i64 tc)
  have hux := st5_upd W x (.int .i64 (kd : Int)) (.string tx) (.int .i64 tn) (.int .i64 tl) (.int .i64 tc)
  have HRX := Lib.hid hrx
  have HUX := Lib.hid hux
  clear hrx hux z0 z1 z2 z3 z4 fz
  generalize (((((W.setCell ⟨x, 0, none⟩ (.int .i64 (kd : Int))).setCell ⟨x, 1, none⟩ (.string tx)).setCell ⟨x, 2, none⟩ (.int .i64 tn)).setCell ⟨x, 3, none⟩ (.int .i64 tl)).setCell ⟨x, 4, none⟩ (.int .i64 tc)) = w5 at *
  have HE5 : Hid (Ext w1 w5) := Lib.hid (HWW.out.trans' HUX.out (fun j hj e => by omega))
  have k0 := cellRow HRX.out 0 (.int .i64 (kd : Int)) rfl
  have k1 := cellRow HRX.out 1 (.string tx) rfl
  have k2 := cellRow HRX.out 2 (.int .i64 tn) rfl
  have k3 := cellRow HRX.out 3 (.int .i64 tl) rfl
  have k4 := cellRow HRX.out 4 (.int .i64 tc) rfl
  simp only [wpMix]
  have HB5 := Lib.hid (HE5.out.heap HBR.out (fun h => h))
  have HF := HE5
  have c0 := cellRow HB5.out 0 (.slice (some ⟨gg, off, none⟩) l.length lc) rfl
  have c1 := cellRow HB5.out 1 (.int .i64 (i : Int)) rfl
  have c2 := cellRow HB5.out 2 (.bool b) rfl
  clear HBX HWW HUX HE5 q0 q1 q2 q3 q4
  cases b
  case true =>
    have HV2 : Hid (V = false) := Lib.hid (by rw [HV.out]; rfl)
    go_wp2_with fail
    go_ret
    rw [HV2.out]
    exact ⟨rfl, HF.out⟩
  have e9 := str_dec tx s
  by_cases h4 : kd = 4
  · subst h4
    have HV2 : Hid (V = decide (tx = s)) := Lib.hid (by rw [HV.out]; simp)
    obtain ⟨b2, hb2⟩ : ∃ b, decide (tx = s) = b := ⟨_, rfl⟩
    rw [hb2] at HV2 e9
    clear HV hb2
    go_wp2_with fail
    go_ret
    rw [HV2.out]
    exact ⟨rfl, HF.out⟩
  by_cases h3 : kd = 3
  · subst h3
    have HV2 : Hid (V = decide (tx = s)) := Lib.hid (by rw [HV.out]; simp)
    obtain ⟨b2, hb2⟩ : ∃ b, decide (tx = s) = b := ⟨_, rfl⟩
    rw [hb2] at HV2 e9
    clear HV hb2
    go_wp2_with fail
    go_ret
    rw [HV2.out]
    exact ⟨rfl, HF.out⟩
  have HV2 : Hid (V = false) := Lib.hid (by rw [HV.out, decide_eq_false h4, decide_eq_false h3]; rfl)
  have t4 : ((kd : Int) == 4) = false := beq_eq_false_iff_ne.2 (by omega)
  have t3 : ((kd : Int) == 3) = false := beq_eq_false_iff_ne.2 (by omega)
  go_wp2_with fail
  go_ret
  rw [HV2.out]
  exact ⟨rfl, HF.out⟩
def takeF (l : List Tok) (i : Nat) (b : Bool) (s : By) : Nat × Bool := if (!b && isB (tk l i) s) = true then (i + 1, false) else (i, true)
def RdP (rb : Nat) (la : Option Addr) (lc : Nat) (S : Nat → Prop) (l : List Tok) (w w' : World) (p : Nat × Bool) : Prop := Upd (fun k => k = rb) w w' ∧ Rd rb la lc S l w' p.1 p.2
set_option maxRecDepth 100000 in
set_option maxHeartbeats 2000000 in
theorem take_x (rb : Nat) (la : Option Addr) (lc : Nat) (S : Nat → Prop) (l : List Tok) (i : Nat) (b : Bool) (s : By) (w : World) (hR : Rd rb la lc S l w i b) (hi : i < l.length) (hl : l.length ≤ 1000000) :
    Calls Tryz.prog 63 #[.pointer (some ⟨rb, 0, none⟩), .string s] w fun e w' => e = .returned (.tuple #[]) ∧ RdP rb la lc S l w w' (takeF l i b s) := by
  have HR := Lib.hid hR
  have HI := Lib.hid (is_x rb la lc S l i b s w hR hi hl)
  have HV : Hid (takeF l i b s = if (!b && isB (tk l i) s) = true then (i + 1, false) else (i, true)) := Lib.hid rfl
  have HVB : Hid ((!b && isB (tk l i) s) = true → b = false) := Lib.hid (fun h => by cases b; rfl; simp at h)
  obtain ⟨V, hV⟩ : ∃ V, takeF l i b s = V := ⟨_, rfl⟩
  rw [hV] at HV ⊢
  obtain ⟨c, hc⟩ : ∃ c, (!b && isB (tk l i) s) = c := ⟨_, rfl⟩
  rw [hc] at HI HV HVB
  clear hV hc hR
  go_enter Tryz.func63, Tryz.ntmps63
  go_wp2_with fail
  refine HI.out.mono ?_
  rintro e w4 ⟨rfl, hw4⟩
  have HR4 := Lib.hid (HR.out.ext hw4)
  have H4 := Lib.hid hw4
  have HB4 := Lib.hid HR4.out.box
  clear hw4 HI
  have c0 := cellRow HB4.out 0 (.slice la l.length lc) rfl
  have c1 := cellRow HB4.out 1 (.int .i64 (i : Int)) rfl
  have c2 := cellRow HB4.out 2 (.bool b) rfl
  have fr := fun j => frozenRow HB4.out j
  cases c
  · have HV2 : Hid (V = (i, true)) := Lib.hid (by rw [HV.out]; rfl)
    have hb := setBlock HB4.out 2 (.bool true)
    have hu := (Upd.refl (fun k => k = rb) w4).setCell (p := ⟨rb, 2, none⟩) (.inl rfl) (.bool true)
    have HB := Lib.hid hb
    have HU := Lib.hid hu
    clear hb hu
    go_wp2_with fail
    refine bodyPost_ret (v := .tuple #[]) (by simp [results, Tryz.results63, go_sem]) rfl ?_
    rw [HV2.out]
    exact ⟨rfl, (H4.out.mono (fun _ _ h => h.elim)).trans HU.out, HR4.out.to HU.out (by simpa using HB.out)⟩
  · have HV2 : Hid (V = (i + 1, false)) := Lib.hid (by rw [HV.out]; rfl)
    have hbf := HVB.out (by simp)
    subst hbf
    have hw1 : IntKind.i64.wrap ((i : Int) + 1) = (i : Int) + 1 := IntWalk.i64_in _ (by omega)
    have hb := setBlock HB4.out 1 (.int .i64 ((i : Int) + 1))
    have hu := (Upd.refl (fun k => k = rb) w4).setCell (p := ⟨rb, 1, none⟩) (.inl rfl) (.int .i64 ((i : Int) + 1))
    have HB := Lib.hid hb
    have HU := Lib.hid hu
    clear hb hu
    go_wp2_with fail
    go_end0
    rw [HV2.out]
    exact ⟨rfl, (H4.out.mono (fun _ _ h => h.elim)).trans HU.out, HR4.out.to HU.out (by simpa using HB.out)⟩
def nameF (l : List Tok) (i : Nat) (b : Bool) : By × Nat × Bool := if b = false ∧ (tk l i).kind = 1 then ((tk l i).text, i + 1, false) else (nul, i, true)
set_option maxRecDepth 100000 in
set_option maxHeartbeats 2000000 in
theorem name_x (rb : Nat) (la : Option Addr) (lc : Nat) (S : Nat → Prop) (l : List Tok) (i : Nat) (b : Bool) (w : World) (hR : Rd rb la lc S l w i b) (hi : i < l.length) (hl : l.length ≤ 1000000) :
    Calls Tryz.prog 60 #[.pointer (some ⟨rb, 0, none⟩)] w fun e w' => e = .returned (.string (nameF l i b).1) ∧ RdP rb la lc S l w w' (nameF l i b).2 := by
  obtain ⟨gg, off, hga, hSg, hat⟩ := (TkR.at_ hR.tk (Nat.lt_of_le_of_lt (Nat.zero_le _) hi)).2
  subst hga
  obtain ⟨q0, q1, q2, q3, q4⟩ := hat i hi
  have HR := Lib.hid hR
  obtain ⟨⟨kd, tx, tn, tl, tc⟩, ht⟩ : ∃ t, tk l i = t := ⟨_, rfl⟩
  rw [ht] at q0 q1 q2 q3 q4
  try rw [ht]
  have i0 : (0 : Int) ≤ (i : Int) := by omega
  have i1 : (i : Int) < (l.length : Int) := by omega
  dsimp only at q0 q1 q2 q3 q4
  clear hat hR
  have HV : Hid (nameF l i b = if b = false ∧ (tk l i).kind = 1 then ((tk l i).text, i + 1, false) else (nul, i, true)) := Lib.hid rfl
  obtain ⟨V, hV⟩ : ∃ V, nameF l i b = V := ⟨_, rfl⟩
  rw [hV] at HV ⊢
  rw [ht] at HV
  dsimp only at HV
  clear hV ht
  have HB := Lib.hid HR.out.box
  go_enter Tryz.func60, Tryz.ntmps60
  have c0 := cellRow HB.out 0 (.slice (some ⟨gg, off, none⟩) l.length lc) rfl
  have c1 := cellRow HB.out 1 (.int .i64 (i : Int)) rfl
  have c2 := cellRow HB.out 2 (.bool b) rfl
  have fr := fun j => frozenRow HB.out j
  have c0 := c0
  by_cases hok : b = false ∧ kd = 1
  · obtain ⟨rfl, rfl⟩ := hok
    have HV2 : Hid (V = (tx, i + 1, false)) := Lib.hid (by rw [HV.out, if_pos ⟨rfl, rfl⟩])
    have hw1 : IntKind.i64.wrap ((i : Int) + 1) = (i : Int) + 1 := IntWalk.i64_in _ (by omega)
    have hw2 : IntKind.i64.wrap ((i : Int) + 1 - 1) = (i : Int) := by rw [IntWalk.i64_in _ (by omega)]; omega
    go_upto_region 1 with fail
    go_quiet (fail)
    have HD := Lib.hid ((Upd.refl (fun _ => False) w).drewN' nq)
    have HRD := Lib.hid (HR.out.ext HD.out)
    have HBD := Lib.hid HRD.out.box
    have q1 := HD.out.cell q1 (fun h => h)
    clear c0 c1 c2 fr q0 q2 q3 q4
    generalize w.drewN nq = wd at *
    have c0 := cellRow HBD.out 0 (.slice (some ⟨gg, off, none⟩) l.length lc) rfl
    have c1 := cellRow HBD.out 1 (.int .i64 (i : Int)) rfl
    have c2 := cellRow HBD.out 2 (.bool false) rfl
    have fr := fun j => frozenRow HBD.out j
    go_upto_region 5 with fail
    have hb := setBlock HBD.out 1 (.int .i64 ((i : Int) + 1))
    have hu := (Upd.refl (fun k => k = rb) wd).setCell (p := ⟨rb, 1, none⟩) (.inl rfl) (.int .i64 ((i : Int) + 1))
    have hne : gg ≠ rb := fun e => HRD.out.apart (by rw [← e]; exact hSg)
    have q1 := hu.cell q1 hne
    have HB8 : Hid ((wd.setCell ⟨rb, 1, none⟩ (.int .i64 ((i : Int) + 1))).heap[rb]? = some (.cells #[.slice (some ⟨gg, off, none⟩) l.length lc, .int .i64 ((i : Int) + 1), .bool false] 103 (0, 0))) := Lib.hid (by simpa using hb)
    have HU8 := Lib.hid hu
    generalize wd.setCell ⟨rb, 1, none⟩ (.int .i64 ((i : Int) + 1)) = w8 at *
    clear hb hu c0 c1 c2 fr
    have c0 := cellRow HB8.out 0 (.slice (some ⟨gg, off, none⟩) l.length lc) rfl
    have c1 := cellRow HB8.out 1 (.int .i64 ((i : Int) + 1)) rfl
    have c2 := cellRow HB8.out 2 (.bool false) rfl
    go_quiet (fail)
    have HU9 := Lib.hid (((HD.out.mono (fun _ _ h => h.elim)).trans HU8.out).drewN' nq)
    have HB9 := Lib.hid (((Upd.refl (fun _ => False) w8).drewN' nq).heap HB8.out (fun h => h))
    go_wp2_with fail
    go_ret
    rw [HV2.out]
    exact ⟨rfl, HU9.out, HR.out.to HU9.out HB9.out⟩
  · have HV2 : Hid (V = (nul, i, true)) := Lib.hid (by rw [HV.out, if_neg hok])
    have t1 : b = false → ((kd : Int) == 1) = false ∧ ((kd : Int) != 1) = true := fun hb => ⟨beq_eq_false_iff_ne.2 (fun e => hok ⟨hb, by omega⟩), bne_iff_ne.2 (fun e => hok ⟨hb, by omega⟩)⟩
    clear hok HV
    go_upto_region 1 with fail
    cases b
    · obtain ⟨t1, t2⟩ := t1 rfl
      go_quiet (fail)
      have HD := Lib.hid ((Upd.refl (fun _ => False) w).drewN' nq)
      have HRD := Lib.hid (HR.out.ext HD.out)
      have HBD := Lib.hid HRD.out.box
      clear c0 c1 c2 fr q0 q1 q2 q3 q4
      generalize w.drewN nq = wd at *
      have c0 := cellRow HBD.out 0 (.slice (some ⟨gg, off, none⟩) l.length lc) rfl
      have c1 := cellRow HBD.out 1 (.int .i64 (i : Int)) rfl
      have c2 := cellRow HBD.out 2 (.bool false) rfl
      have fr := fun j => frozenRow HBD.out j
      have hb := setBlock HBD.out 2 (.bool true)
      have hu := (Upd.refl (fun k => k = rb) wd).setCell (p := ⟨rb, 2, none⟩) (.inl rfl) (.bool true)
      have HB := Lib.hid hb
      have HU := Lib.hid hu
      clear hb hu
      go_wp2_with fail
      go_ret
      rw [HV2.out]
      exact ⟨rfl, (HD.out.mono (fun _ _ h => h.elim)).trans HU.out, HRD.out.to HU.out (by simpa using HB.out)⟩
    · go_quiet (fail)
      have HD := Lib.hid ((Upd.refl (fun _ => False) w).drewN' nq)
      have HRD := Lib.hid (HR.out.ext HD.out)
      have HBD := Lib.hid HRD.out.box
      clear c0 c1 c2 fr q0 q1 q2 q3 q4
      generalize w.drewN nq = wd at *
      have c0 := cellRow HBD.out 0 (.slice (some ⟨gg, off, none⟩) l.length lc) rfl
      have c1 := cellRow HBD.out 1 (.int .i64 (i : Int)) rfl
      have c2 := cellRow HBD.out 2 (.bool true) rfl
      have fr := fun j => frozenRow HBD.out j
      have hb := setBlock HBD.out 2 (.bool true)
      have hu := (Upd.refl (fun k => k = rb) wd).setCell (p := ⟨rb, 2, none⟩) (.inl rfl) (.bool true)
      have HB := Lib.hid hb
      have HU := Lib.hid hu
      clear hb hu
      go_wp2_with fail
      go_ret
      rw [HV2.out]
      exact ⟨rfl, (HD.out.mono (fun _ _ h => h.elim)).trans HU.out, HRD.out.to HU.out (by simpa using HB.out)⟩

end Go.Proofs.YtjjaknmnhhfjeaaGreatDoor

/- A list in parentheses. -/
namespace Go.Proofs.YtjjaknmnhhfjeaaGreatDoor
open Go.RowKit Go.Hw Go
set_option linter.unusedVariables false
set_option linter.unusedSimpArgs false

open Tm
def ElP {α : Type} (K : List α → Nat → Bool → World → Prop) (xs : List α) (r : PR α) (W : World) : Prop := match r with
  | .ok x j => K (xs ++ [x]) j false W
  | .bad j => ∃ ys, K ys j true W
def LsP {α : Type} (K : List α → Nat → Bool → World → Prop) (r : PR (List α)) (W : World) : Prop := match r with
  | .ok xs j => K xs j false W
  | .bad j => ∃ ys, K ys j true W
set_option maxRecDepth 100000 in
set_option maxHeartbeats 4000000 in
theorem list111_x {α : Type} (el : Nat → PR α) (K : List α → Nat → Bool → World → Prop) (K0 : List α → Nat → World → Prop) (rb : Nat) (la : Option Addr) (lc : Nat) (S : Nat → Prop) (l : List Tok) (tb rx : Nat) (hE : Ended l) (hf : Fwd l el) (hl : l.length ≤ 1000000)
    (hK1 : ∀ xs i b W, K xs i b W → Rd rb la lc S l W i b)
    (hK2 : ∀ xs i b W W' i' b', K xs i b W → i ≤ i' → (b = true → b' = true) → Upd (fun k => k = rb) W W' → Rd rb la lc S l W' i' b' → K xs i' b' W')
    (hK0 : ∀ xs i W W', K xs i false W → Upd (fun k => k = rb) W W' → Rd rb la lc S l W' i true → K0 xs i W')
    (h1 : ∀ xs i W, K xs i false W → i < l.length → Calls Tryz.prog 111 #[.pointer (some ⟨tb, 0, none⟩), .pointer (some ⟨rx, 0, none⟩)] W fun e W' => e = .returned (.tuple #[]) ∧ ElP K xs (el i) W')
    (h2 : ∀ xs i W, K0 xs i W → i < l.length → Calls Tryz.prog 111 #[.pointer (some ⟨tb, 0, none⟩), .pointer (some ⟨rx, 0, none⟩)] W fun e W' => e = .returned (.tuple #[]) ∧ ∃ ys, K ys i true W')
    (i : Nat) (b : Bool) (w : World) (h0 : K [] i b w) (hi : i < l.length) :
    Calls Tryz.prog 61 #[.pointer (some ⟨rb, 0, none⟩), .func (.func 111) #[] #[.pointer (some ⟨tb, 0, none⟩), .pointer (some ⟨rx, 0, none⟩)]] w fun e w' => e = .returned (.tuple #[]) ∧ LsP K (if b = true then .bad i else pP el l i) w' := by
  have hK1 := Lib.hid hK1
  have hK2 := Lib.hid hK2
  have hK0 := Lib.hid hK0
  have h1 := Lib.hid h1
  have h2 := Lib.hid h2
  have hf := Lib.hid hf
  have hE := Lib.hid hE
  have H0 := Lib.hid h0
  obtain ⟨R, hR⟩ : ∃ R, (if b = true then .bad i else pP el l i) = R := ⟨_, rfl⟩
  rw [hR]
  have HR := Lib.hid hR
  have HTK := Lib.hid (take_x rb la lc S l i b sLp w (hK1.out _ _ _ _ h0) hi hl)
  have hs1 : (⟨#[40]⟩ : By) = sLp := rfl
  have heg : ∀ args W, (callFunc 111 args).run Tryz.prog W = .ok (.enter 111 args) W := enters_of Tryz.func111 (by kernel_rfl) rfl
  obtain ⟨⟨i1, b1⟩, htk⟩ : ∃ p, takeF l i b sLp = p := ⟨_, rfl⟩
  rw [htk] at HTK
  have HII : Hid (i ≤ i1 ∧ (b = true → b1 = true)) := Lib.hid (by
    unfold takeF at htk
    split at htk
    · rename_i hc
      injection htk with e1 e2
      refine ⟨by omega, fun hb => ?_⟩
      rw [hb] at hc
      simp at hc
    · injection htk with e1 e2
      exact ⟨by omega, fun _ => e2.symm⟩)
  have HST : Hid (i1 < l.length ∧ R = (if b1 = true then .bad i1 else pL el l (l.length - i) i1 true []) ∧ l.length - i1 ≤ l.length - i) := Lib.hid (by
    rw [← hR]
    unfold takeF at htk
    unfold pP
    cases b
    · rw [Bool.not_false, Bool.true_and] at htk
      rw [if_neg (by decide)]
      by_cases hc : isB (tk l i) sLp = true
      · rw [if_pos hc] at htk ⊢
        injection htk with e1 e2
        subst e1; subst e2
        exact ⟨hE.out.isB hi hc, rfl, by omega⟩
      · rw [if_neg hc] at htk ⊢
        injection htk with e1 e2
        subst e1; subst e2
        exact ⟨hi, rfl, Nat.le_refl _⟩
    · rw [if_neg (by simp)] at htk
      injection htk with e1 e2
      subst e1; subst e2
      exact ⟨hi, rfl, Nat.le_refl _⟩)
  clear h0 hR htk HR
  go_enter Tryz.func61, Tryz.ntmps61
  rw [hs1]
  go_wp2_with fail
  refine HTK.out.mono ?_
  rintro e w4 ⟨rfl, hu4, hr4⟩
  have HK4 := Lib.hid (hK2.out _ _ _ _ _ _ _ H0.out HII.out.1 HII.out.2 hu4 hr4)
  obtain ⟨hi1, hR1, hm1⟩ := HST.out
  have HR1 := Lib.hid hR1
  clear hu4 hr4 HTK H0 HST hR1 hs1
  go_wp2_with fail
  go_loopg [4] (if b1 = true then 0 else l.length - i1) (fun gk x4 wr => ∃ (xs : List α) (i : Nat) (b : Bool) (m : Nat) (first : Bool), x4 = .bool first ∧ gk = (if b = true then 0 else l.length - i) ∧ i < l.length ∧ l.length - i ≤ m ∧ Hid (K xs i b wr) ∧ Hid (R = (if b = true then .bad i else pL el l m i first xs)))
  case atStart => exact ⟨[], i1, b1, l.length - i, true, rfl, rfl, hi1, hm1, HK4, HR1⟩
  case round =>
    clear HK4 HR1 hi1 hm1 hi
    obtain ⟨xs, i, b, m, first, rfl, rfl, hi, hm, HK, HR⟩ := hrel
    have HRd := Lib.hid (hK1.out _ _ _ _ HK.out)
    have HBx := Lib.hid HRd.out.box
    have c0 := cellRow HBx.out 0 (.slice la l.length lc) rfl
    have c1 := cellRow HBx.out 1 (.int .i64 (i : Int)) rfl
    have c2 := cellRow HBx.out 2 (.bool b) rfl
    have hs2 : (⟨#[41]⟩ : By) = sRp := rfl
    have hs3 : (⟨#[44]⟩ : By) = sCm := rfl
    cases b
    case true =>
      have HR2 : Hid (R = .bad i) := Lib.hid (by rw [HR.out, if_pos rfl])
      have HTK := Lib.hid (take_x rb la lc S l i true sRp wr HRd.out hi hl)
      have hte : takeF l i true sRp = (i, true) := by unfold takeF; rw [if_neg (by simp)]
      rw [hte] at HTK
      clear hte HR
      go_wp2_with fail
      try rw [hs2]
      refine HTK.out.mono ?_
      rintro e w5 ⟨rfl, hu5, hr5⟩
      have HK5 := Lib.hid (hK2.out _ _ _ _ _ _ _ HK.out (Nat.le_refl _) (fun h => h) hu5 hr5)
      clear hu5 hr5 HTK
      go_wp2_with fail
      go_end0
      rw [HR2.out]
      exact ⟨rfl, xs, HK5.out⟩
    obtain ⟨m, rfl⟩ : ∃ m', m = m' + 1 := ⟨m - 1, by omega⟩
    have hr := HR.out
    rw [if_neg (by decide), pL] at hr
    have HIS := Lib.hid (is_x rb la lc S l i false sRp wr HRd.out hi hl)
    rw [Bool.not_false, Bool.true_and] at HIS
    obtain ⟨c, hc⟩ : ∃ c, isB (tk l i) sRp = c := ⟨_, rfl⟩
    rw [hc] at HIS hr
    have HC := Lib.hid hc
    have HR1 := Lib.hid hr
    clear hc hr HR
    go_wp2_with fail
    try rw [hs2]
    refine HIS.out.mono ?_
    rintro e w5 ⟨rfl, hw5⟩
    have hr5 := HRd.out.ext hw5
    have HK5 := Lib.hid (hK2.out _ _ _ _ _ _ _ HK.out (Nat.le_refl _) (fun h => h) (hw5.mono (fun _ _ h => h.elim)) hr5)
    have HRd5 := Lib.hid hr5
    clear hw5 hr5 HIS HBx c0 c1 c2 HRd HK
    cases c
    case true =>
      have HR2 : Hid (R = .ok xs (i + 1)) := Lib.hid (by rw [HR1.out, if_pos rfl])
      have HTK := Lib.hid (take_x rb la lc S l i false sRp w5 HRd5.out hi hl)
      have hte : takeF l i false sRp = (i + 1, false) := by unfold takeF; rw [HC.out, if_pos (by simp)]
      rw [hte] at HTK
      clear hte HR1
      go_wp2_with fail
      try rw [hs2]
      refine HTK.out.mono ?_
      rintro e w6 ⟨rfl, hu5, hr5⟩
      have HK6 := Lib.hid (hK2.out _ _ _ _ _ _ _ HK5.out (Nat.le_succ _) (fun h => h) hu5 hr5)
      clear hu5 hr5 HTK
      go_wp2_with fail
      go_end0
      rw [HR2.out]
      exact ⟨rfl, HK6.out⟩
    have hr := HR1.out
    rw [if_neg (by decide)] at hr
    cases first
    case true =>
      have HR2 : Hid (R = match el i with | .bad j => .bad j | .ok x j => pL el l m j false (xs ++ [x])) := Lib.hid (by rw [hr, if_neg (by simp), if_pos rfl]; cases el i <;> rfl)
      have HEL := Lib.hid (h1.out xs i w5 HK5.out hi)
      clear hr HR1 HC
      obtain ⟨q, hq⟩ : ∃ q, el (i) = q := ⟨_, rfl⟩
      have HFW := Lib.hid (hf.out (i) (by omega))
      rw [hq] at HEL HR2 HFW
      clear hq
      go_wp2_with fail
      refine HEL.out.mono ?_
      rintro e w7 ⟨rfl, hP⟩
      cases q with
      | ok x j =>
        have HK7 : Hid (K (xs ++ [x]) j false w7) := Lib.hid hP
        have hfw := HFW.out
        have hij := hfw.2.2 x j rfl
        have hjl : j < l.length := hfw.2.1
        have HR3 : Hid (R = if false = true then .bad j else pL el l m j false (xs ++ [x])) := Lib.hid (by rw [HR2.out]; rfl)
        clear hP hfw HFW HEL HR2
        go_wp2_with fail
        go_roundg (if false = true then 0 else l.length - j)
        case measure => simp; omega
        case rel => exact ⟨xs ++ [x], j, false, m, false, rfl, rfl, hjl, by omega, HK7, HR3⟩
      | bad j =>
        obtain ⟨ys, hy⟩ : ∃ ys, K ys j true w7 := hP
        have HK7 : Hid (K ys j true w7) := Lib.hid hy
        have hjl : j < l.length := HFW.out.2.1
        have HR3 : Hid (R = if true = true then .bad j else pL el l l.length j false ys) := Lib.hid (by rw [HR2.out]; rfl)
        clear hy HFW HEL HR2
        go_wp2_with fail
        go_roundg (if true = true then 0 else l.length - j)
        case measure => simp; omega
        case rel => exact ⟨ys, j, true, l.length, false, rfl, rfl, hjl, by omega, HK7, HR3⟩
    have HTK := Lib.hid (take_x rb la lc S l i false sCm w5 HRd5.out hi hl)
    obtain ⟨c2, hc2⟩ : ∃ c, isB (tk l i) sCm = c := ⟨_, rfl⟩
    have hte : takeF l i false sCm = if c2 = true then (i + 1, false) else (i, true) := by unfold takeF; rw [hc2]; simp
    rw [hte] at HTK
    rw [hc2] at hr
    have HC2 := Lib.hid hc2
    clear hte hc2 HR1 HC
    cases c2
    case false =>
      have HR2 : Hid (R = .bad i) := Lib.hid (by rw [hr, if_pos ⟨rfl, rfl⟩])
      rw [if_neg (by decide)] at HTK
      clear hr
      go_wp2_with fail
      try rw [hs3]
      refine HTK.out.mono ?_
      rintro e w6 ⟨rfl, hu5, hr5⟩
      have HK6 := Lib.hid (hK0.out _ _ _ _ HK5.out hu5 hr5)
      have HEL := Lib.hid (h2.out xs i w6 HK6.out hi)
      clear hu5 hr5 HTK
      go_wp2_with fail
      refine HEL.out.mono ?_
      rintro e w7 ⟨rfl, ys, hy⟩
      have HK7 : Hid (K ys i true w7) := Lib.hid hy
      have HR3 : Hid (R = if true = true then .bad i else pL el l l.length i false ys) := Lib.hid (by rw [HR2.out]; rfl)
      clear hy HEL HR2
      go_wp2_with fail
      go_roundg (if true = true then 0 else l.length - i)
      case measure => simp; omega
      case rel => exact ⟨ys, i, true, l.length, false, rfl, rfl, hi, by omega, HK7, HR3⟩
    have hi2 := hE.out.isB hi HC2.out
    have HR2 : Hid (R = match el (i + 1) with | .bad j => .bad j | .ok x j => pL el l m j false (xs ++ [x])) := Lib.hid (by rw [hr, if_neg (by simp), if_neg (by decide)]; cases el (i + 1) <;> rfl)
    rw [if_pos rfl] at HTK
    clear hr
    go_wp2_with fail
    try rw [hs3]
    refine HTK.out.mono ?_
    rintro e w6 ⟨rfl, hu5, hr5⟩
    have HK6 := Lib.hid (hK2.out _ _ _ _ _ _ _ HK5.out (Nat.le_succ _) (fun h => h) hu5 hr5)
    have HEL := Lib.hid (h1.out xs (i + 1) w6 HK6.out hi2)
    clear hu5 hr5 HTK
    obtain ⟨q, hq⟩ : ∃ q, el (i + 1) = q := ⟨_, rfl⟩
    have HFW := Lib.hid (hf.out (i + 1) (by omega))
    rw [hq] at HEL HR2 HFW
    clear hq
    go_wp2_with fail
    refine HEL.out.mono ?_
    rintro e w7 ⟨rfl, hP⟩
    cases q with
    | ok x j =>
      have HK7 : Hid (K (xs ++ [x]) j false w7) := Lib.hid hP
      have hfw := HFW.out
      have hij := hfw.2.2 x j rfl
      have hjl : j < l.length := hfw.2.1
      have HR3 : Hid (R = if false = true then .bad j else pL el l m j false (xs ++ [x])) := Lib.hid (by rw [HR2.out]; rfl)
      clear hP hfw HFW HEL HR2
      go_wp2_with fail
      go_roundg (if false = true then 0 else l.length - j)
      case measure => simp; omega
      case rel => exact ⟨xs ++ [x], j, false, m, false, rfl, rfl, hjl, by omega, HK7, HR3⟩
    | bad j =>
      obtain ⟨ys, hy⟩ : ∃ ys, K ys j true w7 := hP
      have HK7 : Hid (K ys j true w7) := Lib.hid hy
      have hjl : j < l.length := HFW.out.2.1
      have HR3 : Hid (R = if true = true then .bad j else pL el l l.length j false ys) := Lib.hid (by rw [HR2.out]; rfl)
      clear hy HFW HEL HR2
      go_wp2_with fail
      go_roundg (if true = true then 0 else l.length - j)
      case measure => simp; omega
      case rel => exact ⟨ys, j, true, l.length, false, rfl, rfl, hjl, by omega, HK7, HR3⟩

end Go.Proofs.YtjjaknmnhhfjeaaGreatDoor

/- A part that was read is appended: what holds behind it. -/
namespace Go.Proofs.YtjjaknmnhhfjeaaGreatDoor
open Go.RowKit Go.Hw Go
set_option linter.unusedVariables false
set_option linter.unusedSimpArgs false

open Tm
def TmM (rb : Nat) (la : Option Addr) (lc : Nat) (S : Nat → Prop) (l : List Tok) (r : PR Tm) (t : Tm) (W' : World) : Prop := match r with
  | .ok t' j => t = t' ∧ Rd rb la lc S l W' j false
  | .bad j => Rd rb la lc S l W' j true
def TmP (rb : Nat) (la : Option Addr) (lc : Nat) (S : Nat → Prop) (l : List Tok) (r : PR Tm) (e : Ending) (W W' : World) : Prop :=
  ∃ (t : Tm) (u : Value) (B : Nat → Prop), e = .returned (tV t u) ∧ TlO 24 W' B t.kids u ∧ (∀ j, B j → W.heap.size ≤ j ∧ j < W'.heap.size) ∧ Upd (fun k => k = rb) W W' ∧ TmM rb la lc S l r t W'
structure KT (rb : Nat) (la : Option Addr) (lc : Nat) (S : Nat → Prop) (l : List Tok) (tb rx n0 : Nat) (nm : By) (w0 : World) (xs : List Tm) (i : Nat) (b : Bool) (W : World) : Prop where
  rd : Rd rb la lc S l W i b
  tbx : ∃ lv us Bk, W.heap[tb]? = some (.cells #[.string nm, .string nul, lv] 24 (0, 0)) ∧ CpJ 24 n0 W xs lv us Bk xs.length
  rxx : W.heap[rx]? = some (.cells #[.pointer (some ⟨rb, 0, none⟩)] 101 (0, 0))
  sz : n0 ≤ W.heap.size
  up : Upd (fun k => k = rb ∨ w0.heap.size ≤ k) w0 W
  ln : xs.length ≤ i + (if b = true then 1 else 0)
theorem CpJ.keep {te : TypeId} {n0 k : Nat} {W W' : World} {L : List Tm} {lv : Value} {us : List Value} {Bk : Nat → Nat → Prop} {F : Nat → Prop} (h : CpJ te n0 W L lv us Bk k) (hu : Upd F W W') (hF : ∀ j, n0 ≤ j → ¬ F j) : CpJ te n0 W' L lv us Bk k :=
  ⟨h.len, own_kept h.own hu (fun j hj => hF j (h.own.lt j hj).1), fun i hi => (h.kid i hi).kept hu (fun j hj => hF j (h.blk i j hi hj).1), fun i j hi hj => ⟨(h.blk i j hi hj).1, Nat.lt_of_lt_of_le (h.blk i j hi hj).2.1 hu.size, (h.blk i j hi hj).2.2⟩, h.dis⟩
theorem KT.to {rb : Nat} {la : Option Addr} {lc : Nat} {S : Nat → Prop} {l : List Tok} {tb rx n0 : Nat} {nm : By} {w0 W W' : World} {xs : List Tm} {i i' : Nat} {b b' : Bool} (h : KT rb la lc S l tb rx n0 nm w0 xs i b W) (h1 : rb < n0) (h2 : tb ≠ rb) (h3 : rx ≠ rb) (hii : i ≤ i') (hbb : b = true → b' = true) (hu : Upd (fun k => k = rb) W W') (hr : Rd rb la lc S l W' i' b') : KT rb la lc S l tb rx n0 nm w0 xs i' b' W' := by
  obtain ⟨lv, us, Bk, k1, k2⟩ := h.tbx
  exact ⟨hr, ⟨lv, us, Bk, hu.heap k1 h2, k2.keep hu (fun j hj e => by omega)⟩, hu.heap h.rxx h3, Nat.le_trans h.sz hu.size, h.up.trans (hu.mono fun _ _ e => .inl e), by
    have h4 := h.ln
    cases b
    · simp at h4; omega
    · rw [hbb rfl]; simp at h4 ⊢; omega⟩
theorem el3_upd (W : World) (z m : Nat) (u0 u1 u2 : Value) : Upd (fun k => k = z) W (((W.setCell ⟨z, m, none⟩ u0).setCell ⟨z, m + 1, none⟩ u1).setCell ⟨z, m + 2, none⟩ u2) :=
  (((Upd.refl (fun k => k = z) W).setCell (p := ⟨z, m, none⟩) (.inl rfl) u0).setCell (p := ⟨z, m + 1, none⟩) (.inl rfl) u1).setCell (p := ⟨z, m + 2, none⟩) (.inl rfl) u2
theorem sbt_own {w : World} {b g n cap : Nat} {xs : List Value} (h : w.ownsRow b 24 3 (.slice (some ⟨g, 0, none⟩) n cap) n xs) (j : Nat) (u0 u1 u2 : Value) :
    (((w.setCell ⟨g, j, none⟩ u0).setCell ⟨g, j + 1, none⟩ u1).setCell ⟨g, j + 2, none⟩ u2).ownsRow b 24 3 (.slice (some ⟨g, 0, none⟩) n cap) n (((xs.set j u0).set (j + 1) u1).set (j + 2) u2) := own_setN (own_setN (own_setN h _ _) _ _) _ _
theorem set_end (cs : List Value) (m : Nat) (hm : cs.length = m) (a b c u0 u1 u2 : Value) : ((((cs ++ [a, b, c]).set m u0).set (m + 1) u1).set (m + 2) u2) = cs ++ [u0, u1, u2] := by
  subst hm
  apply List.ext_getElem?
  intro j
  rcases Nat.lt_trichotomy j cs.length with h | h | h
  · rw [List.getElem?_set_ne (by omega), List.getElem?_set_ne (by omega), List.getElem?_set_ne (by omega), List.getElem?_append_left h, List.getElem?_append_left h]
  · subst h
    rw [List.getElem?_set_ne (by omega), List.getElem?_set_ne (by omega), List.getElem?_set_self (by simp)]
    simp
  · rcases (by omega : j = cs.length + 1 ∨ j = cs.length + 2 ∨ cs.length + 3 ≤ j) with h | h | h
    · subst h
      rw [List.getElem?_set_ne (by omega), List.getElem?_set_self (by simp)]
      simp
    · subst h
      rw [List.getElem?_set_self (by simp)]
      simp
    · rw [List.getElem?_eq_none (by simp; omega), List.getElem?_eq_none (by simp; omega)]
theorem CpJ.snoc {n0 : Nat} {W W1 w5 w8 : World} {xs : List Tm} {lv lv' u : Value} {us : List Value} {Bk : Nat → Nat → Prop} {Bx F : Nat → Prop} {t : Tm} (h : CpJ 24 n0 W xs lv us Bk xs.length) (h0 : n0 ≤ W.heap.size) (h1 : Ext W W1) (hu : Upd (fun k => k < n0) W1 w5)
    (hT : TlO 24 w5 Bx t.kids u) (hB : ∀ j, Bx j → W1.heap.size ≤ j ∧ j < w5.heap.size) (h8 : Upd F w5 w8) (hF : ∀ j, F j → j < n0 ∨ lv.ownBlock = some j)
    (hl : ∀ j, lv'.ownBlock = some j → lv.ownBlock = some j ∨ w5.heap.size ≤ j) (ho : w8.ownsRow n0 24 3 lv' (xs.length + 1) (tCells xs us ++ [.string t.name, .string t.sort, u])) :
    CpJ 24 n0 w8 (xs ++ [t]) lv' (us ++ [u]) (fun i => if i = xs.length then Bx else Bk i) (xs ++ [t]).length := by
  have hw5 : Upd (fun k => k < n0) W w5 := (h1.mono (fun _ _ h => h.elim)).trans hu
  have hlt := fun j hj => h.own.lt j hj
  have hs1 := h1.size
  have hs5 := hu.size
  have hs8 := h8.size
  rw [List.length_append, List.length_singleton]
  refine ⟨by rw [List.length_append, h.len]; rfl, ?_, fun i hi => ?_, fun i j hi hj => ?_, fun i i' j hi hi' hne hj => ?_⟩
  · rw [List.take_of_length_le (by simp), tCells_snoc _ _ _ _ h.len]
    exact ho
  · by_cases e : i = xs.length
    · subst e
      rw [if_pos rfl]
      have e2 : ug (us ++ [u]) xs.length = u := by unfold ug; rw [List.getD_eq_getElem?_getD, List.getElem?_append_right (by rw [h.len]; exact Nat.le_refl _), h.len, Nat.sub_self]; rfl
      have e3 : tg (xs ++ [t]) xs.length = t := by unfold tg; rw [List.getD_eq_getElem?_getD, List.getElem?_append_right (Nat.le_refl _), Nat.sub_self]; rfl
      rw [e2, e3]
      refine hT.kept h8 (fun j hj e => ?_)
      have h2 := (hB j hj).1
      rcases hF j e with h3 | h3
      · omega
      · have := (hlt j h3).2; omega
    · rw [if_neg e]
      have e2 : ug (us ++ [u]) i = ug us i := by unfold ug; rw [List.getD_eq_getElem?_getD, List.getD_eq_getElem?_getD, List.getElem?_append_left (by rw [h.len]; omega)]
      have e3 : tg (xs ++ [t]) i = tg xs i := by unfold tg; rw [List.getD_eq_getElem?_getD, List.getD_eq_getElem?_getD, List.getElem?_append_left (by omega)]
      rw [e2, e3]
      have hb := fun j hj => h.blk i j (by omega) hj
      exact ((h.kid i (by omega)).kept hw5 (fun j hj e => by have := (hb j hj).1; omega)).kept h8 (fun j hj e => by
        rcases hF j e with h3 | h3
        · have := (hb j hj).1; omega
        · exact (hb j hj).2.2 h3)
  · by_cases e : i = xs.length
    · subst e
      rw [if_pos rfl] at hj
      have h2 := hB j hj
      refine ⟨by omega, by omega, fun e => ?_⟩
      rcases hl j e with h3 | h3
      · have := (hlt j h3).2; omega
      · omega
    · rw [if_neg e] at hj
      obtain ⟨b1, b2, b3⟩ := h.blk i j (by omega) hj
      refine ⟨b1, by omega, fun e => ?_⟩
      rcases hl j e with h3 | h3
      · exact b3 h3
      · omega
  · by_cases e : i = xs.length
    · subst e
      rw [if_pos rfl] at hj
      have h2 := hB j hj
      rw [if_neg (fun e => hne e.symm)]
      intro h3
      have := (h.blk i' j (by omega) h3).2.1
      omega
    · rw [if_neg e] at hj
      by_cases e' : i' = xs.length
      · subst e'
        rw [if_pos rfl]
        intro h3
        have h4 := hB j h3
        have := (h.blk i j (by omega) hj).2.1
        omega
      · rw [if_neg e']
        exact h.dis i i' j (by omega) (by omega) hne hj
theorem part_fin {rb : Nat} {la : Option Addr} {lc : Nat} {S : Nat → Prop} {l : List Tok} {tb rx n0 : Nat} {nm : By} {w0 w w5 wA w7 w8 : World} {xs : List Tm} {i : Nat} {b : Bool} {r : PR Tm} {t : Tm} {us : List Value} {Bk : Nat → Nat → Prop} {Bx : Nat → Prop} {la0 ya : Option Addr} {lc0 yc gn cn : Nat}
    (h1 : rb < n0) (h2 : tb ≠ rb) (h3 : rx ≠ rb) (htb : tb < n0) (htb0 : w0.heap.size ≤ tb) (htx : rx ≠ tb) (hn0 : w0.heap.size ≤ n0) (hrx : rx < n0) (hrb : rb < w0.heap.size) (hSw : ∀ k, S k → k < w0.heap.size) (hln : xs.length ≤ i) (hat : ∀ x j, r = .ok x j → i < j) (hbt : ∀ j, r = .bad j → i ≤ j)
    (hK : KT rb la lc S l tb rx n0 nm w0 xs i b w) (hC : CpJ 24 n0 w xs (.slice la0 xs.length lc0) us Bk xs.length) (hW5 : ∃ W1, Ext w W1 ∧ Upd (fun k => k = rb) W1 w5 ∧ ∀ j, Bx j → W1.heap.size ≤ j ∧ j < w5.heap.size) (hT : TlO 24 w5 Bx t.kids (.slice ya t.kids.length yc))
    (hM : TmM rb la lc S l r t w5) (hA : Ext w5 wA)
    (hG : Grew n0 24 3 (.slice la0 xs.length lc0) (xs.length + 1) (tCells xs us ++ [Value.string ⟨#[]⟩, .string ⟨#[]⟩, .slice none 0 0]) wA w7 (.slice (some ⟨gn, 0, none⟩) (xs.length + 1) cn)) (hB : w7.heap[tb]? = some (.cells #[.string nm, .string nul, .slice la0 xs.length lc0] 24 (0, 0)))
    (h8 : w8 = ((((w7.setCell ⟨gn, xs.length * 3, none⟩ (.string t.name)).setCell ⟨gn, xs.length * 3 + 1, none⟩ (.string t.sort)).setCell ⟨gn, xs.length * 3 + 2, none⟩ (.slice ya t.kids.length yc)).setCell ⟨tb, 2, none⟩ (.slice (some ⟨gn, 0, none⟩) (xs.length + 1) cn)) ∨ w8 = ((((w7.setCell ⟨tb, 2, none⟩ (.slice (some ⟨gn, 0, none⟩) (xs.length + 1) cn)).setCell ⟨gn, xs.length * 3, none⟩ (.string t.name)).setCell ⟨gn, xs.length * 3 + 1, none⟩ (.string t.sort)).setCell ⟨gn, xs.length * 3 + 2, none⟩ (.slice ya t.kids.length yc))) : ElP (KT rb la lc S l tb rx n0 nm w0) xs r w8 := by
  obtain ⟨W1, hw1, hu1, hBx⟩ := hW5
  have hgn : n0 ≤ gn := (hG.own.lt gn rfl).1
  have hset := set_end (tCells xs us) (xs.length * 3) (tCells_len xs us) (.string ⟨#[]⟩) (.string ⟨#[]⟩) (.slice none 0 0) (.string t.name) (.string t.sort) (.slice ya t.kids.length yc)
  have key : w8.ownsRow n0 24 3 (.slice (some ⟨gn, 0, none⟩) (xs.length + 1) cn) (xs.length + 1) (tCells xs us ++ [.string t.name, .string t.sort, .slice ya t.kids.length yc]) ∧ w8.heap[tb]? = some (.cells #[.string nm, .string nul, .slice (some ⟨gn, 0, none⟩) (xs.length + 1) cn] 24 (0, 0)) ∧ Upd (fun k => k = gn ∨ k = tb) w7 w8 := by
    rcases h8 with rfl | rfl
    · have hu := el3_upd w7 gn (xs.length * 3) (.string t.name) (.string t.sort) (.slice ya t.kids.length yc)
      have ho := sbt_own hG.own (xs.length * 3) (.string t.name) (.string t.sort) (.slice ya t.kids.length yc)
      rw [hset] at ho
      have hb := hu.heap hB (by omega)
      refine ⟨own_kept ho ((Upd.refl (fun k => k = tb) _).setCell (p := ⟨tb, 2, none⟩) (.inl rfl) _) (fun j hj e => ?_), by have := setBlock hb 2 (.slice (some ⟨gn, 0, none⟩) (xs.length + 1) cn); simpa using this, (hu.mono (fun _ _ e => .inl e)).setCell (p := ⟨tb, 2, none⟩) (.inl (.inr rfl)) _⟩
      have hj2 : gn = j := Option.some.inj hj
      omega
    · have hut := (Upd.refl (fun k => k = tb) w7).setCell (p := ⟨tb, 2, none⟩) (.inl rfl) (.slice (some ⟨gn, 0, none⟩) (xs.length + 1) cn)
      have hot := own_kept hG.own hut (fun j hj e => by have hj2 : gn = j := Option.some.inj hj; omega)
      have ho := sbt_own hot (xs.length * 3) (.string t.name) (.string t.sort) (.slice ya t.kids.length yc)
      rw [hset] at ho
      have hu := el3_upd (w7.setCell ⟨tb, 2, none⟩ (.slice (some ⟨gn, 0, none⟩) (xs.length + 1) cn)) gn (xs.length * 3) (.string t.name) (.string t.sort) (.slice ya t.kids.length yc)
      have hb := setBlock hB 2 (.slice (some ⟨gn, 0, none⟩) (xs.length + 1) cn)
      exact ⟨ho, hu.heap (by simpa using hb) (by omega), (hut.mono (fun _ _ e => .inr e)).trans (hu.mono (fun _ _ e => .inl e))⟩
  obtain ⟨ho8, hb8, hu78⟩ := key
  have hl : ∀ j, (Value.slice (some ⟨gn, 0, none⟩) (xs.length + 1) cn).ownBlock = some j → (Value.slice la0 xs.length lc0).ownBlock = some j ∨ w5.heap.size ≤ j := fun j e => by
    rcases hG.where_ with h | h
    · rw [h] at e; exact .inl e
    · rw [h] at e; injection e with e; have := hA.size; exact .inr (by omega)
  have hu58 : Upd (fun j => j = tb ∨ (Value.slice la0 xs.length lc0).ownBlock = some j) w5 w8 := (((hA.mono (fun _ _ h => h.elim)).trans (hG.upd.mono (fun _ _ e => .inr e)))).trans' hu78 (fun j hj e => by
    rcases e with e | e
    · rcases hl j (by rw [e]; rfl) with h | h
      · exact .inr h
      · omega
    · exact .inl e)
  have hown := hC.own
  have hlt := fun j hj => (hown.lt j hj).1
  have hC8 := hC.snoc (lv' := .slice (some ⟨gn, 0, none⟩) (xs.length + 1) cn) hK.sz hw1 (hu1.mono (fun k _ e => by omega)) hT hBx hu58 (fun j hj => hj.imp (fun e => by omega) id) hl ho8
  have hu5 : Upd (fun k => k = rb) w w5 := (hw1.mono (fun _ _ h => h.elim)).trans hu1
  have hR8 : ∀ j bb, Rd rb la lc S l w5 j bb → Rd rb la lc S l w8 j bb := fun j bb h => ⟨hu58.heap h.box (fun e => by
    rcases e with e | e
    · exact h2 e.symm
    · have := hlt _ e; omega), h.tk.kept hu58 (fun k hk e => by
    have := hSw k hk
    rcases e with e | e
    · omega
    · have := hlt _ e; omega), h.apart⟩
  have hrx8 := hu58.heap (hu5.heap hK.rxx h3) (fun e => by
    rcases e with e | e
    · exact htx e
    · have := hlt _ e; omega)
  have hsz8 : n0 ≤ w8.heap.size := Nat.le_trans hK.sz (Nat.le_trans hu5.size hu58.size)
  have hup8 : Upd (fun k => k = rb ∨ w0.heap.size ≤ k) w0 w8 := (hK.up.trans (hu5.mono fun _ _ e => .inl e)).trans (hu58.mono fun k _ e => .inr (by
    rcases e with e | e
    · omega
    · have := hlt _ e; omega))
  have hlen : (xs ++ [t]).length = xs.length + 1 := by simp
  cases r with
  | ok t' j =>
    obtain ⟨rfl, hr⟩ := hM
    exact ⟨hR8 j false hr, ⟨_, _, _, hb8, hC8⟩, hrx8, hsz8, hup8, by have := hat _ _ rfl; rw [hlen]; simp; omega⟩
  | bad j =>
    exact ⟨xs ++ [t], hR8 j true hM, ⟨_, _, _, hb8, hC8⟩, hrx8, hsz8, hup8, by have := hbt _ rfl; rw [hlen]; simp; omega⟩

end Go.Proofs.YtjjaknmnhhfjeaaGreatDoor

/- A part is read and appended. -/
namespace Go.Proofs.YtjjaknmnhhfjeaaGreatDoor
open Go.RowKit Go.Hw Go
set_option linter.unusedVariables false
set_option linter.unusedSimpArgs false
open Tm
set_option maxRecDepth 100000 in
set_option maxHeartbeats 8000000 in
theorem part_x (rb : Nat) (la : Option Addr) (lc : Nat) (S : Nat → Prop) (l : List Tok) (tb rx n0 : Nat) (nm : By) (w0 : World) (hl : l.length ≤ 1000000) (h1 : rb < n0) (h2 : tb ≠ rb) (h3 : rx ≠ rb) (htb : tb < n0) (htb0 : w0.heap.size ≤ tb) (htx : rx ≠ tb) (hn0 : w0.heap.size ≤ n0)
    (hrb : rb < w0.heap.size) (hSw : ∀ k, S k → k < w0.heap.size) (xs : List Tm) (i : Nat) (b : Bool) (w : World) (r : PR Tm) (h0 : KT rb la lc S l tb rx n0 nm w0 xs i b w) (hi : i < l.length) (hln : xs.length ≤ i) (hrx : rx < n0) (hat : ∀ x j, r = .ok x j → i < j) (hbt : ∀ j, r = .bad j → i ≤ j)
    (hix : ∀ W, Ext w W → Calls Tryz.prog 77 #[.pointer (some ⟨rb, 0, none⟩)] W fun e W' => TmP rb la lc S l r e W W') :
    Calls Tryz.prog 111 #[.pointer (some ⟨tb, 0, none⟩), .pointer (some ⟨rx, 0, none⟩)] w fun e w' => e = .returned (.tuple #[]) ∧ ElP (KT rb la lc S l tb rx n0 nm w0) xs r w' := by
  have HIX := Lib.hid hix
  have HK := Lib.hid h0
  obtain ⟨lv, us, Bk, htx2, hcp⟩ := h0.tbx
  obtain ⟨la0, lc0, hlv⟩ := own_shape hcp.own
  subst hlv
  have hown := hcp.own
  rw [List.take_length] at hown
  have HOW := Lib.hid hown
  have HCP := Lib.hid hcp
  have HTBX := Lib.hid htx2
  have HRN : Hid (rb < n0) := Lib.hid h1
  have HTR : Hid (tb ≠ rb) := Lib.hid h2
  have HSZ := Lib.hid h0.sz
  have HX1 : Hid (Ext w w.drew) := Lib.hid (Upd.refl (fun _ => False) w).drew
  have HX2 : Hid (Ext w (w.alloc (.cells #[.string ⟨#[]⟩, .string ⟨#[]⟩, .slice none 0 0] 24)).drew) := Lib.hid ((Upd.refl (fun _ => False) w).alloc _).drew
  have hrbw : rb < w.heap.size := (Array.getElem?_eq_some_iff.1 h0.rd.box).1
  have HRW : Hid (¬ w.heap.size = rb) := Lib.hid (by omega)
  have HNT : Hid (¬ (Value.slice la0 xs.length lc0).ownBlock = some tb) := Lib.hid (fun e => by have := (hown.lt _ e).1; omega)
  have HONE : Hid (∀ u ∈ [Value.string ⟨#[]⟩, .string ⟨#[]⟩, .slice none 0 0], u.oneCell' = true) := Lib.hid (fun u hu => by simp at hu; rcases hu with h | h <;> (subst h; rfl))
  have HLM : Hid (xs.length + 1 ≤ maxLen ∧ (xs.length + 1) * 56 ≤ 140737488355328) := Lib.hid ⟨by unfold maxLen; omega, by omega⟩
  have htl : (tCells xs us).length = xs.length * 3 := tCells_len xs us
  have HLA : Hid (∀ m, m < 3 → (tCells xs us ++ [Value.string ⟨#[]⟩, .string ⟨#[]⟩, .slice none 0 0])[xs.length * 3 + m]? = [Value.string ⟨#[]⟩, .string ⟨#[]⟩, .slice none 0 0][m]?) := Lib.hid (fun m hm => by rw [List.getElem?_append_right (by omega), htl]; congr 1; omega)
  obtain ⟨iT, hi0, hz0, hz1, hz2⟩ := info_parts infoT
  have hi := hi0
  have c2 := cellRow htx2 2 (.slice la0 xs.length lc0) rfl
  have r0 := cellRow h0.rxx 0 (.pointer (some ⟨rb, 0, none⟩)) rfl
  have c2b := ((Upd.refl (fun _ => False) w).alloc (.cells #[.string ⟨#[]⟩, .string ⟨#[]⟩, .slice none 0 0] 24)).cell c2 (fun h => h)
  have r0b := ((Upd.refl (fun _ => False) w).alloc (.cells #[.string ⟨#[]⟩, .string ⟨#[]⟩, .slice none 0 0] 24)).cell r0 (fun h => h)
  have k0 : (0 : Int) ≤ (xs.length : Int) := by omega
  have k1 : (xs.length : Int) < (xs.length : Int) + 1 := by omega
  have HTL := Lib.hid htl
  clear hix h0 htx2 hcp hown hrbw htl
  go_enter Tryz.func111, Tryz.ntmps111
  go_region_law (first
  | (refine step_append_at _ (.tmp 3) (.tmp 7) 22 rfl n0 24 iT (.agg #[.string ⟨#[]⟩, .string ⟨#[]⟩, .slice none 0 0]) 3 56 Tryz.underlying22 hi hz0 hz1 hz2 rfl (by decide) _ _ _ rfl (by first | exact HOA.out | exact HOB.out) _ 1 1 [Value.string ⟨#[]⟩, .string ⟨#[]⟩, .slice none 0 0] rfl rfl (by first | exact HNA.out | exact HNB.out) HONE.out HLM.out.1 HLM.out.2 (by first | exact HSA.out | exact HSB.out) ?_; intro v7 w7 hG7; obtain ⟨gn, cn, cur, hv7, hg7, hsz7⟩ := own_row0 hG7.own (Nat.succ_pos _); subst hv7; have hb7 := hG7.upd.heap (by first | exact HTA.out | exact HTB.out) HNT.out; have f7 := fun i => frozenRow hg7 i; have ft7 := fun i => frozenRow hb7 i; have t72 := cellRow hb7 2 (.slice la0 xs.length lc0) rfl; have g0 := (World.ownsRow.cellAt hG7.own (xs.length * 3) (by omega)).trans (HLA.out 0 (by omega)); have g1 := (World.ownsRow.cellAt hG7.own (xs.length * 3 + 1) (by omega)).trans (HLA.out 1 (by omega)); have g2 := (World.ownsRow.cellAt hG7.own (xs.length * 3 + 2) (by omega)).trans (HLA.out 2 (by omega)); have hgn := (hG7.own.lt gn rfl).1; have HNG : Hid (gn ≠ tb ∧ n0 ≤ gn) := Lib.hid ⟨by omega, hgn⟩; have tA := (el3_upd w7 gn (xs.length * 3) (.string t.name) (.string t.sort) (.slice ya t.kids.length yc)).cell t72 (by show ¬ tb = gn; have := HNG.out; omega); have hus := (Upd.refl (fun k => k = tb) w7).setCell (p := ⟨tb, 2, none⟩) (.inl rfl) (.slice (some ⟨gn, 0, none⟩) (xs.length + 1) cn); have gA0 := hus.cell g0 (by show ¬ gn = tb; exact HNG.out.1); have gA1 := hus.cell g1 (by show ¬ gn = tb; exact HNG.out.1); have gA2 := hus.cell g2 (by show ¬ gn = tb; exact HNG.out.1); clear hus hgn; have HB7 := Lib.hid hb7; have HG7 := Lib.hid hG7; have HGR : Hid (w7.heap[gn]? = some (.cells cur 24 (0, 0))) := Lib.hid hg7; clear hG7 hb7 hg7)
  | (go_simp; refine (HIX.out _ (by first | exact HX1.out | exact HX2.out)).mono ?_; rintro e w5 ⟨t, u, Bx, rfl, hT5, hb5, hu5, hm5⟩; obtain ⟨ya, yc, hry⟩ := TlO.shape hT5; subst hry; have HT5 := Lib.hid hT5; have HBX5 := Lib.hid hb5; have HU5 : Hid (Upd (fun k => k = rb) w w5) := Lib.hid (((by first | exact HX1.out | exact HX2.out : Ext w _).mono (fun _ _ h => h.elim)).trans hu5); have HW5 : Hid (∃ W1, Ext w W1 ∧ Upd (fun k => k = rb) W1 w5 ∧ ∀ j, Bx j → W1.heap.size ≤ j ∧ j < w5.heap.size) := Lib.hid ⟨_, (by first | exact HX1.out | exact HX2.out), hu5, hb5⟩; have HM5 := Lib.hid hm5; have HOB := Lib.hid (own_kept HOW.out HU5.out (fun j hj e => by have := (HOW.out.lt j hj).1; have := HRN.out; omega)); have HOA := Lib.hid (HOB.out.alloc (.cells #[.string ⟨#[]⟩, .string ⟨#[]⟩, .slice none 0 0] 24)); have HTB := Lib.hid (HU5.out.heap HTBX.out HTR.out); have HTA := Lib.hid (allocOld HTB.out (.cells #[.string ⟨#[]⟩, .string ⟨#[]⟩, .slice none 0 0] 24)); have HNA := Lib.hid (new3 w5 (.string ⟨#[]⟩) (.string ⟨#[]⟩) (.slice none 0 0) 24); have HSB : Hid (n0 ≤ w5.heap.size) := Lib.hid (Nat.le_trans HSZ.out HU5.out.size); have HSA : Hid (n0 ≤ (w5.alloc (.cells #[.string ⟨#[]⟩, .string ⟨#[]⟩, .slice none 0 0] 24)).heap.size) := Lib.hid (by rw [alloc_size]; have := HSB.out; omega); have c5 := cellRow HTB.out 2 (.slice la0 xs.length lc0) rfl; have c5a := cellRow HTA.out 2 (.slice la0 xs.length lc0) rfl; try (have HNB := Lib.hid (fun (j : Nat) (v : Value) (hj : [Value.string ⟨#[]⟩, .string ⟨#[]⟩, .slice none 0 0][j]? = some v) => hu5.cell (new3 w (.string ⟨#[]⟩) (.string ⟨#[]⟩) (.slice none 0 0) 24 j v hj) (by cases j with | zero => simp [Addr.add]; exact HRW.out | succ j => simp [Addr.add]; exact HRW.out))); clear hT5 hb5 hu5 hm5))
  all_goals (go_wp2_with fail)
  all_goals go_end0
  all_goals refine ⟨rfl, ?_⟩
  all_goals first
    | exact part_fin h1 h2 h3 htb htb0 htx hn0 hrx hrb hSw hln hat hbt HK.out HCP.out HW5.out HT5.out HM5.out (by with_reducible first | exact Upd.refl _ _ | exact Upd.alloc (Upd.refl _ _) _) HG7.out HB7.out (.inl (by with_reducible rfl))
    | exact part_fin h1 h2 h3 htb htb0 htx hn0 hrx hrb hSw hln hat hbt HK.out HCP.out HW5.out HT5.out HM5.out (by with_reducible first | exact Upd.refl _ _ | exact Upd.alloc (Upd.refl _ _) _) HG7.out HB7.out (.inr (by with_reducible rfl))

end Go.Proofs.YtjjaknmnhhfjeaaGreatDoor

/- A term is read. -/
namespace Go.Proofs.YtjjaknmnhhfjeaaGreatDoor
open Go.RowKit Go.Hw Go
set_option linter.unusedVariables false
set_option linter.unusedSimpArgs false

open Tm
theorem Rd.keep {rb : Nat} {la : Option Addr} {lc : Nat} {S F : Nat → Prop} {l : List Tok} {W W' : World} {i : Nat} {b : Bool} (h : Rd rb la lc S l W i b) (hu : Upd F W W') (hr : ¬ F rb) (hS : ∀ k, S k → ¬ F k) : Rd rb la lc S l W' i b := ⟨hu.heap h.box hr, h.tk.kept hu hS, h.apart⟩
set_option maxRecDepth 100000 in
set_option maxHeartbeats 8000000 in
theorem term_x (rb : Nat) (la : Option Addr) (lc : Nat) (S : Nat → Prop) (l : List Tok) (hE : Ended l) (hl : l.length ≤ 1000000) : ∀ (n i : Nat) (b : Bool) (w : World), Rd rb la lc S l w i b → i < l.length → l.length - i ≤ n → (∀ k, S k → k < w.heap.size) →
    Calls Tryz.prog 77 #[.pointer (some ⟨rb, 0, none⟩)] w fun e w' => TmP rb la lc S l (if b = true then .bad i else pT l n i) e w w' := by
  intro n
  induction n with
  | zero => intro i b w _ hi hn; omega
  | succ n ih =>
  intro i b w hR hi hn hS
  have HR := Lib.hid hR
  have HSS := Lib.hid hS
  have HIH := Lib.hid ih
  have HEN := Lib.hid hE
  have hrbw : rb < w.heap.size := (Array.getElem?_eq_some_iff.1 hR.box).1
  obtain ⟨q, hq⟩ : ∃ q, (if b = true then PR.bad i else pT l (n + 1) i) = q := ⟨_, rfl⟩
  rw [hq]
  have HQ := Lib.hid hq
  obtain ⟨rx, hrx⟩ : ∃ rx, w.heap.size = rx := ⟨_, rfl⟩
  have HE0 := Lib.hid (((Upd.refl (fun _ => False) w).alloc (.cells #[.pointer (some ⟨rb, 0, none⟩)] 101)).alloc (.cells #[.string ⟨#[]⟩, .string ⟨#[]⟩, .slice none 0 0] 24))
  have HX0 := Lib.hid (allocOld (alloc0 w (.cells #[.pointer (some ⟨rb, 0, none⟩)] 101)) (.cells #[.string ⟨#[]⟩, .string ⟨#[]⟩, .slice none 0 0] 24))
  have HZ0 := Lib.hid (alloc_at (w.alloc (.cells #[.pointer (some ⟨rb, 0, none⟩)] 101)) (.cells #[.string ⟨#[]⟩, .string ⟨#[]⟩, .slice none 0 0] 24) (n := w.heap.size + 1) (by simp))
  have hsz0 : ((w.alloc (.cells #[.pointer (some ⟨rb, 0, none⟩)] 101)).alloc (.cells #[.string ⟨#[]⟩, .string ⟨#[]⟩, .slice none 0 0] 24)).heap.size = w.heap.size + 2 := by simp
  rw [hrx] at HX0
  rw [hrx] at HZ0
  have hs1 : (⟨#[58]⟩ : By) = sCl := rfl
  have x0 := cellRow HX0.out 0 (.pointer (some ⟨rb, 0, none⟩)) rfl
  have HR1 := Lib.hid (HR.out.ext HE0.out)
  clear hR hS ih hq
  go_enter Tryz.func77, Tryz.ntmps77
  go_upto_region 1 with fail
  try rw [hrx]
  generalize ((w.alloc (.cells #[.pointer (some ⟨rb, 0, none⟩)] 101)).alloc (.cells #[.string ⟨#[]⟩, .string ⟨#[]⟩, .slice none 0 0] 24)) = w1 at *
  have HNM := Lib.hid (name_x rb la lc S l i b w1 HR1.out hi hl)
  have HNF : Hid (nameF l i b = if b = false ∧ (tk l i).kind = 1 then ((tk l i).text, i + 1, false) else (nul, i, true)) := Lib.hid rfl
  obtain ⟨⟨nm, i2, b2⟩, hnf⟩ : ∃ p, nameF l i b = p := ⟨_, rfl⟩
  rw [hnf] at HNM HNF
  dsimp only at HNM
  clear hnf
  go_wp2_with fail
  refine HNM.out.mono ?_
  rintro e w3 ⟨rfl, hu3, hr3⟩
  dsimp only at hr3
  have HU3 := Lib.hid hu3
  have HR3 := Lib.hid hr3
  have HX3 := Lib.hid (hu3.heap HX0.out (by omega))
  have HZ3 := Lib.hid (hu3.heap HZ0.out (by omega))
  have hs3 := hu3.size
  clear hu3 hr3 HNM x0
  -- where it stands
  have HI2 : Hid (i2 < l.length ∧ (b2 = true → i2 = i ∧ q = .bad i ∧ nm = nul) ∧ (b2 = false → i2 = i + 1 ∧ b = false ∧ (tk l i).kind = 1 ∧ nm = (tk l i).text)) := Lib.hid (by
    have h1 := HNF.out
    have h2 := HQ.out
    by_cases hc : b = false ∧ (tk l i).kind = 1
    · rw [if_pos hc] at h1
      injection h1 with e1 e2
      injection e2 with e2 e3
      subst e1; subst e2; subst e3
      exact ⟨HEN.out.next hi (by omega), fun h => (by cases h), fun _ => ⟨rfl, hc.1, hc.2, rfl⟩⟩
    · rw [if_neg hc] at h1
      injection h1 with e1 e2
      injection e2 with e2 e3
      subst e1; subst e2; subst e3
      refine ⟨hi, fun _ => ⟨rfl, ?_, rfl⟩, fun h => (by cases h)⟩
      rw [← h2]
      by_cases hb : b = true
      · rw [if_pos hb]
      · rw [if_neg hb, pT, if_pos (fun h => hc ⟨by simpa using hb, h⟩)])
  obtain ⟨hi2, hbad, hgood⟩ := HI2.out
  have HBAD := Lib.hid hbad
  have HGOOD := Lib.hid hgood
  have x0 := cellRow HX3.out 0 (.pointer (some ⟨rb, 0, none⟩)) rfl
  have HE4 := Lib.hid ((Upd.refl (fun _ => False) w3).alloc (.cells #[.string nm, .string ⟨#[]⟩, .slice none 0 0] 24))
  have HT4 := Lib.hid (alloc0 w3 (.cells #[.string nm, .string ⟨#[]⟩, .slice none 0 0] 24))
  have HX4 := Lib.hid (allocOld HX3.out (.cells #[.string nm, .string ⟨#[]⟩, .slice none 0 0] 24))
  have HZ4 := Lib.hid (allocOld HZ3.out (.cells #[.string nm, .string ⟨#[]⟩, .slice none 0 0] 24))
  have HR4 := Lib.hid (HR3.out.ext HE4.out)
  have hs4 := alloc_size w3 (.cells #[.string nm, .string ⟨#[]⟩, .slice none 0 0] 24)
  clear hbad hgood HNF HI2
  go_upto_region 2 with fail
  obtain ⟨tb, htb⟩ : ∃ tb, w3.heap.size = tb := ⟨_, rfl⟩
  try rw [htb] at HT4
  try rw [htb]
  generalize w3.alloc (.cells #[.string nm, .string ⟨#[]⟩, .slice none 0 0] 24) = w4 at *
  have HU4 : Hid (Upd (fun k => k = rb) w w4) := Lib.hid ((((HE0.out.mono (fun _ _ h => h.elim)).trans HU3.out)).trans (HE4.out.mono (fun _ _ h => h.elim)))
  clear x0
  have x0 := cellRow HX4.out 0 (.pointer (some ⟨rb, 0, none⟩)) rfl
  have HIS := Lib.hid (is_x rb la lc S l i2 b2 sCl w4 HR4.out hi2 hl)
  obtain ⟨c, hc⟩ : ∃ c, (!b2 && isB (tk l i2) sCl) = c := ⟨_, rfl⟩
  rw [hc] at HIS
  have HC := Lib.hid hc
  clear hc
  go_wp2_with fail
  try rw [hs1]
  refine HIS.out.mono ?_
  rintro e w5 ⟨rfl, hw5⟩
  have HR5 := Lib.hid (HR4.out.ext hw5)
  have HX5 := Lib.hid (hw5.heap HX4.out (fun h => h))
  have HZ5 := Lib.hid (hw5.heap HZ4.out (fun h => h))
  have HT5 := Lib.hid (hw5.heap HT4.out (fun h => h))
  have HU5 : Hid (Upd (fun k => k = rb) w w5) := Lib.hid (HU4.out.trans (hw5.mono (fun _ _ h => h.elim)))
  have hs5 := hw5.size
  have H35 : Hid (Ext w3 w5) := Lib.hid (HE4.out.trans hw5)
  have HSS3 : Hid (∀ k, S k → k < w3.heap.size) := Lib.hid (fun k hk => by have := HSS.out k hk; omega)
  clear hw5 HIS x0
  have x0 := cellRow HX5.out 0 (.pointer (some ⟨rb, 0, none⟩)) rfl
  cases c
  case true =>
    -- a variable
    have hb2 : b2 = false := by have := HC.out; cases b2; rfl; simp at this
    subst hb2
    have HGG := Lib.hid (HGOOD.out rfl)
    have hcl : isB (tk l i2) sCl = true := by simpa using HC.out
    have hi3 := HEN.out.isB hi2 hcl
    have HQ2 : Hid (q = if (tk l (i + 2)).kind ≠ 1 then .bad (i + 2) else .ok (.mk (tk l i).text (tk l (i + 2)).text []) (i + 3)) := Lib.hid (by
      obtain ⟨hi2e, hbf, hk1, hnm⟩ := HGG.out
      rw [← HQ.out, if_neg (by rw [hbf]; decide), pT, if_neg (by rw [hk1]; simp), ← hi2e, if_pos hcl])
    have HBR := Lib.hid HR5.out.box
    have c0 := cellRow HBR.out 0 (.slice la l.length lc) rfl
    have c1 := cellRow HBR.out 1 (.int .i64 (i2 : Int)) rfl
    have c2 := cellRow HBR.out 2 (.bool false) rfl
    have fr := fun j => frozenRow HBR.out j
    have hw1 : IntKind.i64.wrap ((i2 : Int) + 1) = (i2 : Int) + 1 := IntWalk.i64_in _ (by omega)
    have hb := setBlock HBR.out 1 (.int .i64 ((i2 : Int) + 1))
    have hu := (Upd.refl (fun k => k = rb) w5).setCell (p := ⟨rb, 1, none⟩) (.inl rfl) (.int .i64 ((i2 : Int) + 1))
    have HR6 : Hid (Rd rb la lc S l (w5.setCell ⟨rb, 1, none⟩ (.int .i64 ((i2 : Int) + 1))) (i2 + 1) false) := Lib.hid (HR5.out.to hu (by simpa using hb))
    have HU6 := Lib.hid (HU5.out.trans hu)
    have HX6 := Lib.hid (hu.heap HX5.out (by omega))
    have HZ6 := Lib.hid (hu.heap HZ5.out (by omega))
    have HT6 := Lib.hid (hu.heap HT5.out (by omega))
    have hs6 := hu.size
    clear hb hu HC HBAD HGOOD
    go_upto_region 4 with fail
    generalize w5.setCell ⟨rb, 1, none⟩ (.int .i64 ((i2 : Int) + 1)) = w6 at *
    clear x0 c0 c1 c2 fr hw1
    have x0 := cellRow HX6.out 0 (.pointer (some ⟨rb, 0, none⟩)) rfl
    have HNM := Lib.hid (name_x rb la lc S l (i2 + 1) false w6 HR6.out hi3 hl)
    have HNF : Hid (nameF l (i2 + 1) false = if false = false ∧ (tk l (i2 + 1)).kind = 1 then ((tk l (i2 + 1)).text, i2 + 1 + 1, false) else (nul, i2 + 1, true)) := Lib.hid rfl
    obtain ⟨⟨so, i4, b4⟩, hnf⟩ : ∃ p, nameF l (i2 + 1) false = p := ⟨_, rfl⟩
    rw [hnf] at HNM HNF
    dsimp only at HNM
    have HM : Hid (∀ W', Rd rb la lc S l W' i4 b4 → TmM rb la lc S l q (.mk nm so []) W') := Lib.hid (fun W' h => by
      obtain ⟨hi2e, hbf, hk1, hnm⟩ := HGG.out
      have h1 := HNF.out
      unfold TmM
      rw [HQ2.out]
      by_cases hc : (tk l (i2 + 1)).kind = 1
      · rw [if_pos ⟨rfl, hc⟩] at h1
        injection h1 with e1 e2
        injection e2 with e2 e3
        subst e1; subst e2; subst e3
        rw [hi2e] at hc h
        have hc' : (tk l (i + 2)).kind = 1 := hc
        rw [if_neg (fun h => h hc')]
        exact ⟨by rw [hnm, hi2e], h⟩
      · rw [if_neg (fun h => hc h.2)] at h1
        injection h1 with e1 e2
        injection e2 with e2 e3
        subst e1; subst e2; subst e3
        rw [hi2e] at hc h
        have hc' : ¬ (tk l (i + 2)).kind = 1 := hc
        rw [if_pos hc']
        exact h)
    clear hnf HNF
    go_wp2_with fail
    refine HNM.out.mono ?_
    rintro e w7 ⟨rfl, hu7, hr7⟩
    dsimp only at hr7
    have HU7 := Lib.hid (HU6.out.trans hu7)
    have HR7 := Lib.hid hr7
    have HT7 := Lib.hid (hu7.heap HT6.out (by omega))
    have HZ7 := Lib.hid (hu7.heap HZ6.out (by omega))
    have hs7 := hu7.size
    clear hu7 hr7 HNM x0
    have t1 := cellRow HT7.out 1 (.string ⟨#[]⟩) rfl
    have ft := fun j => frozenRow HT7.out j
    go_upto_region 5 with fail
    have hbt := setBlock HT7.out 1 (.string so)
    have hut := (Upd.refl (fun k => k = tb) w7).setCell (p := ⟨tb, 1, none⟩) (.inl rfl) (.string so)
    have HT8 : Hid ((w7.setCell ⟨tb, 1, none⟩ (.string so)).heap[tb]? = some (.cells #[.string nm, .string so, .slice none 0 0] 24 (0, 0))) := Lib.hid (by simpa using hbt)
    have HZ8 := Lib.hid (hut.heap HZ7.out (by omega))
    have HUT := Lib.hid hut
    generalize w7.setCell ⟨tb, 1, none⟩ (.string so) = w8 at *
    have hs8 := hut.size
    clear t1 ft hbt hut
    have t0 := cellRow HT8.out 0 (.string nm) rfl
    have t1 := cellRow HT8.out 1 (.string so) rfl
    have t2 := cellRow HT8.out 2 (.slice none 0 0) rfl
    have z0 := cellRow HZ8.out 0 (.string ⟨#[]⟩) rfl
    have z1 := cellRow HZ8.out 1 (.string ⟨#[]⟩) rfl
    have z2 := cellRow HZ8.out 2 (.slice none 0 0) rfl
    have fz := fun j => frozenRow HZ8.out j
    go_wp2_with fail
    have hr3 := st3_heap HZ8.out (.string nm) (.string so) (.slice none 0 0)
    have hu3 := st3_upd' w8 (rx + 1) (.string nm) (.string so) (.slice none 0 0)
    have e0 := cellRow hr3 0 _ rfl
    have e1 := cellRow hr3 1 _ rfl
    have e2 := cellRow hr3 2 _ rfl
    refine bodyPost_ret (v := .agg #[.string nm, .string so, .slice none 0 0]) (by simp [results, Tryz.results77, go_sem, e0, e1, e2]) rfl ?_
    have hup := (HU7.out.trans' HUT.out (fun j hj e => by omega)).trans' hu3 (fun j hj e => by omega)
    have hrd := (HR7.out.keep HUT.out (by omega) (fun k hk e => by have := HSS.out k hk; omega)).keep hu3 (by omega) (fun k hk e => by have := HSS.out k hk; omega)
    exact ⟨.mk nm so [], .slice none 0 0, fun _ => False, rfl, TlO.nil _ _ _, fun j h => h.elim, hup, HM.out _ hrd⟩
  -- an operation
  have HC2 : Hid (b2 = false → isB (tk l i2) sCl = false) := Lib.hid (fun h => by have := HC.out; rw [h] at this; simpa using this)
  have HKT : Hid (KT rb la lc S l tb rx (tb + 1) nm w3 [] i2 b2 w5) := Lib.hid ⟨HR5.out, ⟨_, [], fun _ _ => False, HT5.out, ⟨rfl, ⟨rfl, .inl ⟨rfl, rfl⟩⟩, fun i hi => absurd hi (Nat.not_lt_zero _), fun i j hi => absurd hi (Nat.not_lt_zero _), fun i i' j hi => absurd hi (Nat.not_lt_zero _)⟩⟩, HX5.out, by omega, H35.out.mono (fun _ _ h => h.elim), by simp⟩
  have HKT2 : Hid (b2 = false → i + 1 ≤ i2) := Lib.hid (fun h => by have := (HGOOD.out h).1; omega)
  have hpart : ∀ xs j W (r : PR Tm), KT rb la lc S l tb rx (tb + 1) nm w3 xs j false W → i + 1 ≤ j → ElP (KT rb la lc S l tb rx (tb + 1) nm w3) xs r W → (∀ x k, r = .ok x k → j < k) → ElP (fun xs j b W => KT rb la lc S l tb rx (tb + 1) nm w3 xs j b W ∧ (b = false → i + 1 ≤ j)) xs r W := fun xs j W r _ hj h hk => by
    cases r with
    | ok x k => exact ⟨h, fun _ => by have := hk x k rfl; omega⟩
    | bad k => obtain ⟨ys, hy⟩ := h; exact ⟨ys, hy, fun h => by cases h⟩
  have HLIST := Lib.hid (list111_x (pT l n) (fun xs j b W => KT rb la lc S l tb rx (tb + 1) nm w3 xs j b W ∧ (b = false → i + 1 ≤ j)) (fun xs j W => KT rb la lc S l tb rx (tb + 1) nm w3 xs j true W ∧ xs.length ≤ j ∧ i + 1 ≤ j) rb la lc S l tb rx HEN.out (pT_fwd HEN.out n) hl
    (fun xs i b W h => h.1.rd) (fun xs j b W W' j' b' h h1 h2 hu hr => ⟨h.1.to (by omega) (by omega) (by omega) h1 h2 hu hr, fun hb' => by
      have hb : b = false := by cases b with | false => rfl | true => rw [h2 rfl] at hb'; cases hb'
      have := h.2 hb; omega⟩)
    (fun xs j W W' h hu hr => ⟨h.1.to (by omega) (by omega) (by omega) (Nat.le_refl _) (fun h => by cases h) hu hr, by have := h.1.ln; simpa using this, h.2 rfl⟩)
    (fun xs j W h hj => by
      have hij := h.2 rfl
      have hfw := pT_fwd HEN.out n j hj
      refine (part_x rb la lc S l tb rx (tb + 1) nm w3 hl (by omega) (by omega) (by omega) (by omega) (by omega) (by omega) (by omega) (by omega) HSS3.out xs j false W (pT l n j) h.1 hj (by have := h.1.ln; simpa using this) (by omega) (fun x k e => hfw.2.2 x k e) (fun k e => by have := hfw.1; rw [e] at this; exact this) (fun W2 hW2 => by
          have h9 := HIH.out j false W2 (h.1.rd.ext hW2) hj (by omega) (fun k hk => Nat.lt_of_lt_of_le (HSS3.out k hk) (Nat.le_trans h.1.up.size hW2.size))
          rw [if_neg (by decide)] at h9
          exact h9)).mono (fun e W' he => ⟨he.1, ?_⟩)
      have h9 := he.2
      cases hp : pT l n j with
      | ok x k => rw [hp] at h9; exact ⟨h9, fun _ => by have := hfw.2.2 x k hp; omega⟩
      | bad k => rw [hp] at h9; obtain ⟨ys, hy⟩ := h9; exact ⟨ys, hy, fun h => by cases h⟩)
    (fun xs j W h hj => by
      refine (part_x rb la lc S l tb rx (tb + 1) nm w3 hl (by omega) (by omega) (by omega) (by omega) (by omega) (by omega) (by omega) (by omega) HSS3.out xs j true W (.bad j) h.1 hj h.2.1 (by omega) (fun x k e => by cases e) (fun k e => by injection e with e; omega) (fun W2 hW2 => by
          have h9 := HIH.out j true W2 (h.1.rd.ext hW2) hj (by have := h.2.2; omega) (fun k hk => Nat.lt_of_lt_of_le (HSS3.out k hk) (Nat.le_trans h.1.up.size hW2.size))
          rw [if_pos rfl] at h9
          exact h9)).mono (fun e W' he => ⟨he.1, ?_⟩)
      obtain ⟨ys, hy⟩ := he.2
      exact ⟨ys, hy, fun h => by cases h⟩)
    i2 b2 w5 ⟨HKT.out, HKT2.out⟩ hi2)
  clear hpart
  have HFIN : Hid (∀ W', LsP (fun xs j b W => KT rb la lc S l tb rx (tb + 1) nm w3 xs j b W ∧ (b = false → i + 1 ≤ j)) (if b2 = true then .bad i2 else pP (pT l n) l i2) W' → ∃ ys j bb, KT rb la lc S l tb rx (tb + 1) nm w3 ys j bb W' ∧ ∀ W'', Rd rb la lc S l W'' j bb → TmM rb la lc S l q (.mk nm nul ys) W'') := Lib.hid (fun W' h => by
    cases b2 with
    | true =>
      obtain ⟨e1, e2, e3⟩ := HBAD.out rfl
      rw [if_pos rfl] at h
      obtain ⟨ys, hy, _⟩ := h
      refine ⟨ys, i2, true, hy, fun W'' hr => ?_⟩
      unfold TmM
      rw [e2]
      rw [e1] at hr
      exact hr
    | false =>
      obtain ⟨hi2e, hbf, hk1, hnm⟩ := HGOOD.out rfl
      rw [if_neg (by decide)] at h
      have HQ2 : q = match pP (pT l n) l (i + 1) with | .bad j => .bad j | .ok L j => .ok (.mk (tk l i).text nul L) j := by
        rw [← HQ.out, if_neg (by rw [hbf]; decide), pT, if_neg (by rw [hk1]; simp), ← hi2e, if_neg (by rw [HC2.out rfl]; decide)]
        cases pP (pT l n) l i2 <;> rfl
      rw [hi2e] at h
      cases hp : pP (pT l n) l (i + 1) with
      | ok L j =>
        rw [hp] at h HQ2
        refine ⟨L, j, false, h.1, fun W'' hr => ?_⟩
        unfold TmM
        rw [HQ2]
        exact ⟨by rw [hnm], hr⟩
      | bad j =>
        rw [hp] at h HQ2
        obtain ⟨ys, hy, _⟩ := h
        refine ⟨ys, j, true, hy, fun W'' hr => ?_⟩
        unfold TmM
        rw [HQ2]
        exact hr)
  obtain ⟨Q, hQ⟩ : ∃ Q, (if b2 = true then PR.bad i2 else pP (pT l n) l i2) = Q := ⟨_, rfl⟩
  rw [hQ] at HLIST HFIN
  clear hQ HC HC2 HBAD HGOOD HKT HKT2
  go_wp2_with fail
  refine HLIST.out.mono ?_
  rintro e w7 ⟨rfl, hP⟩
  obtain ⟨ys, j, bb, hk7, hm7⟩ := HFIN.out w7 hP
  obtain ⟨lv, us, Bk, htb7, hcp7⟩ := hk7.tbx
  obtain ⟨ya, yc, hlv⟩ := own_shape hcp7.own
  subst hlv
  have HT7 := Lib.hid htb7
  have HK7 := Lib.hid hk7
  have HM7 := Lib.hid hm7
  have HTO := Lib.hid hcp7.fin
  have HZ7 : Hid (w7.heap[(rx + 1)]? = some (.cells #[.string ⟨#[]⟩, .string ⟨#[]⟩, .slice none 0 0] 24 (0, 0))) := Lib.hid (HK7.out.up.heap HZ3.out (fun e => by rcases e with e | e <;> omega))
  have hs7 := HK7.out.up.size
  clear hP htb7 hcp7 hk7 hm7 HLIST HFIN x0
  have t0 := cellRow HT7.out 0 (.string nm) rfl
  have t1 := cellRow HT7.out 1 (.string nul) rfl
  have t2 := cellRow HT7.out 2 (.slice ya ys.length yc) rfl
  have z0 := cellRow HZ7.out 0 (.string ⟨#[]⟩) rfl
  have z1 := cellRow HZ7.out 1 (.string ⟨#[]⟩) rfl
  have z2 := cellRow HZ7.out 2 (.slice none 0 0) rfl
  have fz := fun j => frozenRow HZ7.out j
  go_wp2_with fail
  have hr3 := st3_heap HZ7.out (.string nm) (.string nul) (.slice ya ys.length yc)
  have hu3 := st3_upd' w7 (rx + 1) (.string nm) (.string nul) (.slice ya ys.length yc)
  have e0 := cellRow hr3 0 _ rfl
  have e1 := cellRow hr3 1 _ rfl
  have e2 := cellRow hr3 2 _ rfl
  refine bodyPost_ret (v := .agg #[.string nm, .string nul, .slice ya ys.length yc]) (by simp [results, Tryz.results77, go_sem, e0, e1, e2]) rfl ?_
  have hup : Upd (fun k => k = rb) w _ := ((((HE0.out.mono (fun _ _ h => h.elim)).trans HU3.out)).trans' HK7.out.up (fun j hj e => by
    rcases e with e | e
    · exact e
    · omega)).trans' hu3 (fun j hj e => by omega)
  have hrd := HK7.out.rd.keep hu3 (by omega) (fun k hk e => by have := HSS.out k hk; omega)
  have hto := HTO.out.kept hu3 (fun k hk e => by have := hk.1; omega)
  have hs9 := hu3.size
  exact ⟨.mk nm nul ys, .slice ya ys.length yc, _, rfl, hto, fun k hk => ⟨by have := hk.1; omega, by have := hk.2; omega⟩, hup, HM7.out _ hrd⟩

end Go.Proofs.YtjjaknmnhhfjeaaGreatDoor

/- end and Parse of the program. -/
namespace Go.Proofs.YtjjaknmnhhfjeaaGreatDoor
open Go.RowKit Go.Hw Go
set_option linter.unusedVariables false
set_option linter.unusedSimpArgs false

open Tm
theorem tkF_ended (wd : By → Wd) (hwd : ∀ x, (wd x).kind ≠ 5) (s : By) : ∀ (n i ln bg : Nat) (l l' : List Tok), (∀ t ∈ l, t.kind ≠ 5) → tkF wd s n i ln bg l = .ok l' → Ended l' ∧ l'.length ≤ l.length + n + 1 := by
  have hfin : ∀ (l : List Tok) (t : Tok), (∀ t ∈ l, t.kind ≠ 5) → t.kind = 5 → Ended (l ++ [t]) := fun l t h ht => by
    have hlen : (l ++ [t]).length = l.length + 1 := by simp
    refine ⟨by omega, ?_, fun i hi => ?_⟩
    · rw [hlen, Nat.add_sub_cancel]
      unfold tk
      rw [List.getD_eq_getElem?_getD, List.getElem?_append_right (Nat.le_refl _), Nat.sub_self]
      exact ht
    · rw [hlen, Nat.add_sub_cancel] at hi
      unfold tk
      rw [List.getD_eq_getElem?_getD, List.getElem?_append_left hi, List.getElem?_eq_getElem hi]
      exact h _ (List.getElem_mem hi)
  have hsn : ∀ (l : List Tok) (t : Tok), (∀ t ∈ l, t.kind ≠ 5) → t.kind ≠ 5 → ∀ x ∈ l ++ [t], x.kind ≠ 5 := fun l t h ht x hx => by
    rcases List.mem_append.1 hx with h1 | h1
    · exact h x h1
    · rw [List.mem_singleton.1 h1]; exact ht
  intro n
  induction n with
  | zero =>
    intro i ln bg l l' h e
    rw [tkF] at e
    injection e with e
    subst e
    exact ⟨hfin _ _ h rfl, by simp⟩
  | succ n ih =>
    intro i ln bg l l' h e
    rw [tkF] at e
    split at e
    · injection e with e
      subst e
      exact ⟨hfin _ _ h rfl, by rw [List.length_append, List.length_singleton]; omega⟩
    split at e
    · split at e
      · have := ih _ _ _ _ _ h e; exact ⟨this.1, by omega⟩
      · have := ih _ _ _ _ _ h e; exact ⟨this.1, by omega⟩
    split at e
    · have := ih _ _ _ _ _ h e; exact ⟨this.1, by omega⟩
    split at e
    · split at e
      · have := ih _ _ _ _ _ (hsn _ _ h (hwd _)) e
        rw [List.length_append, List.length_singleton] at this
        exact ⟨this.1, by omega⟩
      · cases e
    split at e
    · cases e
    · have := ih _ _ _ _ _ (hsn _ _ h (by simp)) e
      rw [List.length_append, List.length_singleton] at this
      exact ⟨this.1, by omega⟩
theorem wdF_kind (iF : By → Int × Bool) (x : By) : (wdF iF x).kind ≠ 5 := by
  unfold wdF
  split
  · simp
  · split <;> simp
theorem tok_ended {iF : By → Int × Bool} {s : By} {l : List Tok} (h : tokF (wdF iF) s = .ok l) : Ended l ∧ l.length ≤ 65537 := by
  unfold tokF at h
  split at h
  · cases h
  · rename_i hs
    have := tkF_ended (wdF iF) (wdF_kind iF) s s.size 0 1 0 [] l (fun t ht => by cases ht) h
    exact ⟨this.1, by have := this.2; simp at this; omega⟩
set_option maxRecDepth 100000 in
set_option maxHeartbeats 4000000 in
theorem end_x (rb : Nat) (la : Option Addr) (lc : Nat) (S : Nat → Prop) (l : List Tok) (i : Nat) (w : World) (hR : Rd rb la lc S l w i false) (hi : i < l.length) (hl : l.length ≤ 1000000) (hk : (tk l i).kind = 5) :
    Calls Tryz.prog 64 #[.pointer (some ⟨rb, 0, none⟩)] w fun e w' => e = .returned (.tuple #[.agg #[.int .i64 0, .int .i64 0], .int .i64 0]) ∧ Ext w w' := by
  obtain ⟨gg, off, hga, hSg, hat⟩ := (TkR.at_ hR.tk (Nat.lt_of_le_of_lt (Nat.zero_le _) hi)).2
  subst hga
  obtain ⟨q0, q1, q2, q3, q4⟩ := hat i hi
  have HR := Lib.hid hR
  obtain ⟨⟨kd, tx, tn, tl, tc⟩, ht⟩ : ∃ t, tk l i = t := ⟨_, rfl⟩
  rw [ht] at q0 q1 q2 q3 q4
  try rw [ht]
  have i0 : (0 : Int) ≤ (i : Int) := by omega
  have i1 : (i : Int) < (l.length : Int) := by omega
  dsimp only at q0 q1 q2 q3 q4
  clear hat hR
  rw [ht] at hk
  dsimp only at hk
  subst hk
  clear ht
  have HE0 := Lib.hid ((Upd.refl (fun _ => False) w).alloc (.cells #[.int .i64 0, .int .i64 0] 45))
  have HP0 := Lib.hid (alloc0 w (.cells #[.int .i64 0, .int .i64 0] 45))
  have HBR0 := Lib.hid (HE0.out.heap HR.out.box (fun h => h))
  obtain ⟨rp, hrp⟩ : ∃ x, w.heap.size = x := ⟨_, rfl⟩
  rw [hrp] at HP0
  have hs0 := alloc_size w (.cells #[.int .i64 0, .int .i64 0] 45)
  go_enter Tryz.func64, Tryz.ntmps64
  go_upto_region 1 with fail
  try rw [hrp]
  have q0 := HE0.out.cell q0 (fun h => h)
  have q1 := HE0.out.cell q1 (fun h => h)
  have q2 := HE0.out.cell q2 (fun h => h)
  have q3 := HE0.out.cell q3 (fun h => h)
  have q4 := HE0.out.cell q4 (fun h => h)
  obtain ⟨w1, hw1⟩ : ∃ w1, w1 = w.alloc (.cells #[.int .i64 0, .int .i64 0] 45) := ⟨_, rfl⟩
  rw [← hw1] at HE0 HP0 HBR0 q0 q1 q2 q3 q4 hs0 ⊢
  have HBR := HBR0
  clear hw1 HR
  have X0 := fun x : XW w1 => cellRow (x.ext.heap HBR.out (fun h => h)) 0 (.slice (some ⟨gg, off, none⟩) l.length lc) rfl
  have X1 := fun x : XW w1 => cellRow (x.ext.heap HBR.out (fun h => h)) 1 (.int .i64 (i : Int)) rfl
  have X2 := fun x : XW w1 => x.ext.cell q0 (fun h => h)
  have X3 := fun x : XW w1 => x.ext.cell q1 (fun h => h)
  have X4 := fun x : XW w1 => x.ext.cell q2 (fun h => h)
  have X5 := fun x : XW w1 => x.ext.cell q3 (fun h => h)
  have X6 := fun x : XW w1 => x.ext.cell q4 (fun h => h)
  refine wp_region_par (α := Nat) 11 [(11, 2)] [[], [0], [0, 1], [0, 1, 2], [], [4], [4, 5], [4, 5, 6], [0, 1, 2, 3, 4, 5, 6, 7], [0, 1, 2, 3, 4, 5, 6, 7, 8], [], [0, 1, 2, 3, 4, 5, 6, 7, 8, 9, 10]]
    [none, none, none, none, none, none, none, none, none, none, some (annTk w1.heap.size)] [false, false, false, false, false, false, false, false, false, false, true] (by kernel_rfl) (by kernel_rfl) rfl (fun _ _ d _ _ h => by cases d <;> exact h) ?_
  simp only [List.take_succ_cons, List.take_zero, pickO, List.getElem?_cons_zero, List.getElem?_cons_succ]
  iterate 10 (refine can_pure0 rfl (fun K hK => ?_); go_simp; refine hK _ ?_; clear hK K)
  refine can_mem _ rfl (by go_simp) (fun W hW hG K hK => ?_) (fun K x hK => ?_)
  · go_simp
    exact hK W.heap.size _ ((Upd.refl (fun _ => False) W).alloc _) ⟨hW.size, alloc0 _ _⟩
  refine hK _ ?_; clear hK K
  dsimp only [annTk]
  refine can_end (fun W hW hG => ?_)
  obtain ⟨hxs, hxb⟩ := hG _ (List.mem_singleton.2 rfl)
  have HBX := Lib.hid hxb
  have HWW := Lib.hid hW
  have z0 := cellRow hxb 0 (.int .i64 0) rfl
  have z1 := cellRow hxb 1 (.string ⟨#[]⟩) rfl
  have z2 := cellRow hxb 2 (.int .i64 0) rfl
  have z3 := cellRow hxb 3 (.int .i64 0) rfl
  have z4 := cellRow hxb 4 (.int .i64 0) rfl
  have fz := fun j => frozenRow hxb j
  clear hG hxb hW X0 X1 X2 X3 X4 X5 X6
  refine mix_two ?_
  intro K hK
  go_simp
  refine hK _ _ ?_
  clear hK K
  have hrx := st5_heap HBX.out (.int .i64 5) (.string tx) (.int .i64 tn) (.int .i64 tl) (.int .i64 tc)
  have hux := st5_upd W x (.int .i64 5) (.string tx) (.int .i64 tn) (.int .i64 tl) (.int .i64 tc)
  have HRX := Lib.hid hrx
  have HUX := Lib.hid hux
  clear hrx hux z0 z1 z2 z3 z4 fz
  generalize (((((W.setCell ⟨x, 0, none⟩ (.int .i64 5)).setCell ⟨x, 1, none⟩ (.string tx)).setCell ⟨x, 2, none⟩ (.int .i64 tn)).setCell ⟨x, 3, none⟩ (.int .i64 tl)).setCell ⟨x, 4, none⟩ (.int .i64 tc)) = w5 at *
  have HE5 : Hid (Ext w1 w5) := Lib.hid (HWW.out.trans' HUX.out (fun j hj e => by omega))
  have k0 := cellRow HRX.out 0 (.int .i64 5) rfl
  have k1 := cellRow HRX.out 1 (.string tx) rfl
  have k2 := cellRow HRX.out 2 (.int .i64 tn) rfl
  have k3 := cellRow HRX.out 3 (.int .i64 tl) rfl
  have k4 := cellRow HRX.out 4 (.int .i64 tc) rfl
  simp only [wpMix]
  have HB5 := Lib.hid (HE5.out.heap HBR.out (fun h => h))
  have HP5 := Lib.hid (HE5.out.heap HP0.out (fun h => h))
  have HF := Lib.hid (HE0.out.trans HE5.out)
  have c0 := cellRow HB5.out 0 (.slice (some ⟨gg, off, none⟩) l.length lc) rfl
  have c1 := cellRow HB5.out 1 (.int .i64 (i : Int)) rfl
  have c2 := cellRow HB5.out 2 (.bool false) rfl
  have p0 := cellRow HP5.out 0 (.int .i64 0) rfl
  have p1 := cellRow HP5.out 1 (.int .i64 0) rfl
  have fp := fun j => frozenRow HP5.out j
  clear HBX HWW HUX HE5 q0 q1 q2 q3 q4
  go_wp2_with fail
  have hr2 := st2_heap HP5.out (.int .i64 0) (.int .i64 0)
  have hu2 := st2_upd w5 rp (.int .i64 0) (.int .i64 0)
  have e0 := cellRow hr2 0 _ rfl
  have e1 := cellRow hr2 1 _ rfl
  refine bodyPost_ret (v := .tuple #[.agg #[.int .i64 0, .int .i64 0], .int .i64 0]) (by simp [results, Tryz.results64, go_sem, e0, e1]) rfl ?_
  exact ⟨rfl, HF.out.trans' hu2 (fun j hj e => by omega)⟩
set_option maxRecDepth 100000 in
set_option maxHeartbeats 8000000 in
theorem parse_ok_x (iF : By → Int × Bool) (s : By) (l : List Tok) (t : Tm) (j : Nat) (w : World) (htab : AscT w) (hwd : ∀ i k W, i < k → k ≤ s.size → (∀ j, i ≤ j → j < k → 2 ≤ clsN (byt s j)) → Ext w W → Calls Tryz.prog 99 #[.string (s.extract i k)] W fun e W' => WdR (wdF iF (s.extract i k)) e ∧ Ext W W')
    (h1 : tokF (wdF iF) s = .ok l) (h2 : pT l l.length 0 = .ok t j) (h3 : (tk l j).kind = 5) (h4 : formed nmB t = true) (h5 : (sortsT t).isSome = true) :
    Calls Tryz.prog 25 #[.string s] w fun e w' => ∃ u, e = .returned (.tuple #[tV t u, .agg #[.int .i64 0, .int .i64 0], .int .i64 0]) ∧ TlR (fun k => w.heap.size ≤ k ∧ k < w'.heap.size) w' t.kids u ∧ Ext w w' := by
  obtain ⟨hen, hll⟩ := tok_ended h1
  have hl0 := hen.pos
  have hjl := (pT_fwd hen l.length 0 hl0).2.1
  rw [h2] at hjl
  have hjl : j < l.length := hjl
  have hsz := pT_size _ _ _ _ h2
  have HEN := Lib.hid hen
  have HK5 := Lib.hid h3
  have HP := Lib.hid h2
  have HTAB := Lib.hid htab
  have HE0 := Lib.hid (((Upd.refl (fun _ => False) w).alloc (.cells #[.string ⟨#[]⟩, .string ⟨#[]⟩, .slice none 0 0] 24)).alloc (.cells #[.int .i64 0, .int .i64 0] 45))
  have HZ0 := Lib.hid (allocOld (alloc0 w (.cells #[.string ⟨#[]⟩, .string ⟨#[]⟩, .slice none 0 0] 24)) (.cells #[.int .i64 0, .int .i64 0] 45))
  have HQ0 := Lib.hid (alloc_at (w.alloc (.cells #[.string ⟨#[]⟩, .string ⟨#[]⟩, .slice none 0 0] 24)) (.cells #[.int .i64 0, .int .i64 0] 45) (n := w.heap.size + 1) (by simp))
  have hs0 : ((w.alloc (.cells #[.string ⟨#[]⟩, .string ⟨#[]⟩, .slice none 0 0] 24)).alloc (.cells #[.int .i64 0, .int .i64 0] 45)).heap.size = w.heap.size + 2 := by simp
  obtain ⟨b0, hb0⟩ : ∃ x, w.heap.size = x := ⟨_, rfl⟩
  rw [hb0] at HZ0 HQ0
  have HTO := Lib.hid (tokens_x iF s ((w.alloc (.cells #[.string ⟨#[]⟩, .string ⟨#[]⟩, .slice none 0 0] 24)).alloc (.cells #[.int .i64 0, .int .i64 0] 45)) (asc_ext htab HE0.out) (fun i k W a b c hW => hwd i k W a b c (HE0.out.trans hW)))
  rw [h1] at HTO
  have hfm := h4
  clear hwd h1 h2 h3 htab hen
  go_enter Tryz.func25, Tryz.ntmps25
  go_wp2_with fail
  try rw [hb0]
  generalize ((w.alloc (.cells #[.string ⟨#[]⟩, .string ⟨#[]⟩, .slice none 0 0] 24)).alloc (.cells #[.int .i64 0, .int .i64 0] 45)) = w1 at *
  refine HTO.out.mono ?_
  rintro e w2 ⟨⟨v, rfl, hTk⟩, hw2⟩
  obtain ⟨la, lc, hv⟩ := SlR.shape hTk
  subst hv
  have HTK := Lib.hid hTk
  have HW2 := Lib.hid (HE0.out.trans hw2)
  have HX2 := Lib.hid hw2
  have HZ2 := Lib.hid (hw2.heap HZ0.out (fun h => h))
  have HQ2 := Lib.hid (hw2.heap HQ0.out (fun h => h))
  have hs2 := hw2.size
  clear hw2 hTk HTO
  have HB3 := Lib.hid (alloc0 (w2.alloc (.cells #[.int .i64 0, .int .i64 0] 45)) (.cells #[.slice la l.length lc, .int .i64 0, .bool false] 103))
  have HE3 := Lib.hid (((Upd.refl (fun _ => False) w2).alloc (.cells #[.int .i64 0, .int .i64 0] 45)).alloc (.cells #[.slice la l.length lc, .int .i64 0, .bool false] 103))
  have hs3 : ((w2.alloc (.cells #[.int .i64 0, .int .i64 0] 45)).alloc (.cells #[.slice la l.length lc, .int .i64 0, .bool false] 103)).heap.size = w2.heap.size + 2 := by simp
  go_upto_region 5 with fail
  obtain ⟨rb, hrb⟩ : ∃ x, w2.heap.size + 1 = x := ⟨_, rfl⟩
  rw [show (w2.alloc (.cells #[.int .i64 0, .int .i64 0] 45)).heap.size = rb by rw [alloc_size]; exact hrb] at HB3
  try rw [hrb]
  generalize ((w2.alloc (.cells #[.int .i64 0, .int .i64 0] 45)).alloc (.cells #[.slice la l.length lc, .int .i64 0, .bool false] 103)) = w3 at *
  have HRD : Hid (Rd rb la lc (fun k => w1.heap.size + 1 ≤ k ∧ k < w2.heap.size) l w3 0 false) := Lib.hid ⟨HB3.out, HTK.out.ext HE3.out, fun h => by omega⟩
  have HTM := Lib.hid (term_x rb la lc (fun k => w1.heap.size + 1 ≤ k ∧ k < w2.heap.size) l HEN.out (by omega) l.length 0 false w3 HRD.out hl0 (by omega) (fun k hk => by omega))
  rw [if_neg (by decide), HP.out] at HTM
  go_wp2_with fail
  refine HTM.out.mono ?_
  rintro e w4 ⟨t', u, Bx, rfl, hT4, hB4, hu4, hm4⟩
  obtain ⟨rfl, hr4⟩ : t' = t ∧ Rd rb la lc (fun k => w1.heap.size + 1 ≤ k ∧ k < w2.heap.size) l w4 j false := hm4
  obtain ⟨ya, yc, hy⟩ := TlO.shape hT4
  subst hy
  have HT4 : Hid (TlR (fun k => w3.heap.size ≤ k ∧ k < w4.heap.size) w4 t'.kids (.slice ya t'.kids.length yc)) := Lib.hid ((TlO.read hT4).weaken hB4)
  have HR4 := Lib.hid hr4
  have hs4 := hu4.size
  have HU4 : Hid (Ext w w4) := Lib.hid ((HW2.out.trans HE3.out).trans' hu4 (fun k hk e => by omega))
  have HZ4 := Lib.hid (hu4.heap (HE3.out.heap HZ2.out (fun h => h)) (by omega))
  have HQ4 := Lib.hid (hu4.heap (HE3.out.heap HQ2.out (fun h => h)) (by omega))
  clear hT4 hB4 hu4 hr4 HTM HRD
  have HO5 := Lib.hid (alloc0 w4 (.cells #[.string t'.name, .string t'.sort, .slice ya t'.kids.length yc] 24))
  have HE5 := Lib.hid ((Upd.refl (fun _ => False) w4).alloc (.cells #[.string t'.name, .string t'.sort, .slice ya t'.kids.length yc] 24))
  have hs5 := alloc_size w4 (.cells #[.string t'.name, .string t'.sort, .slice ya t'.kids.length yc] 24)
  go_upto_region 6 with fail
  obtain ⟨nt, hnt⟩ : ∃ x, w4.heap.size = x := ⟨_, rfl⟩
  try rw [hnt] at HO5
  try rw [hnt]
  generalize w4.alloc (.cells #[.string t'.name, .string t'.sort, .slice ya t'.kids.length yc] 24) = w5 at *
  have HEND := Lib.hid (end_x rb la lc _ l j w5 (HR4.out.ext HE5.out) hjl (by omega) HK5.out)
  go_wp2_with fail
  refine HEND.out.mono ?_
  rintro e w6 ⟨rfl, hw6⟩
  have HE6 := Lib.hid ((HE5.out.trans hw6).alloc (.cells #[.int .i64 0, .int .i64 0] 45))
  have HO6 := Lib.hid (allocOld (hw6.heap HO5.out (fun h => h)) (.cells #[.int .i64 0, .int .i64 0] 45))
  have hs6 := hw6.size
  have hs6' := alloc_size w6 (.cells #[.int .i64 0, .int .i64 0] 45)
  clear hw6 HEND
  go_upto_region 9 with fail
  generalize w6.alloc (.cells #[.int .i64 0, .int .i64 0] 45) = w7 at *
  have HT7 := Lib.hid (HT4.out.ext HE6.out)
  have HU7 := Lib.hid (HU4.out.trans HE6.out)
  have t0 := cellRow HO6.out 0 (.string t'.name) rfl
  have t1 := cellRow HO6.out 1 (.string t'.sort) rfl
  have t2 := cellRow HO6.out 2 (.slice ya t'.kids.length yc) rfl
  have HF := Lib.hid (formed_x t' (tV t' (.slice ya t'.kids.length yc)) w7 (asc_ext HTAB.out HU7.out) ⟨ya, yc, rfl, HT7.out.weaken (fun k hk => by omega)⟩ (by omega))
  rw [hfm] at HF
  dsimp only [tV] at HF
  go_wp2_with fail
  refine HF.out.mono ?_
  rintro e w8 ⟨rfl, hw8⟩
  have HO8 := Lib.hid (hw8.heap HO6.out (fun h => h))
  have HT8 := Lib.hid (HT7.out.ext hw8)
  have HE8 := Lib.hid hw8
  have hs8 := hw8.size
  clear hw8 HF t0 t1 t2 hfm
  have t0 := cellRow HO8.out 0 (.string t'.name) rfl
  have t1 := cellRow HO8.out 1 (.string t'.sort) rfl
  have t2 := cellRow HO8.out 2 (.slice ya t'.kids.length yc) rfl
  have HL9 := Lib.hid (alloc0 w8 (.cells #[.string t'.name, .string t'.sort, .slice ya t'.kids.length yc] 24))
  have HE9 := Lib.hid ((Upd.refl (fun _ => False) w8).alloc (.cells #[.string t'.name, .string t'.sort, .slice ya t'.kids.length yc] 24))
  have hs9 := alloc_size w8 (.cells #[.string t'.name, .string t'.sort, .slice ya t'.kids.length yc] 24)
  have HSO := Lib.hid (sorts_x t' w8.heap.size 0 1 0 yc ya (w8.alloc (.cells #[.string t'.name, .string t'.sort, .slice ya t'.kids.length yc] 24)) ⟨cellRow HL9.out 0 _ rfl, cellRow HL9.out 1 _ rfl, cellRow HL9.out 2 _ rfl⟩ ((HT8.out.ext HE9.out).weaken (fun k hk => by omega)) (by omega))
  go_wp2_with fail
  refine HSO.out.mono ?_
  rintro e w9 ⟨hp, hw9⟩
  obtain ⟨mm, hmm⟩ := Option.isSome_iff_exists.1 h5
  rw [hmm] at hp
  obtain ⟨bq, rfl, _, _⟩ := hp
  have HE10 := Lib.hid (HE8.out.trans (HE9.out.trans hw9))
  have HO10 := Lib.hid ((HE9.out.trans hw9).heap HO8.out (fun h => h))
  have HZ10 := Lib.hid ((HE6.out.trans HE10.out).heap HZ4.out (fun h => h))
  have HQ10 := Lib.hid ((HE6.out.trans HE10.out).heap HQ4.out (fun h => h))
  have HT10 := Lib.hid (HT7.out.ext HE10.out)
  have HU10 := Lib.hid (HU7.out.trans HE10.out)
  have hs10 := hw9.size
  clear hw9 HSO t0 t1 t2 hmm
  have t0 := cellRow HO10.out 0 (.string t'.name) rfl
  have t1 := cellRow HO10.out 1 (.string t'.sort) rfl
  have t2 := cellRow HO10.out 2 (.slice ya t'.kids.length yc) rfl
  have z0 := cellRow HZ10.out 0 (.string ⟨#[]⟩) rfl
  have z1 := cellRow HZ10.out 1 (.string ⟨#[]⟩) rfl
  have z2 := cellRow HZ10.out 2 (.slice none 0 0) rfl
  have p0 := cellRow HQ10.out 0 (.int .i64 0) rfl
  have p1 := cellRow HQ10.out 1 (.int .i64 0) rfl
  have fz := fun j => frozenRow HZ10.out j
  have fp := fun j => frozenRow HQ10.out j
  go_wp2_with fail
  have hz := st3_heap HZ10.out (.string t'.name) (.string t'.sort) (.slice ya t'.kids.length yc)
  have huz := st3_upd' w9 b0 (.string t'.name) (.string t'.sort) (.slice ya t'.kids.length yc)
  have hq := st2_heap (huz.heap HQ10.out (by omega)) (.int .i64 0) (.int .i64 0)
  have huq := st2_upd ((((w9.setCell ⟨b0, 0, none⟩ (.string t'.name)).setCell ⟨b0, 1, none⟩ (.string t'.sort)).setCell ⟨b0, 2, none⟩ (.slice ya t'.kids.length yc))) (b0 + 1) (.int .i64 0) (.int .i64 0)
  have hz2 := huq.heap hz (by omega)
  have e0 := cellRow hz2 0 _ rfl
  have e1 := cellRow hz2 1 _ rfl
  have e2 := cellRow hz2 2 _ rfl
  have e3 := cellRow hq 0 _ rfl
  have e4 := cellRow hq 1 _ rfl
  refine bodyPost_ret (v := .tuple #[.agg #[.string t'.name, .string t'.sort, .slice ya t'.kids.length yc], .agg #[.int .i64 0, .int .i64 0], .int .i64 0]) (by simp [results, Tryz.results25, go_sem, e0, e1, e2, e3, e4]) rfl ?_
  have hsa := huz.size
  have hsb := huq.size
  exact ⟨_, rfl, ((HT10.out.kept huz (fun k hk e => by have := hk.1; omega)).kept huq (fun k hk e => by have := hk.1; omega)).weaken (fun k hk => ⟨by have := hk.1; omega, by have := hk.2; omega⟩), (HU10.out.trans' huz (fun k hk e => by omega)).trans' huq (fun k hk e => by omega)⟩

end Go.Proofs.YtjjaknmnhhfjeaaGreatDoor

/- Size and Depth. -/
namespace Go.Proofs.YtjjaknmnhhfjeaaGreatDoor
open Go.RowKit Go.Hw Go
set_option linter.unusedVariables false
set_option linter.unusedSimpArgs false

open Tm Go.Sort Go.Proofs Go.ChangeMaps
set_option maxRecDepth 100000 in
set_option maxHeartbeats 2000000 in
theorem Depth_x (t : Tm) (v : Value) (w : World) (htab : AscT w) (hR : TmR (fun k => k < w.heap.size) w t v) (hsz : (t.size : Int) ≤ 1000000000000) : Calls Tryz.prog 39 #[v] w fun e w' => e = .returned (.int .i64 (dpF t : Nat)) ∧ Ext w w' := by
  have HR := Lib.hid hR
  obtain ⟨a, cap, rfl, hT⟩ := hR
  dsimp only [tV]
  have HZ := Lib.hid ((Upd.refl (fun _ => False) w).alloc (.cells #[.string t.name, .string t.sort, .slice a t.kids.length cap] 24))
  have hb := alloc0 w (.cells #[.string t.name, .string t.sort, .slice a t.kids.length cap] 24)
  have HF := Lib.hid (fun W (hW : Ext w W) => size_x t _ W (asc_ext htab hW) ((HR.out.ext hW).weaken (fun k hk => Nat.lt_of_lt_of_le hk hW.size)) hsz)
  dsimp only [tV] at HF
  have c0 := cellRow hb 0 (.string t.name) rfl
  have c1 := cellRow hb 1 (.string t.sort) rfl
  have c2 := cellRow hb 2 (.slice a t.kids.length cap) rfl
  clear hT hb
  generalize szF t = X at *
  generalize dpF t = Y at *
  go_enter Tryz.func39, Tryz.ntmps39
  go_wp2_with fail
  refine (HF.out _ HZ.out).mono ?_
  rintro e w4 ⟨rfl, hw4⟩
  have H4 := Lib.hid (HZ.out.ext hw4)
  clear hw4 c0 c1 c2
  go_wp2_with fail
  go_ret
  exact ⟨rfl, H4.out⟩

end Go.Proofs.YtjjaknmnhhfjeaaGreatDoor

/- awake of law02. -/
namespace Go.Proofs.YtjjaknmnhhfjeaaGreatDoor
open Go.RowKit Go.Hw Go
set_option linter.unusedVariables false
set_option linter.unusedSimpArgs false

open Tm
def xT : Tm := .mk ⟨#[88]⟩ ⟨#[110, 97, 116]⟩ []
def zT : Tm := .mk ⟨#[122, 101, 114, 111]⟩ nul []
def sT : Tm := .mk ⟨#[115]⟩ nul [xT]
def szT : Tm := .mk ⟨#[115]⟩ nul [zT, zT]
def s1T : Tm := .mk ⟨#[115]⟩ nul [.mk ⟨#[111, 110, 101]⟩ nul []]
theorem ev1 : sortF numG sT = (⟨#[110, 97, 116]⟩, 0) := by decide +kernel
theorem ev2 : sortF numG szT = (nul, 3) := by decide +kernel
theorem ev3 : sortF numG s1T = (nul, 9) := by decide +kernel
theorem ev4 : atF sT [0] = (xT, 0) := by decide +kernel
theorem ev5 : tsgF numG = (⟨#[115, 111, 114, 116, 32, 110, 97, 116, 10, 111, 112, 32, 122, 101, 114, 111, 40, 41, 32, 45, 62, 32, 110, 97, 116, 10, 111, 112, 32, 115, 40, 110, 97, 116, 41, 32, 45, 62, 32, 110, 97, 116, 10]⟩, 0) := by decide +kernel
theorem ev6 : szF sT = 2 ∧ dpF sT = 2 := by decide +kernel
def tokX : List Tok := [⟨1, ⟨#[115]⟩, 0, 1, 1⟩, ⟨4, ⟨#[40]⟩, 0, 1, 2⟩, ⟨1, ⟨#[88]⟩, 0, 1, 3⟩, ⟨4, ⟨#[58]⟩, 0, 1, 4⟩, ⟨1, ⟨#[110, 97, 116]⟩, 0, 1, 5⟩, ⟨4, ⟨#[41]⟩, 0, 1, 8⟩, ⟨5, nul, 0, 1, 9⟩]
theorem ev7 : tokF (wdF fun _ => (0, false)) ⟨#[115, 40, 88, 58, 110, 97, 116, 41]⟩ = .ok tokX := by kernel_rfl
theorem ev8 : pT tokX tokX.length 0 = .ok sT 6 := by kernel_rfl
theorem ev9 : (tk tokX 6).kind = 5 := rfl
theorem ev10 : formed nmB sT = true ∧ (sortsT sT).isSome = true := by decide +kernel
theorem ev11 : ∀ i k : Fin 9, i.val < k.val → (∀ j : Fin 9, i.val ≤ j.val → j.val < k.val → 2 ≤ clsN (byt ⟨#[115, 40, 88, 58, 110, 97, 116, 41]⟩ j.val)) → kwB ((⟨#[115, 40, 88, 58, 110, 97, 116, 41]⟩ : ByteArray).extract i.val k.val) = true ∨ nmB ((⟨#[115, 40, 88, 58, 110, 97, 116, 41]⟩ : ByteArray).extract i.val k.val) = true := by decide +kernel
theorem parseX (w : World) (htab : AscT w) : Calls Tryz.prog 25 #[.string ⟨#[115, 40, 88, 58, 110, 97, 116, 41]⟩] w fun e w' => ∃ u, e = .returned (.tuple #[tV sT u, .agg #[.int .i64 0, .int .i64 0], .int .i64 0]) ∧ TlR (fun k => w.heap.size ≤ k ∧ k < w'.heap.size) w' sT.kids u ∧ Ext w w' :=
  parse_ok_x (fun _ => (0, false)) ⟨#[115, 40, 88, 58, 110, 97, 116, 41]⟩ tokX sT 6 w htab (fun i k W hik hk h hW => pword_x _ _ W (asc_ext htab hW) (by
    have hs : (⟨#[115, 40, 88, 58, 110, 97, 116, 41]⟩ : ByteArray).size = 8 := rfl
    rcases ev11 ⟨i, by omega⟩ ⟨k, by omega⟩ hik (fun j h1 h2 => h j.val h1 h2) with h3 | h3
    · exact .inl h3
    · exact .inr (.inl h3))) ev7 ev8 ev9 ev10.1 ev10.2
theorem sg_any {S : Nat → Prop} {W W' : World} {v : Value} {g : Sg} (h : SgR S W g v) (hS : ∀ k, S k → k < W.heap.size) (hu : Ext W W') : SgR (fun k => k < W'.heap.size) W' g v := by
  obtain ⟨sa, sc, oa, oc, e, h1, h2⟩ := h.ext hu
  exact ⟨sa, sc, oa, oc, e, SlR.weaken h1 (fun k hk => Nat.lt_of_lt_of_le (hS k hk) hu.size), h2.weaken (fun k hk => Nat.lt_of_lt_of_le (hS k hk) hu.size)⟩
def annSg : Ann Value := ⟨fun x => x, fun x W => SgR (fun k => k < W.heap.size) W numG x, fun x W W' h hE => sg_any h (fun k hk => hk) hE⟩
def vn : Value → Nat
  | .slice (some a) _ _ => a.block
  | _ => 0
def annZ : Ann Value := ⟨fun x => .slice (some ⟨vn x, 0, none⟩) 2 2, fun x W => TmR (fun k => k < W.heap.size) W szT (.agg #[.string ⟨#[115]⟩, .string ⟨#[]⟩, .slice (some ⟨vn x, 0, none⟩) 2 2]), fun x W W' h hE => (h.ext hE).weaken (fun k hk => Nat.lt_of_lt_of_le hk hE.size)⟩
theorem sortX (t : Tm) (v u : Value) (w : World) (hG : SgR (fun k => k < w.heap.size) w numG v) (hT : TmR (fun k => k < w.heap.size) w t u) (htab : AscT w) (hsz : t.size ≤ 10) : Calls Tryz.prog 30 #[v, u] w fun e w' => e = .returned (.tuple #[.string (sortF numG t).1, .int .i64 (sortF numG t).2]) ∧ Ext w w' :=
  psort_x numG t v u _ w hG (fun k hk => hk) hT htab (by omega) (by decide) (by decide) (by decide)
set_option maxRecDepth 100000 in
set_option maxHeartbeats 8000000 in
theorem awake_x (w : World) (htab : AscT w) : Calls Tryz.prog 9 #[] w fun e w' => e = .returned (.bool true) ∧ Ext w w' := by
  have HTAB := Lib.hid (fun W (hW : Ext w W) => asc_ext htab hW)
  have HE3 := Lib.hid (((((Upd.refl (fun _ => False) w).alloc (.cells #[.string ⟨#[88]⟩, .string ⟨#[110, 97, 116]⟩, .slice none 0 0] 24)).alloc (.cells #[.string ⟨#[88]⟩, .string ⟨#[110, 97, 116]⟩, .slice none 0 0] 24)).alloc (.cells #[.string ⟨#[115]⟩, .string ⟨#[]⟩, .slice (some ⟨w.heap.size + 1, 0, none⟩) 1 1] 24)).alloc (.cells #[.string ⟨#[122, 101, 114, 111]⟩, .string ⟨#[]⟩, .slice none 0 0] 24))
  have HX0 := Lib.hid (allocOld (allocOld (allocOld (alloc0 w (.cells #[.string ⟨#[88]⟩, .string ⟨#[110, 97, 116]⟩, .slice none 0 0] 24)) (.cells #[.string ⟨#[88]⟩, .string ⟨#[110, 97, 116]⟩, .slice none 0 0] 24)) (.cells #[.string ⟨#[115]⟩, .string ⟨#[]⟩, .slice (some ⟨w.heap.size + 1, 0, none⟩) 1 1] 24)) (.cells #[.string ⟨#[122, 101, 114, 111]⟩, .string ⟨#[]⟩, .slice none 0 0] 24))
  have HR0 := Lib.hid (allocOld (allocOld (alloc_at (w.alloc (.cells #[.string ⟨#[88]⟩, .string ⟨#[110, 97, 116]⟩, .slice none 0 0] 24)) (.cells #[.string ⟨#[88]⟩, .string ⟨#[110, 97, 116]⟩, .slice none 0 0] 24) (n := w.heap.size + 1) (by simp)) (.cells #[.string ⟨#[115]⟩, .string ⟨#[]⟩, .slice (some ⟨w.heap.size + 1, 0, none⟩) 1 1] 24)) (.cells #[.string ⟨#[122, 101, 114, 111]⟩, .string ⟨#[]⟩, .slice none 0 0] 24))
  have HS0 := Lib.hid (allocOld (alloc_at ((w.alloc (.cells #[.string ⟨#[88]⟩, .string ⟨#[110, 97, 116]⟩, .slice none 0 0] 24)).alloc (.cells #[.string ⟨#[88]⟩, .string ⟨#[110, 97, 116]⟩, .slice none 0 0] 24)) (.cells #[.string ⟨#[115]⟩, .string ⟨#[]⟩, .slice (some ⟨w.heap.size + 1, 0, none⟩) 1 1] 24) (n := w.heap.size + 1 + 1) (by simp)) (.cells #[.string ⟨#[122, 101, 114, 111]⟩, .string ⟨#[]⟩, .slice none 0 0] 24))
  have HZ0 := Lib.hid (alloc_at (((w.alloc (.cells #[.string ⟨#[88]⟩, .string ⟨#[110, 97, 116]⟩, .slice none 0 0] 24)).alloc (.cells #[.string ⟨#[88]⟩, .string ⟨#[110, 97, 116]⟩, .slice none 0 0] 24)).alloc (.cells #[.string ⟨#[115]⟩, .string ⟨#[]⟩, .slice (some ⟨w.heap.size + 1, 0, none⟩) 1 1] 24)) (.cells #[.string ⟨#[122, 101, 114, 111]⟩, .string ⟨#[]⟩, .slice none 0 0] 24) (n := w.heap.size + 1 + 1 + 1) (by simp))
  have x0 := cellRow (alloc0 w (.cells #[.string ⟨#[88]⟩, .string ⟨#[110, 97, 116]⟩, .slice none 0 0] 24)) 0 (.string ⟨#[88]⟩) rfl
  have x1 := cellRow (alloc0 w (.cells #[.string ⟨#[88]⟩, .string ⟨#[110, 97, 116]⟩, .slice none 0 0] 24)) 1 (.string ⟨#[110, 97, 116]⟩) rfl
  have x2 := cellRow (alloc0 w (.cells #[.string ⟨#[88]⟩, .string ⟨#[110, 97, 116]⟩, .slice none 0 0] 24)) 2 (.slice none 0 0) rfl
  have hsz3 : ((((w.alloc (.cells #[.string ⟨#[88]⟩, .string ⟨#[110, 97, 116]⟩, .slice none 0 0] 24)).alloc (.cells #[.string ⟨#[88]⟩, .string ⟨#[110, 97, 116]⟩, .slice none 0 0] 24)).alloc (.cells #[.string ⟨#[115]⟩, .string ⟨#[]⟩, .slice (some ⟨w.heap.size + 1, 0, none⟩) 1 1] 24)).alloc (.cells #[.string ⟨#[122, 101, 114, 111]⟩, .string ⟨#[]⟩, .slice none 0 0] 24)).heap.size = w.heap.size + 4 := by simp
  clear htab
  obtain ⟨n1, hn1⟩ : ∃ x, w.heap.size = x := ⟨_, rfl⟩
  rw [hn1] at HX0 HR0 HS0 HZ0 HE3 hsz3
  go_enter Tryz.func9, Tryz.ntmps9
  go_upto_region 4 with fail
  try rw [hn1]
  clear x0 x1 x2
  generalize (((((w.alloc (.cells #[.string ⟨#[88]⟩, .string ⟨#[110, 97, 116]⟩, .slice none 0 0] 24)).alloc (.cells #[.string ⟨#[88]⟩, .string ⟨#[110, 97, 116]⟩, .slice none 0 0] 24)).alloc (.cells #[.string ⟨#[115]⟩, .string ⟨#[]⟩, .slice (some ⟨n1 + 1, 0, none⟩) 1 1] 24)).alloc (.cells #[.string ⟨#[122, 101, 114, 111]⟩, .string ⟨#[]⟩, .slice none 0 0] 24))) = w3 at *
  have HXX := Lib.hid (fun W (hW : Ext w3 W) => hW.heap HX0.out (fun h => h))
  have HSS := Lib.hid (fun W (hW : Ext w3 W) => hW.heap HS0.out (fun h => h))
  have HZZ := Lib.hid (fun W (hW : Ext w3 W) => hW.heap HZ0.out (fun h => h))
  have HTS : Hid (∀ W, Ext w3 W → TmR (fun k => k < W.heap.size) W sT (.agg #[.string ⟨#[115]⟩, .string ⟨#[]⟩, .slice (some ⟨n1 + 1, 0, none⟩) 1 1])) := Lib.hid (fun W hW => by
    have hs := hW.size
    refine ⟨some ⟨n1 + 1, 0, none⟩, 1, rfl, .mk _ [.slice none 0 0] _ rfl (SlR.mk' rfl rfl (by decide) (fun _ => by omega) (fun j hj => ?_)) (fun i hi => ?_)⟩
    · have hr := hW.heap HR0.out (fun h => h)
      have hj3 : j < 3 := hj
      rcases j with _ | _ | _ | j
      · exact cellRow hr 0 _ rfl
      · exact cellRow hr 1 _ rfl
      · exact cellRow hr 2 _ rfl
      · omega
    · have hi1 : i < 1 := hi
      obtain rfl : i = 0 := by omega
      exact TlR.nil _ _)
  clear HX0 HR0 HS0 HZ0
  -- the first Sort
  have Y0 := fun x : XW w3 => cellRow (HSS.out x.val x.ext) 0 (.string ⟨#[115]⟩) rfl
  have Y1 := fun x : XW w3 => cellRow (HSS.out x.val x.ext) 1 (.string ⟨#[]⟩) rfl
  have Y2 := fun x : XW w3 => cellRow (HSS.out x.val x.ext) 2 (.slice (some ⟨n1 + 1, 0, none⟩) 1 1) rfl
  refine wp_region_par (α := Value) 8 [] [[], [], [0, 1], [0, 1, 2], [0, 1, 2, 3], [0, 1, 2, 3], [0, 1, 2, 3, 4], [0, 1, 2, 3, 4, 5, 6]]
    [some annSg, none, some (annVal (.tuple #[.string ⟨#[110, 97, 116]⟩, .int .i64 0])), none, none, none, none, none] [true, false, true, false, false, false, false, false] (by kernel_rfl) (by kernel_rfl) rfl (fun _ _ d _ _ h => by cases d <;> exact h) ?_
  simp only [List.take_succ_cons, List.take_zero, pickO]
  refine can_mem _ rfl (by go_simp) (fun W hW hG K hK => ?_) (fun K v0 hK => ?_)
  · go_simp
    refine (numbers_x W).mono ?_
    rintro e w' ⟨v, rfl, hv, h⟩
    exact hK v w' h (sg_any hv (fun k hk => hk.2) (Upd.refl _ _))
  refine hK _ ?_; clear hK K
  dsimp only [annSg]
  (refine can_pure0 rfl (fun K hK => ?_); go_simp; refine hK _ ?_; clear hK K)
  refine can_mem _ rfl (by go_simp) (fun W hW hG K hK => ?_) (fun K v1 hK => ?_)
  · have hg := hG _ (List.mem_singleton.2 rfl) (by show (0 : Nat) ∈ _; decide)
    go_simp
    refine (sortX sT v0 (.agg #[.string ⟨#[115]⟩, .string ⟨#[]⟩, .slice (some ⟨n1 + 1, 0, none⟩) 1 1]) W hg (HTS.out W hW) (HTAB.out W (HE3.out.trans hW)) (by decide)).mono ?_
    rintro e w' ⟨rfl, h⟩
    rw [ev1]
    exact hK default w' h trivial
  refine hK _ ?_; clear hK K
  dsimp only [annVal]
  iterate 5 (refine can_pure0 rfl (fun K hK => ?_); go_simp; refine hK _ ?_; clear hK K)
  refine can_end (fun W hW hG => ?_)
  clear hG Y0 Y1 Y2
  have HE4 := Lib.hid hW
  clear hW
  simp only [wpMix]
  -- At
  have s0 := cellRow (HSS.out W HE4.out) 0 (.string ⟨#[115]⟩) rfl
  have s1 := cellRow (HSS.out W HE4.out) 1 (.string ⟨#[]⟩) rfl
  have s2 := cellRow (HSS.out W HE4.out) 2 (.slice (some ⟨n1 + 1, 0, none⟩) 1 1) rfl
  have HEA := Lib.hid (HE4.out.alloc (.cells #[.int .i64 0] 3))
  have HAT := Lib.hid (At_x sT [0] (.agg #[.string ⟨#[115]⟩, .string ⟨#[]⟩, .slice (some ⟨n1 + 1, 0, none⟩) 1 1]) (.slice (some ⟨W.heap.size, 0, none⟩) 1 1) _ (fun k => k = W.heap.size) (W.alloc (.cells #[.int .i64 0] 3)) (HTS.out _ HEA.out) (fun k hk => hk) (SlR.mk' rfl rfl (by decide) (fun _ => rfl) (fun j hj => by
    have hj1 : j < 1 := hj
    obtain rfl : j = 0 := by omega
    exact cellRow (alloc0 _ _) 0 _ rfl)) (HTAB.out _ (HE3.out.trans HEA.out)) (by decide) (by decide))
  rw [ev4] at HAT
  go_wp2_with fail
  refine HAT.out.mono ?_
  rintro e w5 ⟨u, rfl, hu, hw5⟩
  obtain ⟨ua, uc, hus⟩ := hu.shape
  subst hus
  have HUU := Lib.hid hu
  have HE5 := Lib.hid (HEA.out.trans hw5)
  clear hw5 hu HAT s0 s1 s2
  have HE6 := Lib.hid (HE5.out.alloc (.cells #[.string xT.name, .string xT.sort, .slice ua xT.kids.length uc] 24))
  have HU0 := Lib.hid (alloc0 w5 (.cells #[.string xT.name, .string xT.sort, .slice ua xT.kids.length uc] 24))
  have HTU := Lib.hid (HUU.out.ext ((Upd.refl (fun _ => False) w5).alloc (.cells #[.string xT.name, .string xT.sort, .slice ua xT.kids.length uc] 24)))
  have hsz6 : (w5.alloc (.cells #[.string xT.name, .string xT.sort, .slice ua xT.kids.length uc] 24)).heap.size = w5.heap.size + 1 := by simp
  clear HUU HE4 HE5 HEA
  go_upto_region 6 with fail
  generalize (w5.alloc (.cells #[.string xT.name, .string xT.sort, .slice ua xT.kids.length uc] 24)) = w6 at *
  have HUX := Lib.hid (fun W (hW : Ext w6 W) => hW.heap HU0.out (fun h => h))
  have HE36 : Hid (Ext w3 w6) := HE6
  -- the second Sort
  have Z0 := fun x : XW w6 => cellRow (HZZ.out x.val (HE36.out.trans x.ext)) 0 (.string ⟨#[122, 101, 114, 111]⟩) rfl
  have Z1 := fun x : XW w6 => cellRow (HZZ.out x.val (HE36.out.trans x.ext)) 1 (.string ⟨#[]⟩) rfl
  have Z2 := fun x : XW w6 => cellRow (HZZ.out x.val (HE36.out.trans x.ext)) 2 (.slice none 0 0) rfl
  refine wp_region_par (α := Value) 11 [] [[], [], [], [1, 2], [1, 2, 3], [0, 1, 2, 3, 4], [0, 1, 2, 3, 4, 5], [0, 1, 2, 3, 4, 5, 6], [0, 1, 2, 3, 4, 5, 6], [0, 1, 2, 3, 4, 5, 6, 7], [0, 1, 2, 3, 4, 5, 6, 7, 8, 9]]
    [some annSg, none, none, some annZ, none, some (annVal (.tuple #[.string nul, .int .i64 3])), none, none, none, none, none] [true, false, false, true, false, true, false, false, false, false, false] (by kernel_rfl) (by kernel_rfl) rfl (fun _ _ d _ _ h => by cases d <;> exact h) ?_
  simp only [List.take_succ_cons, List.take_zero, pickO]
  refine can_mem _ rfl (by go_simp) (fun W hW hG K hK => ?_) (fun K v0 hK => ?_)
  · go_simp
    refine (numbers_x W).mono ?_
    rintro e w' ⟨v, rfl, hv, h⟩
    exact hK v w' h (sg_any hv (fun k hk => hk.2) (Upd.refl _ _))
  refine hK _ ?_; clear hK K
  dsimp only [annSg]
  iterate 2 (refine can_pure0 rfl (fun K hK => ?_); go_simp; refine hK _ ?_; clear hK K)
  refine can_mem _ rfl (by go_simp) (fun W hW hG K hK => ?_) (fun K v1 hK => ?_)
  · go_simp
    refine hK (.slice (some ⟨W.heap.size, 0, none⟩) 2 2) _ ((Upd.refl _ W).alloc _) ?_
    refine ⟨some ⟨W.heap.size, 0, none⟩, 2, rfl, .mk _ [.slice none 0 0, .slice none 0 0] _ rfl (SlR.mk' rfl rfl (by decide) (fun _ => by show W.heap.size < _; simp) (fun j hj => ?_)) (fun i hi => ?_)⟩
    · have hj6 : j < 6 := hj
      rcases j with _ | _ | _ | _ | _ | _ | j
      · exact cellRow (alloc0 _ _) 0 _ rfl
      · exact cellRow (alloc0 _ _) 1 _ rfl
      · exact cellRow (alloc0 _ _) 2 _ rfl
      · exact cellRow (alloc0 _ _) 3 _ rfl
      · exact cellRow (alloc0 _ _) 4 _ rfl
      · exact cellRow (alloc0 _ _) 5 _ rfl
      · omega
    · have hi2 : i < 2 := hi
      rcases i with _ | _ | i
      · exact TlR.nil _ _
      · exact TlR.nil _ _
      · omega
  refine hK _ ?_; clear hK K
  dsimp only [annZ]
  (refine can_pure0 rfl (fun K hK => ?_); go_simp; refine hK _ ?_; clear hK K)
  refine can_mem _ rfl (by go_simp) (fun W hW hG K hK => ?_) (fun K v2 hK => ?_)
  · have hg := hG _ (List.mem_cons_self ..) (by show (0 : Nat) ∈ _; decide)
    have hg1 := hG _ (List.mem_cons_of_mem _ (List.mem_cons_self ..)) (by show (3 : Nat) ∈ _; decide)
    go_simp
    refine (sortX szT v0 (.agg #[.string ⟨#[115]⟩, .string ⟨#[]⟩, .slice (some ⟨vn v1, 0, none⟩) 2 2]) W hg hg1 (HTAB.out W (HE3.out.trans (HE36.out.trans hW))) (by decide)).mono ?_
    rintro e w' ⟨rfl, h⟩
    rw [ev2]
    exact hK default w' h trivial
  refine hK _ ?_; clear hK K
  dsimp only [annVal]
  iterate 5 (refine can_pure0 rfl (fun K hK => ?_); go_simp; refine hK _ ?_; clear hK K)
  refine can_end (fun W hW hG => ?_)
  clear hG Z0 Z1 Z2
  have HE7 := Lib.hid hW
  have HT6 := Lib.hid (fun W' (hW' : Ext w6 W') => HTAB.out W' (HE3.out.trans (HE36.out.trans hW')))
  clear hW
  simp only [wpMix]
  -- the third Sort
  go_wp2_with fail
  refine (numbers_x W).mono ?_
  rintro e w7 ⟨v7, rfl, hv7, h7⟩
  have HV7 := Lib.hid hv7
  have HE77 := Lib.hid (HE7.out.trans h7)
  have HEa := Lib.hid (HE77.out.alloc (.cells #[.string ⟨#[111, 110, 101]⟩, .string ⟨#[]⟩, .slice none 0 0] 24))
  clear hv7 h7
  go_wp2_with fail
  have HT1 : TmR (fun k => k < (w7.alloc (.cells #[.string ⟨#[111, 110, 101]⟩, .string ⟨#[]⟩, .slice none 0 0] 24)).heap.size) (w7.alloc (.cells #[.string ⟨#[111, 110, 101]⟩, .string ⟨#[]⟩, .slice none 0 0] 24)) s1T (.agg #[.string ⟨#[115]⟩, .string ⟨#[]⟩, .slice (some ⟨w7.heap.size, 0, none⟩) 1 1]) := by
    refine ⟨some ⟨w7.heap.size, 0, none⟩, 1, rfl, .mk _ [.slice none 0 0] _ rfl (SlR.mk' rfl rfl (by decide) (fun _ => by show w7.heap.size < _; simp) (fun j hj => ?_)) (fun i hi => ?_)⟩
    · have hj3 : j < 3 := hj
      rcases j with _ | _ | _ | j
      · exact cellRow (alloc0 _ _) 0 _ rfl
      · exact cellRow (alloc0 _ _) 1 _ rfl
      · exact cellRow (alloc0 _ _) 2 _ rfl
      · omega
    · have hi1 : i < 1 := hi
      obtain rfl : i = 0 := by omega
      exact TlR.nil _ _
  refine (sortX s1T v7 (.agg #[.string ⟨#[115]⟩, .string ⟨#[]⟩, .slice (some ⟨w7.heap.size, 0, none⟩) 1 1]) (w7.alloc (.cells #[.string ⟨#[111, 110, 101]⟩, .string ⟨#[]⟩, .slice none 0 0] 24)) (sg_any HV7.out (fun k hk => hk.2) ((Upd.refl _ _).alloc _)) HT1 (HT6.out _ HEa.out) (by decide)).mono ?_
  clear HT1
  rintro e w8 ⟨rfl, h8⟩
  rw [ev3]
  have HE8 := Lib.hid (HEa.out.trans h8)
  clear h8
  go_wp2_with fail
  refine (numbers_x w8).mono ?_
  rintro e w9 ⟨v9, rfl, hv9, h9⟩
  have HV9 := Lib.hid hv9
  have HE9 := Lib.hid (HE8.out.trans h9)
  clear hv9 h9
  go_wp2_with fail
  refine (tsig_x numG v9 _ w9 HV9.out (fun k hk => hk.2) (HT6.out _ HE9.out) (by decide) (by decide) (by decide)).mono ?_
  rintro e w10 ⟨rfl, h10⟩
  rw [ev5]
  have HEb := Lib.hid (HE9.out.trans h10)
  clear h10
  go_wp2_with fail
  refine (parseX w10 (HT6.out _ HEb.out)).mono ?_
  rintro e w11 ⟨u1, rfl, hu1, h11⟩
  obtain ⟨ya, yc, hys⟩ := hu1.shape
  subst hys
  have HEc := Lib.hid (HEb.out.trans h11)
  have HEd := Lib.hid ((HEc.out.alloc (.cells #[.string sT.name, .string sT.sort, .slice ya sT.kids.length yc] 24)).alloc (.cells #[.int .i64 0, .int .i64 0] 45))
  have HYR := Lib.hid (allocOld (alloc0 w11 (.cells #[.string sT.name, .string sT.sort, .slice ya sT.kids.length yc] 24)) (.cells #[.int .i64 0, .int .i64 0] 45))
  have HTY := Lib.hid ((hu1.ext (((Upd.refl (fun _ => False) w11).alloc (.cells #[.string sT.name, .string sT.sort, .slice ya sT.kids.length yc] 24)).alloc (.cells #[.int .i64 0, .int .i64 0] 45))))
  clear hu1 h11
  go_upto_region 10 with fail
  generalize ((w11.alloc (.cells #[.string sT.name, .string sT.sort, .slice ya sT.kids.length yc] 24)).alloc (.cells #[.int .i64 0, .int .i64 0] 45)) = w12 at *
  have U0 := cellRow (HUX.out w12 HEd.out) 0 (.string xT.name) rfl
  have U1 := cellRow (HUX.out w12 HEd.out) 1 (.string xT.sort) rfl
  have U2 := cellRow (HUX.out w12 HEd.out) 2 (.slice ua xT.kids.length uc) rfl
  have X0 := cellRow (HXX.out w12 (HE36.out.trans HEd.out)) 0 (.string ⟨#[88]⟩) rfl
  have X1 := cellRow (HXX.out w12 (HE36.out.trans HEd.out)) 1 (.string ⟨#[110, 97, 116]⟩) rfl
  have X2 := cellRow (HXX.out w12 (HE36.out.trans HEd.out)) 2 (.slice none 0 0) rfl
  have HS1 := Lib.hid (same_x xT xT (tV xT (.slice ua xT.kids.length uc)) (tV xT (.slice none 0 0)) _ (fun _ => False) w12 (TmR.of (HTU.out.ext HEd.out)) (TmR.of (TlR.nil _ _)) (by decide))
  rw [decide_eq_true (rfl : xT = xT)] at HS1
  go_wp2_with fail
  refine HS1.out.mono ?_
  rintro e w13 ⟨rfl, h13⟩
  have HEe := Lib.hid (HEd.out.trans h13)
  have HYS := Lib.hid (h13.heap HYR.out (fun h => h))
  have HTZ := Lib.hid (HTY.out.ext h13)
  clear h13 HS1 U0 U1 U2 X0 X1 X2
  have U0 := cellRow HYS.out 0 (.string sT.name) rfl
  have U1 := cellRow HYS.out 1 (.string sT.sort) rfl
  have U2 := cellRow HYS.out 2 (.slice ya sT.kids.length yc) rfl
  have X0 := cellRow (HSS.out w13 (HE36.out.trans HEe.out)) 0 (.string ⟨#[115]⟩) rfl
  have X1 := cellRow (HSS.out w13 (HE36.out.trans HEe.out)) 1 (.string ⟨#[]⟩) rfl
  have X2 := cellRow (HSS.out w13 (HE36.out.trans HEe.out)) 2 (.slice (some ⟨n1 + 1, 0, none⟩) 1 1) rfl
  have HS1 := Lib.hid (same_x sT sT (tV sT (.slice ya sT.kids.length yc)) (.agg #[.string ⟨#[115]⟩, .string ⟨#[]⟩, .slice (some ⟨n1 + 1, 0, none⟩) 1 1]) _ _ w13 (TmR.of HTZ.out) (HTS.out w13 (HE36.out.trans HEe.out)) (by decide))
  rw [decide_eq_true (rfl : sT = sT)] at HS1
  go_wp2_with fail
  refine HS1.out.mono ?_
  rintro e w14 ⟨rfl, h14⟩
  have HEf := Lib.hid (HEe.out.trans h14)
  clear h14 HS1 U0 U1 U2 X0 X1 X2
  have X0 := cellRow (HSS.out w14 (HE36.out.trans HEf.out)) 0 (.string ⟨#[115]⟩) rfl
  have X1 := cellRow (HSS.out w14 (HE36.out.trans HEf.out)) 1 (.string ⟨#[]⟩) rfl
  have X2 := cellRow (HSS.out w14 (HE36.out.trans HEf.out)) 2 (.slice (some ⟨n1 + 1, 0, none⟩) 1 1) rfl
  have HS1 := Lib.hid (Size_x sT (.agg #[.string ⟨#[115]⟩, .string ⟨#[]⟩, .slice (some ⟨n1 + 1, 0, none⟩) 1 1]) w14 (HT6.out _ HEf.out) (HTS.out w14 (HE36.out.trans HEf.out)) (by decide))
  rw [ev6.1] at HS1
  go_wp2_with fail
  refine HS1.out.mono ?_
  rintro e w15 ⟨rfl, h15⟩
  have HEg := Lib.hid (HEf.out.trans h15)
  clear h15 HS1 X0 X1 X2
  have X0 := cellRow (HSS.out w15 (HE36.out.trans HEg.out)) 0 (.string ⟨#[115]⟩) rfl
  have X1 := cellRow (HSS.out w15 (HE36.out.trans HEg.out)) 1 (.string ⟨#[]⟩) rfl
  have X2 := cellRow (HSS.out w15 (HE36.out.trans HEg.out)) 2 (.slice (some ⟨n1 + 1, 0, none⟩) 1 1) rfl
  have HS1 := Lib.hid (Depth_x sT (.agg #[.string ⟨#[115]⟩, .string ⟨#[]⟩, .slice (some ⟨n1 + 1, 0, none⟩) 1 1]) w15 (HT6.out _ HEg.out) (HTS.out w15 (HE36.out.trans HEg.out)) (by decide))
  rw [ev6.2] at HS1
  go_wp2_with fail
  refine HS1.out.mono ?_
  rintro e w16 ⟨rfl, h16⟩
  have HEh := Lib.hid (HE3.out.trans (HE36.out.trans (HEg.out.trans h16)))
  clear h16 HS1 X0 X1 X2
  go_wp2_with fail
  refine bodyPost_ret (v := .bool true) (by simp [results, Tryz.results9, go_sem]) rfl ?_
  exact ⟨rfl, HEh.out⟩

end Go.Proofs.YtjjaknmnhhfjeaaGreatDoor

/- What the ported texts take out of texts that this seat has not. -/
namespace Go.Proofs.YtjjaknmnhhfjeaaGreatDoor
open Go.RowKit Go.Hw Go
set_option linter.unusedVariables false
open Tm
theorem tg_drop (L : List Tm) (k : Nat) (h : k < L.length) : L.drop k = tg L k :: L.drop (k + 1) := by
  rw [List.drop_eq_getElem_cons h]
  unfold tg
  rw [List.getD_eq_getElem?_getD, List.getElem?_eq_getElem h]
  rfl
def FwP (q : Nat) (w w' : World) (j : Int) : Prop := Upd (fun k => k = q) w w' ∧ w'.heap[q]? = some (.cells #[.int .i64 j] 3 (0, 0))
end Go.Proofs.YtjjaknmnhhfjeaaGreatDoor
