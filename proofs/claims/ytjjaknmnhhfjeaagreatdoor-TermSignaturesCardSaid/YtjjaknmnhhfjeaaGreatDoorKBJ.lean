/- The texts Y45 Y27 Y60, one behind the other. -/
import Derived.Test.YtjjaknmnhhfjeaaGreatDoorKBI
import Derived.Deep.DeepCutAuto
import Derived.Test.YtjjaknmnhhfjeaaGreatDoorKAZ
import Derived.Test.YtjjaknmnhhfjeaaGreatDoorKAY
import Derived.Test.YtjjaknmnhhfjeaaGreatDoorKBD
/- The law TermTexts. -/
namespace Go.Proofs.YtjjaknmnhhfjeaaGreatDoor
open Go.RowKit Go.Hw Go Go.Sort Go.Proofs Go.ChangeMaps
set_option linter.unusedVariables false
set_option linter.unusedSimpArgs false

open Tm
theorem eqP (a b : Int) (w : World) : (Op.equalIn 10000 45 (.agg #[.int .i64 a, .int .i64 b]) (.agg #[.int .i64 a, .int .i64 b])).run Tryz.prog w = .ok true w := by
  have u3 := Tryz.underlying3
  have hS : Tryz.prog.underlying 45 = some (.struct (Tryz.prog.fieldsOf 45)) := by kernel_rfl
  have hp : Tryz.prog.stoodInHeld 45 = false := by kernel_rfl
  rw [show (10000 : Nat) = 9999 + 1 from rfl, run_equalIn_agg w 9999 45 _ _ hS hp]
  simp only [Program.fieldsOf, Tryz.underlying45]
  go_simp
end Go.Proofs.YtjjaknmnhhfjeaaGreatDoor

/- SameNames, SameSignature. -/
namespace Go.Proofs.YtjjaknmnhhfjeaaGreatDoor
open Go.RowKit Go.Hw Go Go.Sort Go.Proofs Go.ChangeMaps
set_option linter.unusedVariables false
set_option linter.unusedSimpArgs false

open Tm
set_option maxRecDepth 100000 in
set_option maxHeartbeats 2000000 in
theorem sameN_x (l : List By) (a b : Option Addr) (c d : Nat) (S T : Nat → Prop) (w : World) (hA : StrR S w (.slice a l.length c) l) (hB : StrR T w (.slice b l.length d) l) (hl : l.length ≤ 1000000) :
    Calls Tryz.prog 68 #[.slice a l.length c, .slice b l.length d] w fun e w' => e = .returned (.bool true) ∧ Ext w w' := by
  have HA := Lib.hid hA
  have HB := Lib.hid hB
  clear hA hB
  go_enter Tryz.func68, Tryz.ntmps68
  go_wp2_with fail
  go_loopg [5] l.length (fun gk iv wr => ∃ k : Nat, iv = .int .i64 (k : Int) ∧ gk = l.length - k ∧ k ≤ l.length ∧ Hid (Ext w wr))
  case atStart => exact ⟨0, rfl, rfl, Nat.zero_le _, Lib.hid (Upd.refl _ _)⟩
  case round =>
    obtain ⟨k, rfl, rfl, hk, HE⟩ := hrel
    by_cases hlt : k < l.length
    · obtain ⟨g, off, hga, _, hat⟩ := StR.at_ (StR.ext HA.out HE.out) (by omega)
      obtain ⟨g2, off2, hgb, _, hat2⟩ := StR.at_ (StR.ext HB.out HE.out) (by omega)
      subst hga hgb
      have q0 := hat k hlt
      have r0 := hat2 k hlt
      have z0 : (0 : Int) ≤ (k : Int) := by omega
      have z1 : (k : Int) < (l.length : Int) := by omega
      have z2 : decide ((k : Int) < (l.length : Int)) = true := decide_eq_true z1
      have z2' : decide (k < l.length) = true := decide_eq_true hlt
      obtain ⟨x, hx⟩ : ∃ x, bg l k = x := ⟨_, rfl⟩
      rw [hx] at q0 r0
      clear hat hat2 hx
      go_wp2_with fail
      go_quiet (fail)
      have HED := Lib.hid (HE.out.trans ((Upd.refl (fun _ => False) wr).drewN' nq))
      clear HE q0 r0
      generalize wr.drewN nq = wd at *
      go_wp2_with fail
      go_roundg (l.length - (k + 1))
      case measure => omega
      case rel => exact ⟨k + 1, by go_num, rfl, by omega, HED⟩
    · obtain rfl : k = l.length := by omega
      have z2 : decide ((l.length : Int) < (l.length : Int)) = false := decide_eq_false (by omega)
      go_wp2_with fail
      go_ret
      exact ⟨rfl, HE.out⟩
set_option maxRecDepth 100000 in
set_option maxHeartbeats 2000000 in
theorem sameS_x (g : Sg) (v v' : Value) (S T : Nat → Prop) (w : World) (hA : SgR S w g v) (hB : SgR T w g v') (hl1 : g.1.length ≤ 1000000) (hl2 : g.2.length ≤ 1000000) (hl3 : ∀ d ∈ g.2, d.2.1.length ≤ 1000000) :
    Calls Tryz.prog 21 #[v, v'] w fun e w' => e = .returned (.bool true) ∧ Ext w w' := by
  obtain ⟨sa, sc, oa, oc, rfl, hs, ho⟩ := hA
  obtain ⟨sb, sd, ob, od, rfl, hs', ho'⟩ := hB
  have HS := Lib.hid (And.intro hs hs')
  have HO := Lib.hid ho
  have HP := Lib.hid ho'
  have HL3 := Lib.hid hl3
  have HE1 := Lib.hid (((Upd.refl (fun _ => False) w).alloc (.cells #[.slice sa g.1.length sc, .slice oa g.2.length oc] 42)).alloc (.cells #[.slice sb g.1.length sd, .slice ob g.2.length od] 42))
  have HA1 := Lib.hid (allocOld (alloc0 w (.cells #[.slice sa g.1.length sc, .slice oa g.2.length oc] 42)) (.cells #[.slice sb g.1.length sd, .slice ob g.2.length od] 42))
  have HB1 := Lib.hid (alloc_at (w.alloc (.cells #[.slice sa g.1.length sc, .slice oa g.2.length oc] 42)) (.cells #[.slice sb g.1.length sd, .slice ob g.2.length od] 42) (n := w.heap.size + 1) (by simp))
  clear hs hs' ho ho' hl3
  have c0 := cellRow HA1.out 0 (.slice sa g.1.length sc) rfl
  have c1 := cellRow HA1.out 1 (.slice oa g.2.length oc) rfl
  have d0 := cellRow HB1.out 0 (.slice sb g.1.length sd) rfl
  have d1 := cellRow HB1.out 1 (.slice ob g.2.length od) rfl
  have HN := Lib.hid (fun W (hW : Ext w W) => sameN_x g.1 sa sb sc sd S T W (HS.out.1.kept hW (fun _ _ h => h)) (HS.out.2.kept hW (fun _ _ h => h)) hl1)
  go_enter Tryz.func21, Tryz.ntmps21
  go_wp2_with fail
  generalize (w.alloc (.cells #[.slice sa g.1.length sc, .slice oa g.2.length oc] 42)).alloc (.cells #[.slice sb g.1.length sd, .slice ob g.2.length od] 42) = w1 at *
  refine (HN.out w1 HE1.out).mono ?_
  rintro e w2 ⟨rfl, h⟩
  have HE2 := Lib.hid (HE1.out.trans h)
  have HA2 := Lib.hid (h.heap HA1.out (fun h => h))
  have HB2 := Lib.hid (h.heap HB1.out (fun h => h))
  clear h HE1 HA1 HB1 c0 c1 d0 d1 HN
  have c0 := cellRow HA2.out 0 (.slice sa g.1.length sc) rfl
  have c1 := cellRow HA2.out 1 (.slice oa g.2.length oc) rfl
  have d0 := cellRow HB2.out 0 (.slice sb g.1.length sd) rfl
  have d1 := cellRow HB2.out 1 (.slice ob g.2.length od) rfl
  go_wp2_with fail
  clear c0 c1 d0 d1
  go_loopg [5] g.2.length (fun gk iv wr => ∃ k : Nat, iv = .int .i64 (k : Int) ∧ gk = g.2.length - k ∧ k ≤ g.2.length ∧ Hid (Ext w2 wr))
  case atStart => exact ⟨0, rfl, rfl, Nat.zero_le _, Lib.hid (Upd.refl _ _)⟩
  case round =>
    obtain ⟨k, rfl, rfl, hk, HE⟩ := hrel
    have HEW := Lib.hid (HE2.out.trans HE.out)
    have HAR := Lib.hid (HE.out.heap HA2.out (fun h => h))
    have HBR := Lib.hid (HE.out.heap HB2.out (fun h => h))
    have c0 := cellRow HAR.out 0 (.slice sa g.1.length sc) rfl
    have c1 := cellRow HAR.out 1 (.slice oa g.2.length oc) rfl
    have d0 := cellRow HBR.out 0 (.slice sb g.1.length sd) rfl
    have d1 := cellRow HBR.out 1 (.slice ob g.2.length od) rfl
    by_cases hlt : k < g.2.length
    · obtain ⟨g1, o1, hga, _, hat⟩ := DcR.at_ (HO.out.ext HEW.out) (by omega)
      obtain ⟨g2, o2, hgb, _, hat2⟩ := DcR.at_ (HP.out.ext HEW.out) (by omega)
      subst hga hgb
      obtain ⟨xa, xc, q0, q1, q2, hx⟩ := hat k hlt
      obtain ⟨ya, yc, r0, r1, r2, hy⟩ := hat2 k hlt
      have hm : dg g.2 k ∈ g.2 := by rw [dg_at hlt]; exact List.getElem_mem hlt
      have HX3 := Lib.hid (HL3.out _ hm)
      obtain ⟨x, hxe⟩ : ∃ x, dg g.2 k = x := ⟨_, rfl⟩
      rw [hxe] at q0 q1 q2 r0 r1 r2 hx hy HX3
      obtain ⟨x1, x2, x3⟩ := x
      dsimp only at q0 q1 q2 r0 r1 r2 hx hy HX3
      have HXY := Lib.hid (And.intro hx hy)
      have z0 : (0 : Int) ≤ (k : Int) := by omega
      have z1 : (k : Int) < (g.2.length : Int) := by omega
      have z2 : decide ((k : Int) < (g.2.length : Int)) = true := decide_eq_true z1
      have z2' : decide (k < g.2.length) = true := decide_eq_true hlt
      clear hat hat2 hxe hx hy hm
      go_upto_region 6 with fail
      have C0 := fun x : XW wr => x.ext.cell c0 (fun h => h)
      have C1 := fun x : XW wr => x.ext.cell c1 (fun h => h)
      have E0 := fun x : XW wr => x.ext.cell d0 (fun h => h)
      have E1 := fun x : XW wr => x.ext.cell d1 (fun h => h)
      have Q0 := fun x : XW wr => x.ext.cell q0 (fun h => h)
      have Q1 := fun x : XW wr => x.ext.cell q1 (fun h => h)
      have Q2 := fun x : XW wr => x.ext.cell q2 (fun h => h)
      have R0 := fun x : XW wr => x.ext.cell r0 (fun h => h)
      have R1 := fun x : XW wr => x.ext.cell r1 (fun h => h)
      have R2 := fun x : XW wr => x.ext.cell r2 (fun h => h)
      clear c0 c1 d0 d1 q0 q1 q2 r0 r1 r2
      refine wp_region_par (α := Value) 44 [] [[], [0], [], [0, 1, 2], [0, 1, 2, 3], [0, 1, 2, 3, 4], [], [6], [], [6, 7, 8], [6, 7, 8, 9], [6, 7, 8, 9, 10], [0, 1, 2, 3, 4, 5, 6, 7, 8, 9, 10, 11], [0, 1, 2, 3, 4, 5, 6, 7, 8, 9, 10, 11, 12], [0, 1, 2, 3, 4, 5, 6, 7, 8, 9, 10, 11, 12, 13], [0, 1, 2, 3, 4, 5, 6, 7, 8, 9, 10, 11, 12, 13, 14], [0, 1, 2, 3, 4, 5, 6, 7, 8, 9, 10, 11, 12, 13], [0, 1, 2, 3, 4, 5, 6, 7, 8, 9, 10, 11, 12, 13, 14, 15, 16], [0, 1, 2, 3, 4, 5, 6, 7, 8, 9, 10, 11, 12, 13, 14, 15, 16, 17], [0, 1, 2, 3, 4, 5, 6, 7, 8, 9, 10, 11, 12, 13, 14, 15, 16, 17, 18], [0, 1, 2, 3, 4, 5, 6, 7, 8, 9, 10, 11, 12, 13], [0, 1, 2, 3, 4, 5, 6, 7, 8, 9, 10, 11, 12, 13, 20], [0, 1, 2, 3, 4, 5, 6, 7, 8, 9, 10, 11, 12, 13], [0, 1, 2, 3, 4, 5, 6, 7, 8, 9, 10, 11, 12, 13, 20, 21, 22], [0, 1, 2, 3, 4, 5, 6, 7, 8, 9, 10, 11, 12, 13, 20, 21, 22, 23], [0, 1, 2, 3, 4, 5, 6, 7, 8, 9, 10, 11, 12, 13, 20, 21, 22, 23, 24], [0, 1, 2, 3, 4, 5, 6, 7, 8, 9, 10, 11, 12, 13, 14, 15, 16, 17, 18, 19, 20, 21, 22, 23, 24, 25], [0, 1, 2, 3, 4, 5, 6, 7, 8, 9, 10, 11, 12, 13, 14, 15, 16, 17, 18, 19, 20, 21, 22, 23, 24, 25, 26], [0, 1, 2, 3, 4, 5, 6, 7, 8, 9, 10, 11, 12, 13, 14, 15, 16, 17, 18, 19, 20, 21, 22, 23, 24, 25, 26, 27], [0, 1, 2, 3, 4, 5, 6, 7, 8, 9, 10, 11, 12, 13, 14, 15, 16, 17, 18, 19, 20, 21, 22, 23, 24, 25, 26, 27, 28], [0, 1, 2, 3, 4, 5, 6, 7, 8, 9, 10, 11, 12, 13, 14, 15, 16, 17, 18, 19, 20, 21, 22, 23, 24, 25, 26, 27, 28, 29], [0, 1, 2, 3, 4, 5, 6, 7, 8, 9, 10, 11, 12, 13, 14, 15, 16, 17, 18, 19, 20, 21, 22, 23, 24, 25, 26, 27, 28], [0, 1, 2, 3, 4, 5, 6, 7, 8, 9, 10, 11, 12, 13, 14, 15, 16, 17, 18, 19, 20, 21, 22, 23, 24, 25, 26, 27, 28, 29, 30, 31], [0, 1, 2, 3, 4, 5, 6, 7, 8, 9, 10, 11, 12, 13, 14, 15, 16, 17, 18, 19, 20, 21, 22, 23, 24, 25, 26, 27, 28, 29, 30, 31, 32], [0, 1, 2, 3, 4, 5, 6, 7, 8, 9, 10, 11, 12, 13, 14, 15, 16, 17, 18, 19, 20, 21, 22, 23, 24, 25, 26, 27, 28, 29, 30, 31, 32, 33], [0, 1, 2, 3, 4, 5, 6, 7, 8, 9, 10, 11, 12, 13, 14, 15, 16, 17, 18, 19, 20, 21, 22, 23, 24, 25, 26, 27, 28], [0, 1, 2, 3, 4, 5, 6, 7, 8, 9, 10, 11, 12, 13, 14, 15, 16, 17, 18, 19, 20, 21, 22, 23, 24, 25, 26, 27, 28, 35], [0, 1, 2, 3, 4, 5, 6, 7, 8, 9, 10, 11, 12, 13, 14, 15, 16, 17, 18, 19, 20, 21, 22, 23, 24, 25, 26, 27, 28], [0, 1, 2, 3, 4, 5, 6, 7, 8, 9, 10, 11, 12, 13, 14, 15, 16, 17, 18, 19, 20, 21, 22, 23, 24, 25, 26, 27, 28, 35, 36, 37], [0, 1, 2, 3, 4, 5, 6, 7, 8, 9, 10, 11, 12, 13, 14, 15, 16, 17, 18, 19, 20, 21, 22, 23, 24, 25, 26, 27, 28, 35, 36, 37, 38], [0, 1, 2, 3, 4, 5, 6, 7, 8, 9, 10, 11, 12, 13, 14, 15, 16, 17, 18, 19, 20, 21, 22, 23, 24, 25, 26, 27, 28, 35, 36, 37, 38, 39], [0, 1, 2, 3, 4, 5, 6, 7, 8, 9, 10, 11, 12, 13, 14, 15, 16, 17, 18, 19, 20, 21, 22, 23, 24, 25, 26, 27, 28, 29, 30, 31, 32, 33, 34, 35, 36, 37, 38, 39, 40], [0, 1, 2, 3, 4, 5, 6, 7, 8, 9, 10, 11, 12, 13, 14, 15, 16, 17, 18, 19, 20, 21, 22, 23, 24, 25, 26, 27, 28, 29, 30, 31, 32, 33, 34, 35, 36, 37, 38, 39, 40, 41], [0, 1, 2, 3, 4, 5, 6, 7, 8, 9, 10, 11, 12, 13, 14, 15, 16, 17, 18, 19, 20, 21, 22, 23, 24, 25, 26, 27, 28, 29, 30, 31, 32, 33, 34, 35, 36, 37, 38, 39, 40, 41, 42]]
        [none, none, none, none, none, none, none, none, none, none, none, none, none, none, none, none, none, none, none, none, none, none, none, none, none, none, none, none, none, none, none, none, none, none, none, none, none, none, none, none, none, some (annVal (.bool true)), none, none] [false, false, false, false, false, false, false, false, false, false, false, false, false, false, false, false, false, false, false, false, false, false, false, false, false, false, false, false, false, false, false, false, false, false, false, false, false, false, false, false, false, true, false, false] (by kernel_rfl) (by kernel_rfl) rfl (fun _ _ d _ _ h => by cases d <;> exact h) ?_
      simp only [List.take_succ_cons, List.take_zero, pickO]
      iterate 41 (refine can_pure0 rfl (fun K hK => ?_); go_simp; refine hK _ ?_; clear hK K)
      refine can_mem _ rfl (by go_simp) (fun W hW hG K hK => ?_) (fun K v1 hK => ?_)
      · go_simp
        refine (sameN_x x2 xa ya xc yc S T W (SlR.kept HXY.out.1 hW (fun _ _ h => h)) (SlR.kept HXY.out.2 hW (fun _ _ h => h)) HX3.out).mono ?_
        rintro e w' ⟨rfl, h⟩
        exact hK default w' h trivial
      refine hK _ ?_; clear hK K
      dsimp only [annVal]
      iterate 2 (refine can_pure0 rfl (fun K hK => ?_); go_simp; refine hK _ ?_; clear hK K)
      refine can_end (fun w3 h hG => ?_)
      clear hG C0 C1 E0 E1 Q0 Q1 Q2 R0 R1 R2
      have HE3 := Lib.hid (HE.out.trans h)
      clear h HE HEW
      simp only [wpMix]
      go_wp2_with fail
      go_roundg (g.2.length - (k + 1))
      case measure => omega
      case rel => exact ⟨k + 1, by go_num, rfl, by omega, HE3⟩
    · obtain rfl : k = g.2.length := by omega
      have z2 : decide ((g.2.length : Int) < (g.2.length : Int)) = false := decide_eq_false (by omega)
      go_wp2_with fail
      go_ret
      exact ⟨rfl, HEW.out⟩

end Go.Proofs.YtjjaknmnhhfjeaaGreatDoor

/- The law TermSignatures. -/
namespace Go.Proofs.YtjjaknmnhhfjeaaGreatDoor
open Go.RowKit Go.Hw Go Go.Sort Go.Proofs Go.ChangeMaps
set_option linter.unusedVariables false
set_option linter.unusedSimpArgs false

open Tm
theorem kupS {w w' : World} {g : Sg} {v : Value} (h : SgR (fun k => k < w.heap.size) w g v) (hE : Ext w w') : SgR (fun k => k < w'.heap.size) w' g v := SgR.wk (SgR.ext h hE) (fun k hk => Nat.lt_of_lt_of_le hk hE.size)
theorem psg_sm (s : By) : (psgF s).1.1.length ≤ 1000000 ∧ (psgF s).1.2.length ≤ 1000000 ∧ ∀ d ∈ (psgF s).1.2, d.2.1.length ≤ 1000000 := by
  have h0 : nulG.1.length ≤ 1000000 ∧ nulG.2.length ≤ 1000000 ∧ ∀ d ∈ nulG.2, d.2.1.length ≤ 1000000 := ⟨Nat.zero_le _, Nat.zero_le _, fun d h => by cases h⟩
  unfold psgF
  cases tokF (wdF iR) s with
  | full => exact h0
  | bad a b => exact h0
  | ok l =>
    dsimp only
    cases pG l with
    | bad j => exact h0
    | ok g j =>
      dsimp only
      split
      · exact h0
      · split
        · rename_i h2
          obtain ⟨_, h3, h4, h5⟩ := vsg_sizes h2
          exact ⟨by show g.1.length ≤ _; omega, by show g.2.length ≤ _; omega, fun d hd => by have := (h5 d hd).2.1; omega⟩
        · exact h0
set_option maxRecDepth 100000 in
set_option maxHeartbeats 8000000 in
theorem sigs_law (g : Sg) (s : By) (gv : Value) (w : World) (hT : SgR (fun k => k < w.heap.size) w g gv) (htab : AscT w) (hA : AtoiD w) :
    Calls Tryz.prog 4 #[gv, .string s] w fun e w' => e = .returned (.bool true) ∧ Ext w w' := by
  obtain ⟨sa, sc, oa, oc, rfl, hk1, hk2⟩ := hT
  have KT0 : Hid (SgR (fun k => k < w.heap.size) w g (.agg #[.slice sa g.1.length sc, .slice oa g.2.length oc])) := Lib.hid ⟨sa, sc, oa, oc, rfl, hk1, hk2⟩
  have HTAB := Lib.hid htab
  have HAT := Lib.hid hA
  have HASC := Lib.hid (fun W (hW : Ext w W) => asc_ext htab hW)
  have HAW := Lib.hid (fun W (hW : Ext w W) => awake_x W (asc_ext htab hW))
  have HE1 := Lib.hid ((Upd.refl (fun _ => False) w).alloc (.cells #[.slice sa g.1.length sc, .slice oa g.2.length oc] 42))
  have HT1 := Lib.hid (alloc0 w (.cells #[.slice sa g.1.length sc, .slice oa g.2.length oc] 42))
  have KT1 := Lib.hid (kupS KT0.out HE1.out)
  clear hk1 hk2 htab hA KT0
  go_enter Tryz.func4, Tryz.ntmps4
  go_wp2_with fail
  obtain ⟨x0, hx0⟩ : ∃ x0, w.heap.size = x0 := ⟨_, rfl⟩
  rw [hx0] at HT1
  try rw [hx0]
  generalize w.alloc (.cells #[.slice sa g.1.length sc, .slice oa g.2.length oc] 42) = w1 at *
  refine (HAW.out _ HE1.out).mono ?_
  rintro e w2 ⟨rfl, h⟩
  have HE2 := Lib.hid (HE1.out.trans h)
  have HT2 := Lib.hid (h.heap HT1.out (fun h => h))
  have KT2 := Lib.hid (kupS KT1.out h)
  clear h HE1 HT1 KT1
  clear HAW
  go_upto_region 3 with fail
  obtain ⟨G, hG⟩ : ∃ G, (wideG g || (decide (3000 < s.size) && decide (s.size ≤ 65536)) || decide (70000 < s.size)) = G := ⟨_, rfl⟩
  have HG := Lib.hid hG
  clear hG
  go_cut [35] (fun v ww => v = .bool G ∧ Hid (Ext w2 ww))
  case first =>
    have t0 := cellRow HT2.out 0 (.slice sa g.1.length sc) rfl
    have t1 := cellRow HT2.out 1 (.slice oa g.2.length oc) rfl
    have HBG := Lib.hid (wide_x g (.agg #[.slice sa g.1.length sc, .slice oa g.2.length oc]) _ w2 KT2.out)
    go_wp2_with fail
    refine HBG.out.mono ?_
    rintro e w3 ⟨rfl, h⟩
    have HR := Lib.hid h
    obtain ⟨B, hB⟩ : ∃ B, wideG g = B := ⟨_, rfl⟩
    rw [hB] at HG
    rw [hB]
    clear hB h HBG t0 t1
    cases B
    case true =>
      have hg : true = G := by rw [← HG.out]; simp
      go_wp2_with fail
      go_meet
      case rel => exact ⟨by rw [← hg], HR⟩
    case false =>
      by_cases ha : 3000 < s.size
      · have a1 : (3000 : Int) < (s.size : Int) := by omega
        have a2 : decide ((3000 : Int) < (s.size : Int)) = true := decide_eq_true a1
        have a3 : decide (3000 < s.size) = true := decide_eq_true ha
        by_cases hb : s.size ≤ 65536
        · have b1 : (s.size : Int) ≤ 65536 := by omega
          have b2 : decide ((s.size : Int) ≤ 65536) = true := decide_eq_true b1
          have b3 : decide (s.size ≤ 65536) = true := decide_eq_true hb
          have hg : true = G := by rw [← HG.out, a3, b3]; simp
          clear ha hb
          go_wp2_with fail
          go_meet
          case rel => exact ⟨by rw [← hg], HR⟩
        · have b1 : ¬ (s.size : Int) ≤ 65536 := by omega
          have b2 : decide ((s.size : Int) ≤ 65536) = false := decide_eq_false b1
          have b3 : decide (s.size ≤ 65536) = false := decide_eq_false hb
          have hg : decide ((70000 : Int) < (s.size : Int)) = G := by rw [← HG.out, a3, b3]; simp; omega
          clear ha hb
          go_wp2_with fail
          go_meet
          case rel => exact ⟨by rw [← hg], HR⟩
      · have a1 : ¬ (3000 : Int) < (s.size : Int) := by omega
        have a2 : decide ((3000 : Int) < (s.size : Int)) = false := decide_eq_false a1
        have a3 : decide (3000 < s.size) = false := decide_eq_false ha
        have hg : decide ((70000 : Int) < (s.size : Int)) = G := by rw [← HG.out, a3]; simp; omega
        clear ha
        go_wp2_with fail
        go_meet
        case rel => exact ⟨by rw [← hg], HR⟩
  case rest =>
  obtain ⟨rfl, HX⟩ := hcut
  have h := HX.out
  have HE3 := Lib.hid (HE2.out.trans h)
  have HT3 := Lib.hid (h.heap HT2.out (fun h => h))
  have KT3 := Lib.hid (kupS KT2.out h)
  clear h HE2 HT2 KT2
  clear HX
  cases G
  case true =>
    go_wp2_with fail
    refine bodyPost_ret (v := .bool true) (by simp [results, Tryz.results4, go_sem]) rfl ?_
    exact ⟨rfl, HE3.out⟩
  have hsz0 : wideG g = false ∧ s.size ≤ 70000 := by
    have h := HG.out
    simp only [Bool.or_eq_false_iff, decide_eq_false_iff_not] at h
    exact ⟨h.1.1, by omega⟩
  obtain ⟨hbt, hsz⟩ := hsz0
  obtain ⟨hn1, hn2, hn3⟩ := wide_small hbt
  have HN3 := Lib.hid hn3
  have HXB := Lib.hid (psg_sm s)
  have HPS := Lib.hid (psig_x s wc (asc_ext HTAB.out HE3.out) (HAT.out.ext HE3.out) (by omega) _ rfl)
  have HRS := Lib.hid (fun W => rpsig_x s W (by omega) _ rfl)
  obtain ⟨⟨x, ⟨pl, pc⟩, er⟩, hR⟩ : ∃ R, psgF s = R := ⟨_, rfl⟩
  rw [hR] at HXB HPS HRS
  dsimp only at HXB HPS HRS
  clear hR HG hbt hn3
  go_wp2_with fail
  refine HPS.out.mono ?_
  rintro e w4 ⟨u, rfl, hk, h⟩
  obtain ⟨xa, xc, xb, xd, hr, hk1, hk2⟩ := hk
  subst hr
  have KX4 := Lib.hid (SgR.wk ⟨xa, xc, xb, xd, rfl, hk1, hk2⟩ (fun k hk => hk.2))
  clear hk1 hk2
  have HE4 := Lib.hid (HE3.out.trans h)
  have HT4 := Lib.hid (h.heap HT3.out (fun h => h))
  have KT4 := Lib.hid (kupS KT3.out h)
  clear h HE3 HT3 KT3
  clear HPS
  have hz := ((Upd.refl (fun _ => False) w4).alloc (.cells #[.slice xa x.1.length xc, .slice xb x.2.length xd] 42)).alloc (.cells #[.int .i64 pl, .int .i64 pc] 45)
  have HX5 := Lib.hid (allocOld (alloc0 w4 (.cells #[.slice xa x.1.length xc, .slice xb x.2.length xd] 42)) (.cells #[.int .i64 pl, .int .i64 pc] 45))
  have HPX5 := Lib.hid (alloc_at (w4.alloc (.cells #[.slice xa x.1.length xc, .slice xb x.2.length xd] 42)) (.cells #[.int .i64 pl, .int .i64 pc] 45) (n := w4.heap.size + 1) (by simp))
  have HE5 := Lib.hid (HE4.out.trans hz)
  have HT5 := Lib.hid (hz.heap HT4.out (fun h => h))
  have KX5 := Lib.hid (kupS KX4.out hz)
  have KT5 := Lib.hid (kupS KT4.out hz)
  clear hz HE4 HT4 KX4 KT4
  go_upto_region 6 with fail
  obtain ⟨xb', hxb⟩ : ∃ q, w4.heap.size = q := ⟨_, rfl⟩
  rw [hxb] at HX5 HPX5
  try rw [hxb]
  generalize ((w4.alloc (.cells #[.slice xa x.1.length xc, .slice xb x.2.length xd] 42)).alloc (.cells #[.int .i64 pl, .int .i64 pc] 45)) = w5 at *
  go_wp2_with fail
  refine (HRS.out w5).mono ?_
  rintro e w7 ⟨u, rfl, hk, h⟩
  obtain ⟨ya, yc, yb, yd, hr, hk1, hk2⟩ := hk
  subst hr
  have KY7 := Lib.hid (SgR.wk ⟨ya, yc, yb, yd, rfl, hk1, hk2⟩ (fun k hk => hk.2))
  clear hk1 hk2
  have HE7 := Lib.hid (HE5.out.trans h)
  have HT7 := Lib.hid (h.heap HT5.out (fun h => h))
  have HX7 := Lib.hid (h.heap HX5.out (fun h => h))
  have HPX7 := Lib.hid (h.heap HPX5.out (fun h => h))
  have KX7 := Lib.hid (kupS KX5.out h)
  have KT7 := Lib.hid (kupS KT5.out h)
  clear h HE5 HT5 HX5 HPX5 KX5 KT5
  clear HRS
  have hz := ((Upd.refl (fun _ => False) w7).alloc (.cells #[.slice ya x.1.length yc, .slice yb x.2.length yd] 42)).alloc (.cells #[.int .i64 pl, .int .i64 pc] 45)
  have HY8 := Lib.hid (allocOld (alloc0 w7 (.cells #[.slice ya x.1.length yc, .slice yb x.2.length yd] 42)) (.cells #[.int .i64 pl, .int .i64 pc] 45))
  have HPY8 := Lib.hid (alloc_at (w7.alloc (.cells #[.slice ya x.1.length yc, .slice yb x.2.length yd] 42)) (.cells #[.int .i64 pl, .int .i64 pc] 45) (n := w7.heap.size + 1) (by simp))
  have HE8 := Lib.hid (HE7.out.trans hz)
  have HT8 := Lib.hid (hz.heap HT7.out (fun h => h))
  have HX8 := Lib.hid (hz.heap HX7.out (fun h => h))
  have HPX8 := Lib.hid (hz.heap HPX7.out (fun h => h))
  have KX8 := Lib.hid (kupS KX7.out hz)
  have KY8 := Lib.hid (kupS KY7.out hz)
  have KT8 := Lib.hid (kupS KT7.out hz)
  clear hz HE7 HT7 HX7 HPX7 KX7 KY7 KT7
  go_upto_region 7 with fail
  obtain ⟨yb', hyb⟩ : ∃ q, w7.heap.size = q := ⟨_, rfl⟩
  rw [hyb] at HY8 HPY8
  try rw [hyb]
  generalize ((w7.alloc (.cells #[.slice ya x.1.length yc, .slice yb x.2.length yd] 42)).alloc (.cells #[.int .i64 pl, .int .i64 pc] 45)) = w8 at *
  have xx0 := cellRow HX8.out 0 (.slice xa x.1.length xc) rfl
  have xx1 := cellRow HX8.out 1 (.slice xb x.2.length xd) rfl
  have yy0 := cellRow HY8.out 0 (.slice ya x.1.length yc) rfl
  have yy1 := cellRow HY8.out 1 (.slice yb x.2.length yd) rfl
  obtain ⟨hb1, hb2, hb3⟩ := HXB.out
  have HS1 := Lib.hid (sameS_x x (.agg #[.slice xa x.1.length xc, .slice xb x.2.length xd]) (.agg #[.slice ya x.1.length yc, .slice yb x.2.length yd]) _ _ w8 KX8.out KY8.out hb1 hb2 hb3)
  clear hb1 hb2 hb3
  go_wp2_with fail
  refine HS1.out.mono ?_
  rintro e w9 ⟨rfl, h⟩
  have HE9 := Lib.hid (HE8.out.trans h)
  have HT9 := Lib.hid (h.heap HT8.out (fun h => h))
  have HPX9 := Lib.hid (h.heap HPX8.out (fun h => h))
  have HPY9 := Lib.hid (h.heap HPY8.out (fun h => h))
  have KT9 := Lib.hid (kupS KT8.out h)
  clear h HE8 HT8 HPX8 HPY8 KT8
  clear HS1 xx0 xx1 yy0 yy1 HX8 HY8 KX8 KY8 HXB
  have p0 := cellRow HPX9.out 0 (.int .i64 pl) rfl
  have p1 := cellRow HPX9.out 1 (.int .i64 pc) rfl
  have r0 := cellRow HPY9.out 0 (.int .i64 pl) rfl
  have r1 := cellRow HPY9.out 1 (.int .i64 pc) rfl
  have heq := fun W => eqP pl pc W
  have t0 := cellRow HT9.out 0 (.slice sa g.1.length sc) rfl
  have t1 := cellRow HT9.out 1 (.slice oa g.2.length oc) rfl
  -- TextSignature
  have HTX := Lib.hid (tsig_x g (.agg #[.slice sa g.1.length sc, .slice oa g.2.length oc]) _ w9 KT9.out (fun k hk => hk) (HASC.out w9 HE9.out) hn1 hn2 HN3.out)
  have HTF : Hid (tsgF g = if vsgB nmB g = false then (nul, 1) else fitF (tsgL g)) := Lib.hid rfl
  obtain ⟨⟨tx, te⟩, hts⟩ : ∃ q, tsgF g = q := ⟨_, rfl⟩
  rw [hts] at HTX HTF
  dsimp only at HTX
  have HVS := Lib.hid (fun (W : World) (hW : SgR (fun k => k < W.heap.size) W g (.agg #[.slice sa g.1.length sc, .slice oa g.2.length oc])) => vsig_x g (.agg #[.slice sa g.1.length sc, .slice oa g.2.length oc]) _ W hW hn1 hn2)
  obtain ⟨vb, hvb⟩ : ∃ c, vsgB nmB g = c := ⟨_, rfl⟩
  rw [hvb] at HVS HTF
  have HVB := Lib.hid hvb
  clear hts hvb
  go_wp2_with fail
  refine HTX.out.mono ?_
  rintro e wa ⟨rfl, h⟩
  have HE10 := Lib.hid (HE9.out.trans h)
  have HT10 := Lib.hid (h.heap HT9.out (fun h => h))
  have KT10 := Lib.hid (kupS KT9.out h)
  clear h HE9 HT9 KT9
  clear HTX t0 t1 p0 p1 r0 r1 heq
  have t0 := cellRow HT10.out 0 (.slice sa g.1.length sc) rfl
  have t1 := cellRow HT10.out 1 (.slice oa g.2.length oc) rfl
  go_wp2_with fail
  refine (HVS.out wa KT10.out).mono ?_
  rintro e wb ⟨rfl, h⟩
  have HE11 := Lib.hid (HE10.out.trans h)
  have HT11 := Lib.hid (h.heap HT10.out (fun h => h))
  have KT11 := Lib.hid (kupS KT10.out h)
  clear h HE10 HT10 KT10
  clear HVS t0 t1
  cases vb
  case false =>
    have h2 := HTF.out
    rw [if_pos rfl] at h2
    injection h2 with e1 e2
    subst e1; subst e2
    rw [show nul = (⟨#[]⟩ : ByteArray) from rfl]
    go_wp2_with fail
    refine bodyPost_ret (v := .bool true) (by simp [results, Tryz.results4, go_sem]) rfl ?_
    exact ⟨rfl, HE11.out⟩
  have h2 := HTF.out
  rw [if_neg (by decide)] at h2
  have HTF2 := Lib.hid h2
  clear h2 HTF
  have HRT := Lib.hid (fun (W : World) (hW : SgR (fun k => k < W.heap.size) W g (.agg #[.slice sa g.1.length sc, .slice oa g.2.length oc])) => rtsig_x g (.agg #[.slice sa g.1.length sc, .slice oa g.2.length oc]) _ W hW HVB.out)
  have hfz : (bs (tsgL g)).size = (tsgL g).length := bs_size _
  have t0 := cellRow HT11.out 0 (.slice sa g.1.length sc) rfl
  have t1 := cellRow HT11.out 1 (.slice oa g.2.length oc) rfl
  go_wp2_with fail
  refine (HRT.out wb KT11.out).mono ?_
  rintro e wd ⟨rfl, h⟩
  have HE12 := Lib.hid (HE11.out.trans h)
  have HT12 := Lib.hid (h.heap HT11.out (fun h => h))
  have KT12 := Lib.hid (kupS KT11.out h)
  clear h HE11 HT11 KT11
  clear HRT t0 t1
  by_cases hbig : 65536 < (tsgL g).length
  · have h2 := HTF2.out
    unfold fitF at h2
    rw [if_pos hbig] at h2
    injection h2 with e1 e2
    subst e1; subst e2
    obtain ⟨JJ, hJJ⟩ : ∃ J, bs (tsgL g) = J := ⟨_, rfl⟩
    rw [hJJ] at hfz
    try rw [hJJ]
    have z1 : (65536 : Int) < (JJ.size : Int) := by omega
    have z2 : decide ((65536 : Int) < (JJ.size : Int)) = true := decide_eq_true z1
    have z3 : decide (65536 < JJ.size) = true := decide_eq_true (by omega)
    clear hJJ hbig HTF2
    rw [show nul = (⟨#[]⟩ : ByteArray) from rfl]
    go_wp2_with fail
    refine bodyPost_ret (v := .bool true) (by simp [results, Tryz.results4, go_sem]) rfl ?_
    exact ⟨rfl, HE12.out⟩
  have h2 := HTF2.out
  unfold fitF at h2
  rw [if_neg hbig] at h2
  injection h2 with e1 e2
  subst e1; subst e2
  have HPB := Lib.hid (fun W (hW : Ext w W) => psig_x (bs (tsgL g)) W (HASC.out W hW) (HAT.out.ext hW) (by omega) _ (psg_back HVB.out (by omega)))
  dsimp only at HPB
  obtain ⟨JJ, hJJ⟩ : ∃ J, bs (tsgL g) = J := ⟨_, rfl⟩
  rw [hJJ] at hfz HPB
  try rw [hJJ]
  have z1 : ¬ (65536 : Int) < (JJ.size : Int) := by omega
  have z2 : decide ((65536 : Int) < (JJ.size : Int)) = false := decide_eq_false z1
  have z3 : decide (65536 < JJ.size) = false := decide_eq_false (by omega)
  clear hJJ hbig HTF2
  go_wp2_with fail
  refine (HPB.out _ HE12.out).mono ?_
  rintro e we ⟨u, rfl, hk, h⟩
  obtain ⟨ba, bc, bb, bd, hr, hk1, hk2⟩ := hk
  subst hr
  have KB13 := Lib.hid (SgR.wk ⟨ba, bc, bb, bd, rfl, hk1, hk2⟩ (fun k hk => hk.2))
  clear hk1 hk2
  have HE13 := Lib.hid (HE12.out.trans h)
  have HT13 := Lib.hid (h.heap HT12.out (fun h => h))
  have KT13 := Lib.hid (kupS KT12.out h)
  clear h HE12 HT12 KT12
  clear HPB
  have hz := ((Upd.refl (fun _ => False) we).alloc (.cells #[.slice ba g.1.length bc, .slice bb g.2.length bd] 42)).alloc (.cells #[.int .i64 0, .int .i64 0] 45)
  have HB14 := Lib.hid (allocOld (alloc0 we (.cells #[.slice ba g.1.length bc, .slice bb g.2.length bd] 42)) (.cells #[.int .i64 0, .int .i64 0] 45))
  have HPB14 := Lib.hid (alloc_at (we.alloc (.cells #[.slice ba g.1.length bc, .slice bb g.2.length bd] 42)) (.cells #[.int .i64 0, .int .i64 0] 45) (n := we.heap.size + 1) (by simp))
  have HE14 := Lib.hid (HE13.out.trans hz)
  have HT14 := Lib.hid (hz.heap HT13.out (fun h => h))
  have KB14 := Lib.hid (kupS KB13.out hz)
  have KT14 := Lib.hid (kupS KT13.out hz)
  clear hz HE13 HT13 KB13 KT13
  go_upto_region 16 with fail
  obtain ⟨bb', hbb⟩ : ∃ q, we.heap.size = q := ⟨_, rfl⟩
  rw [hbb] at HB14 HPB14
  try rw [hbb]
  generalize ((we.alloc (.cells #[.slice ba g.1.length bc, .slice bb g.2.length bd] 42)).alloc (.cells #[.int .i64 0, .int .i64 0] 45)) = wf at *
  have b0 := cellRow HB14.out 0 (.slice ba g.1.length bc) rfl
  have b1 := cellRow HB14.out 1 (.slice bb g.2.length bd) rfl
  have t0 := cellRow HT14.out 0 (.slice sa g.1.length sc) rfl
  have t1 := cellRow HT14.out 1 (.slice oa g.2.length oc) rfl
  have p0 := cellRow HPB14.out 0 (.int .i64 0) rfl
  have p1 := cellRow HPB14.out 1 (.int .i64 0) rfl
  have heq0 := fun W => eqP 0 0 W
  have HS1 := Lib.hid (sameS_x g (.agg #[.slice ba g.1.length bc, .slice bb g.2.length bd]) (.agg #[.slice sa g.1.length sc, .slice oa g.2.length oc]) _ _ wf KB14.out KT14.out hn1 hn2 HN3.out)
  go_wp2_with fail
  refine HS1.out.mono ?_
  rintro e wh ⟨rfl, h⟩
  have HE16 := Lib.hid (HE14.out.trans h)
  go_wp2_with fail
  refine bodyPost_ret (v := .bool true) (by simp [results, Tryz.results4, go_sem]) rfl ?_
  exact ⟨rfl, HE16.out⟩

end Go.Proofs.YtjjaknmnhhfjeaaGreatDoor
