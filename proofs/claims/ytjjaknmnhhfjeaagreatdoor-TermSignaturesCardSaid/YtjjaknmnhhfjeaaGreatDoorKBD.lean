/- The texts Y41 Y29 Y30 Y31 Y32, one behind the other. -/
import Derived.Test.YtjjaknmnhhfjeaaGreatDoorKBC
import Derived.Test.YtjjaknmnhhfjeaaGreatDoorKBA
import Derived.Test.YtjjaknmnhhfjeaaGreatDoorKAZ
/- write and Text of the program. -/
namespace Go.Proofs.YtjjaknmnhhfjeaaGreatDoor
open Go.RowKit Go.Hw Go Go.Sort Go.Proofs Go.ChangeMaps
set_option linter.unusedVariables false
set_option linter.unusedSimpArgs false

open Tm
theorem BdG.from {S : Nat → Prop} {b : Nat} {l : List UInt8} {w w1 w' : World} (h : BdG S b l w1 w') (hE : Ext w w1) : BdG S b l w w' := by
  obtain ⟨S', h1, h2, h3⟩ := h
  have := hE.size
  exact ⟨S', h1, fun k hk => (h2 k hk).imp id (fun h => by omega), (hE.mono (fun _ _ h => h.elim)).trans h3⟩
end Go.Proofs.YtjjaknmnhhfjeaaGreatDoor

/- TextSignature of the reference. -/
namespace Go.Proofs.YtjjaknmnhhfjeaaGreatDoor
open Go.RowKit Go.Hw Go Go.Sort Go.Proofs Go.ChangeMaps
set_option linter.unusedVariables false
set_option linter.unusedSimpArgs false

open Tm
set_option maxRecDepth 100000 in
set_option maxHeartbeats 2000000 in
theorem rtsig_x (g : Sg) (v : Value) (S : Nat → Prop) (w : World) (hG : SgR S w g v) (hv : vsgB nmB g = true) :
    Calls Tryz.prog 24 #[v] w fun e w' => e = .returned (.string (bs (tsgL g))) ∧ Ext w w' := by
  obtain ⟨sa, sc, oa, oc, rfl, hs, ho⟩ := hG
  obtain ⟨v1, v2, v3, v4⟩ := vsg_sizes hv
  have HV1 := Lib.hid v1
  have HV4 := Lib.hid v4
  have HS := Lib.hid hs
  have HO := Lib.hid ho
  have HE1 := Lib.hid ((Upd.refl (fun _ => False) w).alloc (.cells #[.slice sa g.1.length sc, .slice oa g.2.length oc] 42))
  have HB1 := Lib.hid (alloc0 w (.cells #[.slice sa g.1.length sc, .slice oa g.2.length oc] 42))
  clear hs ho v1 v4 hv
  have c0 := cellRow HB1.out 0 (.slice sa g.1.length sc) rfl
  have c1 := cellRow HB1.out 1 (.slice oa g.2.length oc) rfl
  go_enter Tryz.func24, Tryz.ntmps24
  go_wp2_with fail
  generalize w.alloc (.cells #[.slice sa g.1.length sc, .slice oa g.2.length oc] 42) = w1 at *
  clear c0 c1
  go_loopg [3, 4] g.1.length (fun gk sv iv wr => ∃ k : Nat, iv = .int .i64 (k : Int) ∧ sv = .string (bs ((g.1.take k).flatMap sortT)) ∧ gk = g.1.length - k ∧ k ≤ g.1.length ∧ Hid (Ext w1 wr))
  case atStart => exact ⟨0, rfl, rfl, rfl, Nat.zero_le _, Lib.hid (Upd.refl _ _)⟩
  case round =>
    obtain ⟨k, rfl, rfl, rfl, hk, HE⟩ := hrel
    have HEW := Lib.hid (HE1.out.trans HE.out)
    have HBR := Lib.hid (HE.out.heap HB1.out (fun h => h))
    have c0 := cellRow HBR.out 0 (.slice sa g.1.length sc) rfl
    have c1 := cellRow HBR.out 1 (.slice oa g.2.length oc) rfl
    have hfl := flat_len sortT 46 (g.1.take k) (fun x hx => by
      have := HV1.out x (List.mem_of_mem_take hx)
      have e : x.data.toList.length = x.size := rfl
      simp only [sortT, List.length_append, List.length_cons, List.length_nil]; omega)
    have hln : (g.1.take k).length ≤ 40 := by rw [List.length_take]; omega
    obtain ⟨B, hB⟩ : ∃ B, bs ((g.1.take k).flatMap sortT) = B := ⟨_, rfl⟩
    have hb : B.size ≤ 2000 := by rw [← hB, bs_size]; omega
    by_cases hlt : k < g.1.length
    · obtain ⟨ga, off, hga, _, hat⟩ := StR.at_ (StR.ext HS.out HEW.out) (by omega)
      subst hga
      have q0 := hat k hlt
      have z0 : (0 : Int) ≤ (k : Int) := by omega
      have z1 : (k : Int) < (g.1.length : Int) := by omega
      have z2 : decide ((k : Int) < (g.1.length : Int)) = true := decide_eq_true z1
      have z2' : decide (k < g.1.length) = true := decide_eq_true hlt
      have hxs := HV1.out (bg g.1 k) (by rw [bg_at g.1 k hlt]; exact List.getElem_mem hlt)
      have hj := flatB_snoc sortT g.1 k nul hlt
      rw [show g.1.getD k nul = bg g.1 k from rfl] at hj
      obtain ⟨x, hx⟩ : ∃ x, bg g.1 k = x := ⟨_, rfl⟩
      rw [hx] at q0 hxs hj
      have HJ : Hid (bs ((g.1.take (k + 1)).flatMap sortT) = B ++ ⟨#[115, 111, 114, 116, 32]⟩ ++ x ++ ⟨#[10]⟩) := Lib.hid (by
        rw [hj, ← hB]; refine ba_list ?_; simp [bs, sortT])
      have n1 : ¬ (9223372036854775807 < B.size + 5) := by omega
      have n2 : ¬ (9223372036854775807 < B.size + 5 + x.size) := by omega
      have n3 : ¬ (9223372036854775807 < B.size + 5 + x.size + 1) := by omega
      rw [hB]
      clear hat hx hj hB hfl hln hb
      go_wp2_with fail
      go_roundg (g.1.length - (k + 1))
      case measure => omega
      case rel => exact ⟨k + 1, by go_num, by rw [HJ.out], rfl, by omega, HE⟩
    · obtain rfl : k = g.1.length := by omega
      have z2 : decide ((g.1.length : Int) < (g.1.length : Int)) = false := decide_eq_false (by omega)
      rw [hB]
      have HB0 : Hid (bs (g.1.flatMap sortT) = B) := Lib.hid (by rw [← hB, List.take_length])
      clear hB hfl hln
      go_wp2_with fail
      clear c0 c1
      go_loopg [3, 5] g.2.length (fun gk sv iv wq => ∃ k : Nat, iv = .int .i64 (k : Int) ∧ sv = .string (B ++ bs ((g.2.take k).flatMap declT)) ∧ gk = g.2.length - k ∧ k ≤ g.2.length ∧ Hid (Ext wr wq))
      case atStart => exact ⟨0, rfl, by congr 1; exact ba_list (by simp [bs]), rfl, Nat.zero_le _, Lib.hid (Upd.refl _ _)⟩
      case round =>
        obtain ⟨k, rfl, rfl, rfl, hk, HF⟩ := hrel
        have HFW := Lib.hid (HEW.out.trans HF.out)
        have HBQ := Lib.hid (HF.out.heap HBR.out (fun h => h))
        have c0 := cellRow HBQ.out 0 (.slice sa g.1.length sc) rfl
        have c1 := cellRow HBQ.out 1 (.slice oa g.2.length oc) rfl
        have hfl := flat_len declT 400 (g.2.take k) (fun x hx => declT_len x (HV4.out x (List.mem_of_mem_take hx)))
        have hln : (g.2.take k).length ≤ 100 := by rw [List.length_take]; omega
        obtain ⟨C, hC⟩ : ∃ C, B ++ bs ((g.2.take k).flatMap declT) = C := ⟨_, rfl⟩
        have hc : C.size ≤ 50000 := by rw [← hC, ByteArray.size_append, bs_size]; omega
        rw [hC]
        by_cases hlt : k < g.2.length
        · obtain ⟨ga, off, hga, _, hat⟩ := DcR.at_ (HO.out.ext HFW.out) (by omega)
          subst hga
          obtain ⟨xa, xc, q0, q1, q2, hx⟩ := hat k hlt
          have hm : dg g.2 k ∈ g.2 := by rw [dg_at hlt]; exact List.getElem_mem hlt
          obtain ⟨b1, b2, b3, b4⟩ := HV4.out _ hm
          have hj := flatB_snoc declT g.2 k default hlt
          rw [show g.2.getD k default = dg g.2 k from rfl] at hj
          have HDL := Lib.hid (declT_len _ (HV4.out _ hm))
          obtain ⟨x, hxe⟩ : ∃ x, dg g.2 k = x := ⟨_, rfl⟩
          rw [hxe] at q0 q1 q2 hx b1 b2 b3 b4 hj
          obtain ⟨x1, x2, x3⟩ := x
          dsimp only at q0 q1 q2 hx b1 b2 b3 b4
          have HXK := Lib.hid hx
          have hjb := joinB_len x2 b4
          have HJN := Lib.hid (fun W (hW : Ext wr W) => joined_x x2 xa xc S W (SlR.kept HXK.out hW (fun _ _ h => h)) (by omega) (fun s hs => by have := b4 s hs; omega))
          obtain ⟨J, hJ⟩ : ∃ J, bs (joinB x2) = J := ⟨_, rfl⟩
          have hJs : J.size ≤ 42 * x2.length := by rw [← hJ, bs_size]; exact hjb
          have HJ : Hid (B ++ bs ((g.2.take (k + 1)).flatMap declT) = C ++ ⟨#[111, 112, 32]⟩ ++ x1 ++ ⟨#[40]⟩ ++ J ++ ⟨#[41, 32, 45, 62, 32]⟩ ++ x3 ++ ⟨#[10]⟩) := Lib.hid (by
            rw [hj, ← hC, ← hJ]; refine ba_list ?_; simp [bs, declT])
          rw [hJ] at HJN
          have n1 : ¬ (9223372036854775807 < C.size + 3) := by omega
          have n2 : ¬ (9223372036854775807 < C.size + 3 + x1.size) := by omega
          have n3 : ¬ (9223372036854775807 < C.size + 3 + x1.size + 1) := by omega
          have n4 : ¬ (9223372036854775807 < C.size + 3 + x1.size + 1 + J.size) := by omega
          have n5 : ¬ (9223372036854775807 < C.size + 3 + x1.size + 1 + J.size + 5) := by omega
          have n6 : ¬ (9223372036854775807 < C.size + 3 + x1.size + 1 + J.size + 5 + x3.size) := by omega
          have n7 : ¬ (9223372036854775807 < C.size + 3 + x1.size + 1 + J.size + 5 + x3.size + 1) := by omega
          have z0 : (0 : Int) ≤ (k : Int) := by omega
          have z1 : (k : Int) < (g.2.length : Int) := by omega
          have z2 : decide ((k : Int) < (g.2.length : Int)) = true := decide_eq_true z1
          have z2' : decide (k < g.2.length) = true := decide_eq_true hlt
          clear hat hxe hx hm hj hJ hjb hC hfl hln hc b1 b2 b3 b4 hJs
          go_upto_region 9 with fail
          have C1 := fun x : XW wr => x.ext.cell c1 (fun h => h)
          have Q0 := fun x : XW wr => x.ext.cell q0 (fun h => h)
          have Q1 := fun x : XW wr => x.ext.cell q1 (fun h => h)
          have Q2 := fun x : XW wr => x.ext.cell q2 (fun h => h)
          clear c0 c1 q0 q1 q2
          refine wp_region_par (α := Value) 27 [(27, 2)] [[], [0], [], [2], [], [2, 3, 4], [2, 3, 4, 5], [2, 3, 4, 5, 6], [0, 1, 2, 3, 4, 5, 6, 7], [0, 1, 2, 3, 4, 5, 6, 7, 8], [], [10], [], [10, 11, 12], [10, 11, 12, 13], [10, 11, 12, 13, 14], [10, 11, 12, 13, 14, 15], [0, 1, 2, 3, 4, 5, 6, 7, 8, 9, 10, 11, 12, 13, 14, 15, 16], [0, 1, 2, 3, 4, 5, 6, 7, 8, 9, 10, 11, 12, 13, 14, 15, 16, 17], [], [19], [], [19, 20, 21], [19, 20, 21, 22], [19, 20, 21, 22, 23], [0, 1, 2, 3, 4, 5, 6, 7, 8, 9, 10, 11, 12, 13, 14, 15, 16, 17, 18, 19, 20, 21, 22, 23, 24], [0, 1, 2, 3, 4, 5, 6, 7, 8, 9, 10, 11, 12, 13, 14, 15, 16, 17, 18, 19, 20, 21, 22, 23, 24, 25], [0, 1, 2, 3, 4, 5, 6, 7, 8, 9, 10, 11, 12, 13, 14, 15, 16, 17, 18, 19, 20, 21, 22, 23, 24, 25, 26]]
            [none, none, none, none, none, none, none, none, none, none, none, none, none, none, none, none, some (annVal (.string (J))), none, none, none, none, none, none, none, none, none, none] [false, false, false, false, false, false, false, false, false, false, false, false, false, false, false, false, true, false, false, false, false, false, false, false, false, false, false] (by kernel_rfl) (by kernel_rfl) rfl (fun _ _ d _ _ h => by cases d <;> exact h) ?_
          simp only [List.take_succ_cons, List.take_zero, pickO]
          iterate 16 (refine can_pure0 rfl (fun K hK => ?_); go_simp; refine hK _ ?_; clear hK K)
          refine can_mem _ rfl (by go_simp) (fun W hW hG K hK => ?_) (fun K v1 hK => ?_)
          · go_simp
            refine (HJN.out W hW).mono ?_
            rintro e w' ⟨rfl, h⟩
            exact hK default w' h trivial
          refine hK _ ?_; clear hK K
          dsimp only [annVal]
          iterate 10 (refine can_pure0 rfl (fun K hK => ?_); go_simp; refine hK _ ?_; clear hK K)
          refine can_end (fun w3 h hG => ?_)
          clear hG C1 Q0 Q1 Q2
          have HF3 := Lib.hid (HF.out.trans h)
          clear h HF HFW
          refine mix_two ?_
          intro K hK
          go_simp
          refine hK _ _ ?_
          clear hK K
          simp only [wpMix]
          go_wp2_with fail
          go_roundg (g.2.length - (k + 1))
          case measure => omega
          case rel => exact ⟨k + 1, by go_num, by rw [HJ.out], rfl, by omega, HF3⟩
        · obtain rfl : k = g.2.length := by omega
          have z2 : decide ((g.2.length : Int) < (g.2.length : Int)) = false := decide_eq_false (by omega)
          have HV : Hid (bs (tsgL g) = C) := Lib.hid (by
            rw [← hC, List.take_length, ← HB0.out]; unfold tsgL; exact (bs_app _ _).symm)
          clear hC hfl hln
          go_wp2_with fail
          go_ret
          exact ⟨by rw [HV.out]; rfl, HFW.out⟩

end Go.Proofs.YtjjaknmnhhfjeaaGreatDoor

/- Is, Wrong of the reference. -/
namespace Go.Proofs.YtjjaknmnhhfjeaaGreatDoor
open Go.RowKit Go.Hw Go Go.Sort Go.Proofs Go.ChangeMaps
set_option linter.unusedVariables false
set_option linter.unusedSimpArgs false

open Tm
theorem rIs_x (t : Tok) (k : Nat) (s : By) (w : World) : Calls Tryz.prog 105 #[(.agg #[.int .i64 (t.kind : Int), .string t.text, .int .i64 t.n, .int .i64 t.line, .int .i64 t.col]), .int .i64 (k : Int), .string s] w fun e w' => e = .returned (.bool (decide (t.kind = k) && decide (t.text = s))) ∧ Ext w w' := by
  have HE := Lib.hid ((Upd.refl (fun _ => False) w).alloc (.cells #[.int .i64 (t.kind : Int), .string t.text, .int .i64 t.n, .int .i64 t.line, .int .i64 t.col] 114))
  have HB := Lib.hid (alloc0 w (.cells #[.int .i64 (t.kind : Int), .string t.text, .int .i64 t.n, .int .i64 t.line, .int .i64 t.col] 114))
  have c0 := cellRow HB.out 0 (.int .i64 (t.kind : Int)) rfl
  have c1 := cellRow HB.out 1 (.string t.text) rfl
  have c2 := cellRow HB.out 2 (.int .i64 t.n) rfl
  have c3 := cellRow HB.out 3 (.int .i64 t.line) rfl
  have c4 := cellRow HB.out 4 (.int .i64 t.col) rfl
  by_cases h1 : t.kind = k
  · have HZ1 : Hid ((t.kind : Int) = (k : Int)) := Lib.hid (by omega)
    have e1 : decide (t.kind = k) = true := decide_eq_true h1
    rw [e1]
    by_cases h2 : t.text = s
    · have e2 : decide (t.text = s) = true := decide_eq_true h2
      rw [e2]
      have HZ2 : Hid (ByteArray.toList t.text = ByteArray.toList s) := Lib.hid (by rw [h2])
      clear h1 h2 e1 e2
      go_enter Tryz.func105, Tryz.ntmps105
      go_upto_region 1 with fail
      generalize w.alloc (.cells #[.int .i64 (t.kind : Int), .string t.text, .int .i64 t.n, .int .i64 t.line, .int .i64 t.col] 114) = w1 at *
      have z1 := HZ1.out
      go_wp2_with fail
      go_ret
      exact ⟨by simp [HZ2.out], HE.out⟩
    · have e2 : decide (t.text = s) = false := decide_eq_false h2
      rw [e2]
      have z2 := tl_ne h2
      clear h1 h2 e1 e2
      go_enter Tryz.func105, Tryz.ntmps105
      go_upto_region 1 with fail
      generalize w.alloc (.cells #[.int .i64 (t.kind : Int), .string t.text, .int .i64 t.n, .int .i64 t.line, .int .i64 t.col] 114) = w1 at *
      have z1 := HZ1.out
      go_wp2_with fail
      go_ret
      exact ⟨by simp [z2], HE.out⟩
  · have HZ1 : Hid (¬ (t.kind : Int) = (k : Int)) := Lib.hid (by omega)
    have e1 : decide (t.kind = k) = false := decide_eq_false h1
    rw [e1]
    clear h1 e1
    go_enter Tryz.func105, Tryz.ntmps105
    go_upto_region 1 with fail
    generalize w.alloc (.cells #[.int .i64 (t.kind : Int), .string t.text, .int .i64 t.n, .int .i64 t.line, .int .i64 t.col] 114) = w1 at *
    have z1 := HZ1.out
    go_wp2_with fail
    go_ret
    exact ⟨by simp, HE.out⟩
theorem rWrong_x (t : Tok) (w : World) : Calls Tryz.prog 67 #[(.agg #[.int .i64 (t.kind : Int), .string t.text, .int .i64 t.n, .int .i64 t.line, .int .i64 t.col])] w fun e w' => e = .returned (.int .i64 (if t.kind = 5 then 8 else 7)) ∧ Ext w w' := by
  have HE := Lib.hid ((Upd.refl (fun _ => False) w).alloc (.cells #[.int .i64 (t.kind : Int), .string t.text, .int .i64 t.n, .int .i64 t.line, .int .i64 t.col] 114))
  have HB := Lib.hid (alloc0 w (.cells #[.int .i64 (t.kind : Int), .string t.text, .int .i64 t.n, .int .i64 t.line, .int .i64 t.col] 114))
  have c0 := cellRow HB.out 0 (.int .i64 (t.kind : Int)) rfl
  have c1 := cellRow HB.out 1 (.string t.text) rfl
  have c2 := cellRow HB.out 2 (.int .i64 t.n) rfl
  have c3 := cellRow HB.out 3 (.int .i64 t.line) rfl
  have c4 := cellRow HB.out 4 (.int .i64 t.col) rfl
  by_cases h1 : t.kind = 5
  · have HZ1 : Hid ((t.kind : Int) = 5) := Lib.hid (by omega)
    rw [if_pos h1]
    clear h1
    go_enter Tryz.func67, Tryz.ntmps67
    go_upto_region 1 with fail
    generalize w.alloc (.cells #[.int .i64 (t.kind : Int), .string t.text, .int .i64 t.n, .int .i64 t.line, .int .i64 t.col] 114) = w1 at *
    have z1 := HZ1.out
    go_wp2_with fail
    go_ret
    exact ⟨rfl, HE.out⟩
  · have HZ1 : Hid (¬ (t.kind : Int) = 5) := Lib.hid (by omega)
    rw [if_neg h1]
    clear h1
    go_enter Tryz.func67, Tryz.ntmps67
    go_upto_region 1 with fail
    generalize w.alloc (.cells #[.int .i64 (t.kind : Int), .string t.text, .int .i64 t.n, .int .i64 t.line, .int .i64 t.col] 114) = w1 at *
    have z1 := HZ1.out
    go_wp2_with fail
    go_ret
    exact ⟨rfl, HE.out⟩

end Go.Proofs.YtjjaknmnhhfjeaaGreatDoor

/- move. -/
namespace Go.Proofs.YtjjaknmnhhfjeaaGreatDoor
open Go.RowKit Go.Hw Go Go.Sort Go.Proofs Go.ChangeMaps
set_option linter.unusedVariables false
set_option linter.unusedSimpArgs false

open Tm
def mvF (p : Int × Int) (c : Nat) : Int × Int := if c = 10 then (p.1 + 1, 1) else (p.1, p.2 + 1)
set_option maxRecDepth 100000 in
set_option maxHeartbeats 2000000 in
theorem move_x (ln cl : Int) (c : Nat) (w : World) (hc : c ≤ 255) (h1 : 0 ≤ ln ∧ ln ≤ 1000000000) (h2 : 0 ≤ cl ∧ cl ≤ 1000000000) :
    Calls Tryz.prog 101 #[.agg #[.int .i64 ln, .int .i64 cl], .int .u8 (c : Int)] w fun e w' => e = .returned (.agg #[.int .i64 (mvF (ln, cl) c).1, .int .i64 (mvF (ln, cl) c).2]) ∧ Ext w w' := by
  have HE := Lib.hid (((Upd.refl (fun _ => False) w).alloc (.cells #[.int .i64 ln, .int .i64 cl] 45)).alloc (.cells #[.int .i64 0, .int .i64 0] 45))
  have HB := Lib.hid (allocOld (alloc0 w (.cells #[.int .i64 ln, .int .i64 cl] 45)) (.cells #[.int .i64 0, .int .i64 0] 45))
  have HB2 := Lib.hid (alloc_at (w.alloc (.cells #[.int .i64 ln, .int .i64 cl] 45)) (.cells #[.int .i64 0, .int .i64 0] 45) (n := w.heap.size + 1) (by simp))
  have c0 := cellRow HB.out 0 (.int .i64 ln) rfl
  have c1 := cellRow HB.out 1 (.int .i64 cl) rfl
  have f2 := fun i => frozenRow HB2.out i
  have d0 := cellRow HB2.out 0 (.int .i64 0) rfl
  have d1 := cellRow HB2.out 1 (.int .i64 0) rfl
  by_cases h : c = 10
  · have z1 : (c : Int) = 10 := by omega
    subst h
    go_enter Tryz.func101, Tryz.ntmps101
    go_wp2_with fail
    have hb := alloc_at (w.alloc (.cells #[.int .i64 ln, .int .i64 cl] 45)) (.cells #[.int .i64 (ln + 1), .int .i64 (1)] 45) (n := w.heap.size + 1) (by simp)
    have e0 := cellRow hb 0 (.int .i64 (ln + 1)) rfl
    have e1 := cellRow hb 1 (.int .i64 (1)) rfl
    refine bodyPost_ret (v := .agg #[.int .i64 (ln + 1), .int .i64 (1)]) (by simp [results, Tryz.results101, go_sem, e0, e1]) rfl ⟨by simp [mvF], ((Upd.refl (fun _ => False) w).alloc (.cells #[.int .i64 ln, .int .i64 cl] 45)).alloc (.cells #[.int .i64 (ln + 1), .int .i64 (1)] 45)⟩
  · have z1 : ¬ (c : Int) = 10 := by omega
    have HN : Hid (¬ c = 10) := Lib.hid h
    go_enter Tryz.func101, Tryz.ntmps101
    go_wp2_with fail
    have hb := alloc_at (w.alloc (.cells #[.int .i64 ln, .int .i64 cl] 45)) (.cells #[.int .i64 (ln), .int .i64 (cl + 1)] 45) (n := w.heap.size + 1) (by simp)
    have e0 := cellRow hb 0 (.int .i64 (ln)) rfl
    have e1 := cellRow hb 1 (.int .i64 (cl + 1)) rfl
    refine bodyPost_ret (v := .agg #[.int .i64 (ln), .int .i64 (cl + 1)]) (by simp [results, Tryz.results101, go_sem, e0, e1]) rfl ⟨by simp [mvF, HN.out], ((Upd.refl (fun _ => False) w).alloc (.cells #[.int .i64 ln, .int .i64 cl] 45)).alloc (.cells #[.int .i64 (ln), .int .i64 (cl + 1)] 45)⟩

end Go.Proofs.YtjjaknmnhhfjeaaGreatDoor

/- Symbols. -/
namespace Go.Proofs.YtjjaknmnhhfjeaaGreatDoor
open Go.RowKit Go.Hw Go Go.Sort Go.Proofs Go.ChangeMaps
set_option linter.unusedVariables false
set_option linter.unusedSimpArgs false

open Tm
def symL : List By := [⟨#[61, 61]⟩, ⟨#[33, 61]⟩, ⟨#[60, 61]⟩, ⟨#[45, 62]⟩, ⟨#[40]⟩, ⟨#[41]⟩, ⟨#[123]⟩, ⟨#[125]⟩, ⟨#[91]⟩, ⟨#[93]⟩, ⟨#[44]⟩, ⟨#[59]⟩, ⟨#[58]⟩, ⟨#[46]⟩, ⟨#[61]⟩, ⟨#[60]⟩, ⟨#[43]⟩, ⟨#[45]⟩, ⟨#[42]⟩, ⟨#[47]⟩, ⟨#[37]⟩]
set_option maxRecDepth 100000 in
set_option maxHeartbeats 2000000 in
theorem symbols_x (w : World) : Calls Tryz.prog 129 #[] w fun e w' => ∃ a, e = .returned (.slice a symL.length 21) ∧ StrR (fun k => w.heap.size ≤ k ∧ k < w'.heap.size) w' (.slice a symL.length 21) symL ∧ Ext w w' := by
  have HB := Lib.hid (alloc0 w (.cells #[.string ⟨#[61, 61]⟩, .string ⟨#[33, 61]⟩, .string ⟨#[60, 61]⟩, .string ⟨#[45, 62]⟩, .string ⟨#[40]⟩, .string ⟨#[41]⟩, .string ⟨#[123]⟩, .string ⟨#[125]⟩, .string ⟨#[91]⟩, .string ⟨#[93]⟩, .string ⟨#[44]⟩, .string ⟨#[59]⟩, .string ⟨#[58]⟩, .string ⟨#[46]⟩, .string ⟨#[61]⟩, .string ⟨#[60]⟩, .string ⟨#[43]⟩, .string ⟨#[45]⟩, .string ⟨#[42]⟩, .string ⟨#[47]⟩, .string ⟨#[37]⟩] 9))
  have HE := Lib.hid ((Upd.refl (fun _ => False) w).alloc (.cells #[.string ⟨#[61, 61]⟩, .string ⟨#[33, 61]⟩, .string ⟨#[60, 61]⟩, .string ⟨#[45, 62]⟩, .string ⟨#[40]⟩, .string ⟨#[41]⟩, .string ⟨#[123]⟩, .string ⟨#[125]⟩, .string ⟨#[91]⟩, .string ⟨#[93]⟩, .string ⟨#[44]⟩, .string ⟨#[59]⟩, .string ⟨#[58]⟩, .string ⟨#[46]⟩, .string ⟨#[61]⟩, .string ⟨#[60]⟩, .string ⟨#[43]⟩, .string ⟨#[45]⟩, .string ⟨#[42]⟩, .string ⟨#[47]⟩, .string ⟨#[37]⟩] 9))
  go_enter Tryz.func129, Tryz.ntmps129
  go_wp2_with fail
  go_ret
  refine ⟨some ⟨w.heap.size, 0, none⟩, rfl, ?_, HE.out⟩
  refine SlR.mk' rfl rfl (by decide) (fun _ => by simp) (fun j hj => ?_)
  have hj2 : j < 21 := hj
  rw [Nat.zero_add, cell_of_row _ _ j _ _ _ HB.out]
  rcases (by omega : j = 0 ∨ j = 1 ∨ j = 2 ∨ j = 3 ∨ j = 4 ∨ j = 5 ∨ j = 6 ∨ j = 7 ∨ j = 8 ∨ j = 9 ∨ j = 10 ∨ j = 11 ∨ j = 12 ∨ j = 13 ∨ j = 14 ∨ j = 15 ∨ j = 16 ∨ j = 17 ∨ j = 18 ∨ j = 19 ∨ j = 20) with rfl | rfl | rfl | rfl | rfl | rfl | rfl | rfl | rfl | rfl | rfl | rfl | rfl | rfl | rfl | rfl | rfl | rfl | rfl | rfl | rfl <;> rfl

end Go.Proofs.YtjjaknmnhhfjeaaGreatDoor
