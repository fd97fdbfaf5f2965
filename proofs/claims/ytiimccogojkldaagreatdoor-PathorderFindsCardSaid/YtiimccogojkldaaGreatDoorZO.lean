/- The texts I56, one behind the other. -/
import Derived.Test.YtiimccogojkldaaGreatDoorZL
import Derived.Test.YtiimccogojkldaaGreatDoorZJ
import Derived.Test.YtiimccogojkldaaGreatDoorZI
/- The law Rules. -/
namespace Go.Proofs.YtiimccogojkldaaGreatDoor
open Go.RowKit Go.Hw Go
set_option linter.unusedVariables false
set_option linter.unusedSimpArgs false

open Tm
def rulLB (r : Rl) : Bool := largeB r.1 || largeB r.2
theorem rules_small {L : List Rl} (h : L.any rulLB = false) : sizes (flR L) ≤ 60 * L.length := by
  induction L with
  | nil => exact Nat.le_refl _
  | cons r L ih =>
    rw [List.any_cons, Bool.or_eq_false_iff] at h
    unfold rulLB at h
    rw [Bool.or_eq_false_iff] at h
    have h1 := small_of h.1.1
    have h2 := small_of h.1.2
    have h3 := ih h.2
    show sizes (r.1 :: r.2 :: flR L) ≤ _
    simp only [sizes, List.length_cons]
    omega
set_option maxRecDepth 100000 in
set_option maxHeartbeats 2000000 in
theorem lrule_x (x y : Tm) (xa ya : Option Addr) (xc yc : Nat) (S : Nat → Prop) (w : World) (hx : TlR S w x.kids (.slice xa x.kids.length xc)) (hy : TlR S w y.kids (.slice ya y.kids.length yc)) :
    Calls Tryz.prog 15 #[.agg #[.string x.name, .string x.sort, .slice xa x.kids.length xc, .string y.name, .string y.sort, .slice ya y.kids.length yc]] w fun e w' => e = .returned (.bool (rulLB (x, y))) ∧ Ext w w' := by
  have HX := Lib.hid (fun W (hW : Ext w W) => large_x x _ S W ⟨xa, xc, rfl, hx.ext hW⟩)
  have HY := Lib.hid (fun W (hW : Ext w W) => large_x y _ S W ⟨ya, yc, rfl, hy.ext hW⟩)
  have HZ : Hid (Ext w (w.alloc (.cells #[.string x.name, .string x.sort, .slice xa x.kids.length xc, .string y.name, .string y.sort, .slice ya y.kids.length yc] 38))) := Lib.hid ((Upd.refl (fun _ => False) w).alloc _)
  have HB := Lib.hid (alloc0 w (.cells #[.string x.name, .string x.sort, .slice xa x.kids.length xc, .string y.name, .string y.sort, .slice ya y.kids.length yc] 38))
  unfold rulLB
  dsimp only [tV] at HX HY ⊢
  obtain ⟨A, hA⟩ : ∃ b, largeB x = b := ⟨_, rfl⟩
  obtain ⟨B, hB⟩ : ∃ b, largeB y = b := ⟨_, rfl⟩
  rw [hA] at HX ⊢
  rw [hB] at HY ⊢
  have q0 := cellRow HB.out 0 (.string x.name) rfl
  have q1 := cellRow HB.out 1 (.string x.sort) rfl
  have q2 := cellRow HB.out 2 (.slice xa x.kids.length xc) rfl
  have q3 := cellRow HB.out 3 (.string y.name) rfl
  have q4 := cellRow HB.out 4 (.string y.sort) rfl
  have q5 := cellRow HB.out 5 (.slice ya y.kids.length yc) rfl
  clear hA hB hx hy
  go_enter Tryz.func15, Tryz.ntmps15
  go_wp2_with fail
  refine (HX.out _ HZ.out).mono ?_
  rintro e w4 ⟨rfl, hw4⟩
  have H4 := Lib.hid (HZ.out.trans hw4)
  have HB4 := Lib.hid (hw4.heap HB.out (fun h => h))
  clear hw4 q0 q1 q2 q3 q4 q5 HX HB
  have q0 := cellRow HB4.out 0 (.string x.name) rfl
  have q1 := cellRow HB4.out 1 (.string x.sort) rfl
  have q2 := cellRow HB4.out 2 (.slice xa x.kids.length xc) rfl
  have q3 := cellRow HB4.out 3 (.string y.name) rfl
  have q4 := cellRow HB4.out 4 (.string y.sort) rfl
  have q5 := cellRow HB4.out 5 (.slice ya y.kids.length yc) rfl
  cases A
  · go_wp2_with fail
    refine (HY.out _ H4.out).mono ?_
    rintro e w5 ⟨rfl, hw5⟩
    have H5 := Lib.hid (H4.out.trans hw5)
    clear hw5 q0 q1 q2 q3 q4 q5 HY
    go_wp2_with fail
    all_goals go_ret
    all_goals (first | exact ⟨rfl, H5.out⟩ | exact ⟨by simp, H5.out⟩)
  · clear HY
    go_wp2_with fail
    all_goals go_ret
    all_goals (first | exact ⟨rfl, H4.out⟩ | exact ⟨by simp, H4.out⟩)
theorem conl_x (L : List Rl) (v : Value) (S : Nat → Prop) (w : World) (hR : RuR S w L v) (hl : L.length ≤ 1000000) : Calls Tryz.prog 14 #[v, .func (.func 15) #[] #[]] w fun e w' => e = .returned (.bool (L.any rulLB)) ∧ Ext w w' :=
  (conR15_x rulLB (fun _ W => Ext w W) (fun _ _ _ h h2 => h.trans h2) L v S w (Upd.refl _ _) hl (fun k W h => hR.ext h) (fun k hk xa xc ya yc W h hx hy => (lrule_x (rg L k).1 (rg L k).2 xa ya xc yc S W hx hy).mono fun e W' ⟨h1, h2⟩ => ⟨h1, h.trans h2⟩)).mono fun e w' ⟨h1, k, _, h2⟩ => ⟨h1, h2⟩
set_option maxRecDepth 100000 in
set_option maxHeartbeats 2000000 in
theorem rules_law (ops : List By) (L : List Rl) (ov lv : Value) (w : World) (hO : StR (fun k => k < w.heap.size) w ov ops) (hR : RuR (fun k => k < w.heap.size) w L lv) (htab : AscT w) (hpow : Lib.TabIs Tryz.prog w "internal/strconv.uint64pow10" .u64 Lib.pow10Tab) :
    Calls Tryz.prog 4 #[ov, lv] w fun e w' => e = .returned (.bool true) ∧ Ext w w' := by
  have HAW := Lib.hid (awake_x w htab hpow)
  have HLO := Lib.hid (fun W (hW : Ext w W) => long_x ops ov _ W (SlR.kept hO hW (fun _ _ h => h)))
  have HCL := Lib.hid (fun (h1 : L.length ≤ 120) W (hW : Ext w W) => conl_x L lv _ W (hR.ext hW) (by omega))
  have HPD := Lib.hid (fun (h1 : ops.length ≤ 120) (h2 : L.length ≤ 120) (h3 : L.any rulLB = false) W (hW : Ext w W) => decr_x ops L ov lv W (SlR.weaken (SlR.kept hO hW (fun _ _ h => h)) (fun k hk => Nat.lt_of_lt_of_le hk hW.size)) ((hR.ext hW).weaken (fun k hk => Nat.lt_of_lt_of_le hk hW.size)) (asc_ext htab hW) (pow_upd hpow hW (fun _ _ h => h)) (by omega) (by omega) (by have := rules_small h3; omega))
  have HRD := Lib.hid (fun (h1 : ops.length ≤ 120) (h2 : L.length ≤ 120) (h3 : L.any rulLB = false) W (hW : Ext w W) => rdecr_x ops L ov lv W (SlR.weaken (SlR.kept hO hW (fun _ _ h => h)) (fun k hk => Nat.lt_of_lt_of_le hk hW.size)) ((hR.ext hW).weaken (fun k hk => Nat.lt_of_lt_of_le hk hW.size)) (by omega) (by omega) (by have := rules_small h3; omega))
  obtain ⟨oa, oc, rfl⟩ := SlR.shape hO
  obtain ⟨la, lc, rfl⟩ := hR.shape
  clear hO hR htab hpow
  go_enter Tryz.func4, Tryz.ntmps4
  go_wp2_with fail
  refine HAW.out.mono ?_
  rintro e w4 ⟨rfl, hw4⟩
  have H4 := Lib.hid hw4
  clear hw4 HAW
  go_wp2_with fail
  refine (HLO.out _ H4.out).mono ?_
  rintro e w5 ⟨⟨lb, rfl, hlb⟩, hw5⟩
  have H5 := Lib.hid (H4.out.trans hw5)
  have HL := Lib.hid hlb
  clear hw5 HLO hlb
  cases lb
  case true =>
    go_wp2_with fail
    all_goals go_ret
    all_goals exact ⟨rfl, H5.out⟩
  have HL1 := HL.out rfl
  have HPD1 := Lib.hid (HPD.out HL1)
  have HRD1 := Lib.hid (HRD.out HL1)
  clear HPD HRD HL HL1
  by_cases hA : 12 < L.length ∧ L.length ≤ 100
  · have y1 : (12 : Int) < (L.length : Int) := by omega
    have y2 : (L.length : Int) ≤ 100 := by omega
    have y1' : decide ((12 : Int) < (L.length : Int)) = true := decide_eq_true y1
    have y2' : decide ((L.length : Int) ≤ 100) = true := decide_eq_true y2
    clear hA
    go_wp2_with fail
    all_goals go_ret
    all_goals exact ⟨rfl, H5.out⟩
  by_cases hB : 120 < L.length
  · have y1 : (12 : Int) < (L.length : Int) := by omega
    have y2 : ¬ (L.length : Int) ≤ 100 := by omega
    have y3 : (120 : Int) < (L.length : Int) := by omega
    have y1' : decide ((12 : Int) < (L.length : Int)) = true := decide_eq_true y1
    have y2' : decide ((L.length : Int) ≤ 100) = false := decide_eq_false y2
    have y3' : decide ((120 : Int) < (L.length : Int)) = true := decide_eq_true y3
    clear hA hB
    go_wp2_with fail
    all_goals go_ret
    all_goals exact ⟨rfl, H5.out⟩
  have y3 : ¬ (120 : Int) < (L.length : Int) := by omega
  have y3' : decide ((120 : Int) < (L.length : Int)) = false := decide_eq_false y3
  have hlen : L.length ≤ 120 := by omega
  have HLEN := Lib.hid hlen
  obtain ⟨D, hD⟩ : ∃ D, decide ((12 : Int) < (L.length : Int)) = D := ⟨_, rfl⟩
  have hDD : D = true → decide ((L.length : Int) ≤ 100) = false := fun h => decide_eq_false (by
    have := of_decide_eq_true (hD.trans h)
    omega)
  have HPD2 := Lib.hid (HPD1.out hlen)
  have HRD2 := Lib.hid (HRD1.out hlen)
  have HCL1 := Lib.hid (HCL.out hlen _ H5.out)
  clear HPD1 HRD1 HCL hA hB hlen
  obtain ⟨X, hX⟩ : ∃ x, L.any rulLB = x := ⟨_, rfl⟩
  rw [hX] at HCL1 HPD2 HRD2
  cases D
  · clear hDD
    go_wp2_with fail
    refine HCL1.out.mono ?_
    rintro e w6 ⟨rfl, hw6⟩
    have H6 := Lib.hid (H5.out.trans hw6)
    clear hw6 HCL1 hX
    cases X
    case true =>
      go_wp2_with fail
      all_goals go_ret
      all_goals exact ⟨rfl, H6.out⟩
    have HPD3 := Lib.hid (HPD2.out rfl)
    have HRD3 := Lib.hid (HRD2.out rfl)
    clear HPD2 HRD2
    generalize decF ops L = G at *
    go_wp2_with fail
    refine (HPD3.out _ H6.out).mono ?_
    rintro e w8 ⟨rfl, hw8⟩
    have H8 := Lib.hid (H6.out.trans hw8)
    clear hw8 HPD3
    go_wp2_with fail
    refine (HRD3.out _ H8.out).mono ?_
    rintro e w9 ⟨rfl, hw9⟩
    have H9 := Lib.hid (H8.out.trans hw9)
    clear hw9 HRD3
    go_wp2_with fail
    all_goals go_ret
    all_goals (first | exact ⟨rfl, H9.out⟩ | exact ⟨by simp, H9.out⟩)
  · have y2' := hDD rfl
    have y2 := of_decide_eq_false y2'
    clear hDD
    go_wp2_with fail
    refine HCL1.out.mono ?_
    rintro e w6 ⟨rfl, hw6⟩
    have H6 := Lib.hid (H5.out.trans hw6)
    clear hw6 HCL1 hX
    cases X
    case true =>
      go_wp2_with fail
      all_goals go_ret
      all_goals exact ⟨rfl, H6.out⟩
    have HPD3 := Lib.hid (HPD2.out rfl)
    have HRD3 := Lib.hid (HRD2.out rfl)
    clear HPD2 HRD2
    generalize decF ops L = G at *
    go_wp2_with fail
    refine (HPD3.out _ H6.out).mono ?_
    rintro e w8 ⟨rfl, hw8⟩
    have H8 := Lib.hid (H6.out.trans hw8)
    clear hw8 HPD3
    go_wp2_with fail
    refine (HRD3.out _ H8.out).mono ?_
    rintro e w9 ⟨rfl, hw9⟩
    have H9 := Lib.hid (H8.out.trans hw9)
    clear hw9 HRD3
    go_wp2_with fail
    all_goals go_ret
    all_goals (first | exact ⟨rfl, H9.out⟩ | exact ⟨by simp, H9.out⟩)

end Go.Proofs.YtiimccogojkldaaGreatDoor
