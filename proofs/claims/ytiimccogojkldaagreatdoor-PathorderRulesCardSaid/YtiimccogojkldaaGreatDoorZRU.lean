/- The texts I56 Rules, one behind the other. -/
import Derived.Test.YtiimccogojkldaaGreatDoorZL
import Derived.Test.YtiimccogojkldaaGreatDoorZJ
import Derived.Test.YtiimccogojkldaaGreatDoorZI
import Derived.Test.YtiimccogojkldaaGreatDoorZK
/- The law Rules. -/
namespace Go.Proofs.YtiimccogojkldaaGreatDoor
open Go.RowKit Go.Hw Go
set_option linter.unusedVariables false
set_option linter.unusedSimpArgs false

open Tm
def rulLB (r : Rl) : Bool := largeB r.1 || largeB r.2
theorem rules_small {L : List Rl} (h : L.any rulLB = false) : sizes (flR L) ≤ 60 * L.length := by
  induction L with
  | nil => exact Nat.le_refl _
  | cons r L ih =>
    rw [List.any_cons, Bool.or_eq_false_iff] at h
    unfold rulLB at h
    rw [Bool.or_eq_false_iff] at h
    have h1 := small_of h.1.1
    have h2 := small_of h.1.2
    have h3 := ih h.2
    show sizes (r.1 :: r.2 :: flR L) ≤ _
    simp only [sizes, List.length_cons]
    omega
set_option maxRecDepth 100000 in
set_option maxHeartbeats 2000000 in
theorem lrule_x (x y : Tm) (xa ya : Option Addr) (xc yc : Nat) (S : Nat → Prop) (w : World) (hx : TlR S w x.kids (.slice xa x.kids.length xc)) (hy : TlR S w y.kids (.slice ya y.kids.length yc)) :
    Calls Tryz.prog 15 #[.agg #[.string x.name, .string x.sort, .slice xa x.kids.length xc, .string y.name, .string y.sort, .slice ya y.kids.length yc]] w fun e w' => e = .returned (.bool (rulLB (x, y))) ∧ Ext w w' := by
  have HX := Lib.hid (fun W (hW : Ext w W) => large_x x _ S W ⟨xa, xc, rfl, hx.ext hW⟩)
  have HY := Lib.hid (fun W (hW : Ext w W) => large_x y _ S W ⟨ya, yc, rfl, hy.ext hW⟩)
  have HZ : Hid (Ext w (w.alloc (.cells #[.string x.name, .string x.sort, .slice xa x.kids.length xc, .string y.name, .string y.sort, .slice ya y.kids.length yc] 38))) := Lib.hid ((Upd.refl (fun _ => False) w).alloc _)
  have HB := Lib.hid (alloc0 w (.cells #[.string x.name, .string x.sort, .slice xa x.kids.length xc, .string y.name, .string y.sort, .slice ya y.kids.length yc] 38))
  unfold rulLB
  dsimp only [tV] at HX HY ⊢
  obtain ⟨A, hA⟩ : ∃ b, largeB x = b := ⟨_, rfl⟩
  obtain ⟨B, hB⟩ : ∃ b, largeB y = b := ⟨_, rfl⟩
  rw [hA] at HX ⊢
  rw [hB] at HY ⊢
  have q0 := cellRow HB.out 0 (.string x.name) rfl
  have q1 := cellRow HB.out 1 (.string x.sort) rfl
  have q2 := cellRow HB.out 2 (.slice xa x.kids.length xc) rfl
  have q3 := cellRow HB.out 3 (.string y.name) rfl
  have q4 := cellRow HB.out 4 (.string y.sort) rfl
  have q5 := cellRow HB.out 5 (.slice ya y.kids.length yc) rfl
  clear hA hB hx hy
  go_enter Tryz.func15, Tryz.ntmps15
  go_wp2_with fail
  refine (HX.out _ HZ.out).mono ?_
  rintro e w4 ⟨rfl, hw4⟩
  have H4 := Lib.hid (HZ.out.trans hw4)
  have HB4 := Lib.hid (hw4.heap HB.out (fun h => h))
  clear hw4 q0 q1 q2 q3 q4 q5 HX HB
  have q0 := cellRow HB4.out 0 (.string x.name) rfl
  have q1 := cellRow HB4.out 1 (.string x.sort) rfl
  have q2 := cellRow HB4.out 2 (.slice xa x.kids.length xc) rfl
  have q3 := cellRow HB4.out 3 (.string y.name) rfl
  have q4 := cellRow HB4.out 4 (.string y.sort) rfl
  have q5 := cellRow HB4.out 5 (.slice ya y.kids.length yc) rfl
  cases A
  · go_wp2_with fail
    refine (HY.out _ H4.out).mono ?_
    rintro e w5 ⟨rfl, hw5⟩
    have H5 := Lib.hid (H4.out.trans hw5)
    clear hw5 q0 q1 q2 q3 q4 q5 HY
    go_wp2_with fail
    all_goals go_ret
    all_goals (first | exact ⟨rfl, H5.out⟩ | exact ⟨by simp, H5.out⟩)
  · clear HY
    go_wp2_with fail
    all_goals go_ret
    all_goals (first | exact ⟨rfl, H4.out⟩ | exact ⟨by simp, H4.out⟩)
theorem conl_x (L : List Rl) (v : Value) (S : Nat → Prop) (w : World) (hR : RuR S w L v) (hl : L.length ≤ 1000000) : Calls Tryz.prog 14 #[v, .func (.func 15) #[] #[]] w fun e w' => e = .returned (.bool (L.any rulLB)) ∧ Ext w w' :=
  (conR15_x rulLB (fun _ W => Ext w W) (fun _ _ _ h h2 => h.trans h2) L v S w (Upd.refl _ _) hl (fun k W h => hR.ext h) (fun k hk xa xc ya yc W h hx hy => (lrule_x (rg L k).1 (rg L k).2 xa ya xc yc S W hx hy).mono fun e W' ⟨h1, h2⟩ => ⟨h1, h.trans h2⟩)).mono fun e w' ⟨h1, k, _, h2⟩ => ⟨h1, h2⟩
set_option maxRecDepth 100000 in
set_option maxHeartbeats 2000000 in
theorem rules_law (ops : List By) (L : List Rl) (ov lv : Value) (w : World) (hO : StR (fun k => k < w.heap.size) w ov ops) (hR : RuR (fun k => k < w.heap.size) w L lv) (htab : AscT w) (hpow : Lib.TabIs Tryz.prog w "internal/strconv.uint64pow10" .u64 Lib.pow10Tab) :
    Calls Tryz.prog 4 #[ov, lv] w fun e w' => e = .returned (.bool true) ∧ Ext w w' := by
  have HAW := Lib.hid (awake_x w htab hpow)
  have HLO := Lib.hid (fun W (hW : Ext w W) => long_x ops ov _ W (SlR.kept hO hW (fun _ _ h => h)))
  have HCL := Lib.hid (fun (h1 : L.length ≤ 120) W (hW : Ext w W) => conl_x L lv _ W (hR.ext hW) (by omega))
  have HPD := Lib.hid (fun (h1 : ops.length ≤ 120) (h2 : L.length ≤ 120) (h3 : L.any rulLB = false) W (hW : Ext w W) => decr_x ops L ov lv W (SlR.weaken (SlR.kept hO hW (fun _ _ h => h)) (fun k hk => Nat.lt_of_lt_of_le hk hW.size)) ((hR.ext hW).weaken (fun k hk => Nat.lt_of_lt_of_le hk hW.size)) (asc_ext htab hW) (pow_upd hpow hW (fun _ _ h => h)) (by omega) (by omega) (by have := rules_small h3; omega))
  have HRD := Lib.hid (fun (h1 : ops.length ≤ 120) (h2 : L.length ≤ 120) (h3 : L.any rulLB = false) W (hW : Ext w W) => rdecr_x ops L ov lv W (SlR.weaken (SlR.kept hO hW (fun _ _ h => h)) (fun k hk => Nat.lt_of_lt_of_le hk hW.size)) ((hR.ext hW).weaken (fun k hk => Nat.lt_of_lt_of_le hk hW.size)) (by omega) (by omega) (by have := rules_small h3; omega))
  obtain ⟨oa, oc, rfl⟩ := SlR.shape hO
  obtain ⟨la, lc, rfl⟩ := hR.shape
  clear hO hR htab hpow
  go_enter Tryz.func4, Tryz.ntmps4
  go_wp2_with fail
  refine HAW.out.mono ?_
  rintro e w4 ⟨rfl, hw4⟩
  have H4 := Lib.hid hw4
  clear hw4 HAW
  go_wp2_with fail
  refine (HLO.out _ H4.out).mono ?_
  rintro e w5 ⟨⟨lb, rfl, hlb⟩, hw5⟩
  have H5 := Lib.hid (H4.out.trans hw5)
  have HL := Lib.hid hlb
  clear hw5 HLO hlb
  cases lb
  case true =>
    go_wp2_with fail
    all_goals go_ret
    all_goals exact ⟨rfl, H5.out⟩
  have HL1 := HL.out rfl
  have HPD1 := Lib.hid (HPD.out HL1)
  have HRD1 := Lib.hid (HRD.out HL1)
  clear HPD HRD HL HL1
  by_cases hA : 12 < L.length ∧ L.length ≤ 100
  · have y1 : (12 : Int) < (L.length : Int) := by omega
    have y2 : (L.length : Int) ≤ 100 := by omega
    have y1' : decide ((12 : Int) < (L.length : Int)) = true := decide_eq_true y1
    have y2' : decide ((L.length : Int) ≤ 100) = true := decide_eq_true y2
    clear hA
    go_wp2_with fail
    all_goals go_ret
    all_goals exact ⟨rfl, H5.out⟩
  by_cases hB : 120 < L.length
  · have y1 : (12 : Int) < (L.length : Int) := by omega
    have y2 : ¬ (L.length : Int) ≤ 100 := by omega
    have y3 : (120 : Int) < (L.length : Int) := by omega
    have y1' : decide ((12 : Int) < (L.length : Int)) = true := decide_eq_true y1
    have y2' : decide ((L.length : Int) ≤ 100) = false := decide_eq_false y2
    have y3' : decide ((120 : Int) < (L.length : Int)) = true := decide_eq_true y3
    clear hA hB
    go_wp2_with fail
    all_goals go_ret
    all_goals exact ⟨rfl, H5.out⟩
  have y3 : ¬ (120 : Int) < (L.length : Int) := by omega
  have y3' : decide ((120 : Int) < (L.length : Int)) = false := decide_eq_false y3
  have hlen : L.length ≤ 120 := by omega
  have HLEN := Lib.hid hlen
  obtain ⟨D, hD⟩ : ∃ D, decide ((12 : Int) < (L.length : Int)) = D := ⟨_, rfl⟩
  have hDD : D = true → decide ((L.length : Int) ≤ 100) = false := fun h => decide_eq_false (by
    have := of_decide_eq_true (hD.trans h)
    omega)
  have HPD2 := Lib.hid (HPD1.out hlen)
  have HRD2 := Lib.hid (HRD1.out hlen)
  have HCL1 := Lib.hid (HCL.out hlen _ H5.out)
  clear HPD1 HRD1 HCL hA hB hlen
  obtain ⟨X, hX⟩ : ∃ x, L.any rulLB = x := ⟨_, rfl⟩
  rw [hX] at HCL1 HPD2 HRD2
  cases D
  · clear hDD
    go_wp2_with fail
    refine HCL1.out.mono ?_
    rintro e w6 ⟨rfl, hw6⟩
    have H6 := Lib.hid (H5.out.trans hw6)
    clear hw6 HCL1 hX
    cases X
    case true =>
      go_wp2_with fail
      all_goals go_ret
      all_goals exact ⟨rfl, H6.out⟩
    have HPD3 := Lib.hid (HPD2.out rfl)
    have HRD3 := Lib.hid (HRD2.out rfl)
    clear HPD2 HRD2
    generalize decF ops L = G at *
    go_wp2_with fail
    refine (HPD3.out _ H6.out).mono ?_
    rintro e w8 ⟨rfl, hw8⟩
    have H8 := Lib.hid (H6.out.trans hw8)
    clear hw8 HPD3
    go_wp2_with fail
    refine (HRD3.out _ H8.out).mono ?_
    rintro e w9 ⟨rfl, hw9⟩
    have H9 := Lib.hid (H8.out.trans hw9)
    clear hw9 HRD3
    go_wp2_with fail
    all_goals go_ret
    all_goals (first | exact ⟨rfl, H9.out⟩ | exact ⟨by simp, H9.out⟩)
  · have y2' := hDD rfl
    have y2 := of_decide_eq_false y2'
    clear hDD
    go_wp2_with fail
    refine HCL1.out.mono ?_
    rintro e w6 ⟨rfl, hw6⟩
    have H6 := Lib.hid (H5.out.trans hw6)
    clear hw6 HCL1 hX
    cases X
    case true =>
      go_wp2_with fail
      all_goals go_ret
      all_goals exact ⟨rfl, H6.out⟩
    have HPD3 := Lib.hid (HPD2.out rfl)
    have HRD3 := Lib.hid (HRD2.out rfl)
    clear HPD2 HRD2
    generalize decF ops L = G at *
    go_wp2_with fail
    refine (HPD3.out _ H6.out).mono ?_
    rintro e w8 ⟨rfl, hw8⟩
    have H8 := Lib.hid (H6.out.trans hw8)
    clear hw8 HPD3
    go_wp2_with fail
    refine (HRD3.out _ H8.out).mono ?_
    rintro e w9 ⟨rfl, hw9⟩
    have H9 := Lib.hid (H8.out.trans hw9)
    clear hw9 HRD3
    go_wp2_with fail
    all_goals go_ret
    all_goals (first | exact ⟨rfl, H9.out⟩ | exact ⟨by simp, H9.out⟩)

end Go.Proofs.YtiimccogojkldaaGreatDoor

/- The law PathorderRules: the row, and the tied card. For every input the call returns true, and each argument reads as it did. -/
namespace Go.Proofs.YtiimccogojkldaaGreatDoor
open Go.ChangeShapes Go.WideShapes Go.ChangeAt Go.RowKit Go.Hw
set_option linter.unusedVariables false
set_option linter.unusedSimpArgs false
set_option maxRecDepth 100000 in
theorem pathorderRules_lifted (os : Os) (started : os.Started) (H : Type) (enc : TypeId × Value → H) :
    ReturnsInHanded {} Tryz.checked os 4 .any (fun w args => (Rows.pathorderRulesSpec.pre enc Tryz.prog Tryz.f4 [] false w args ∧ laidMetH Tryz.prog tabsL w) ∧ sizedMet enc Tryz.prog Tryz.f4 (OpenSpec.ofChange Rows.pathorderRulesSpec) false w args)
      (Rows.pathorderRulesSpec.post enc Tryz.prog Tryz.f4 false true false false) := by
  refine returnsInHanded_of_change_and (C := Tryz.checked) (X := fun w _ => laidMetH Tryz.prog tabsL w) (fun _ _ _ hh h => h.of_heap hh) Tryz.own started (by kernel_rfl) Tryz.func4
    (ChangeSpec.witness_shaped (enc := enc) (C := Tryz.checked) (os := os) (X := fun w _ => laidMetH Tryz.prog tabsL w) false (World.laidAll Tryz.prog os tabsL) #[.slice none 0 0, .slice none 0 0] 8 (World.laidAll_os _ _ _)
      (World.shaped_of_ZipB (by kernel_rfl) (by kernel_rfl)) (by kernel_rfl) (by kernel_rfl) (by kernel_rfl)
      (by rw [MakeChecks.laidMetH_plain _ _ _ (by kernel_rfl)]; exact laidMet_laidAll _ (by kernel_rfl) (by kernel_rfl))) ?_
  intro W base args ds gs before hval0 hW hcnd hLgt hL _
  have hval : ∀ (j : Nat) t v, Tryz.f4.params[j]? = some t → args[j]? = some v → Value.okWide Tryz.prog W .any base t v := hval0
  have hW' := hW
  obtain ⟨p, q, hA0, hV, rfl, hfz, hnd⟩ := hW
  have hA : DataW.TrodAll enc Tryz.prog W 0 (fun _ => true) true Tryz.f4.params.toList args.toList ds p := hA0
  rw [Tryz.params4] at hA hval
  obtain ⟨v0, vs0, d0, ds0, p0, q0, hargs, rfl, rfl, h0, r0⟩ := trodAll_cons hA
  obtain ⟨v1, vs1, d1, ds1, p1, q1, rfl, rfl, rfl, h1, r1⟩ := trodAll_cons r0
  obtain ⟨rfl, rfl, rfl⟩ := trodAll_nil r1
  obtain rfl : args = #[v0, v1] := by cases args; simp_all
  obtain ⟨rfl, rfl⟩ := trodVars_none hV
  simp only [List.append_nil] at hW'
  have hlt : ∀ x ∈ p0 ++ p1, x.block < W.heap.size := fun x hx => by simpa using hW'.lt x hx
  have k0 : ∀ (W' : World), Below W.heap.size W W' → DataW.Trod enc Tryz.prog W' 0 (fun b => decide (b < W.heap.size)) true 22 v0 d0 p0 :=
    fun W' hn => Below.trod Tryz.laidOut (by kernel_rfl) (of_decide_eq_true (by kernel_rfl)) h0 hn (fun x hx => hlt x (by simp [hx]))
  have k1 : ∀ (W' : World), Below W.heap.size W W' → DataW.Trod enc Tryz.prog W' 0 (fun b => decide (b < W.heap.size)) true 35 v1 d1 p1 :=
    fun W' hn => Below.trod Tryz.laidOut (by kernel_rfl) (of_decide_eq_true (by kernel_rfl)) h1 hn (fun x hx => hlt x (by simp [hx]))
  obtain ⟨ops0, hs0, hm0⟩ := open_strs h0 (okWide_slice Tryz.underlying22 (hval 0 22 v0 rfl rfl))
  obtain ⟨l1, hl1, hm1, hu1⟩ := open_rules h1 (okWide_slice Tryz.underlying35 (hval 1 35 v1 rfl rfl))
  have hR1 := rules_in hl1 hu1
  have HT := tab_of_laid hL
  have HA := asc_of_laid hL
  clear hA0 hval0
  refine (rules_law ops0 (ruls l1) v0 v1 W hs0 hR1 HA HT).mono fun e W' ⟨he, hx⟩ => ?_
  subst he
  have hn := Ext.below hx
  refine ⟨_, rfl, _, _, _, [], p0 ++ (p1 ++ []), [], hW', ?_, ?_, rfl, hn.frame _, fun h => by cases h⟩
  · exact trodAll_cons_mk (shut_bool Tryz.underlying4 true) trodAll_mk0
  · exact trodAll_cons_mk (k0 _ hn) (trodAll_cons_mk (k1 _ hn) trodAll_mk0)

theorem pathorderRules_row_holds : Rows.PathorderRulesSaid :=
  OpenClaim.holds_of_wide 4 Tryz.f4 rfl rfl rfl rfl rfl rfl rfl ⟨rfl, rfl, rfl, rfl, rfl⟩ rfl rfl rfl rfl rfl (by kernel_rfl) Tryz.func4 (by kernel_rfl)
    (of_decide_eq_true (by kernel_rfl)) (by unfold Func.isWrapper; first | (rw [if_pos (by decide +kernel)]; kernel_rfl) | (rw [if_neg (by decide +kernel)]; exact ⟨rfl, rfl⟩))
    (fun os started H enc _ => pathorderRules_lifted os started H enc)
theorem pathorderRules_holds : Rows.PathorderRulesCardSaid :=
  Claim7.holds_tied_plain_at .later [] [.data, .data, .data, .listed, .data] true (true, "bac6dac459e8299fc4ebf66e6e4987433add47040902b3fb521380f412e52315") false pathorderRules_row_holds (fun _ h => by cases h) (by kernel_rfl) (fun _ h => by cases h) pathorderRules_row_tie rfl ⟨rfl, rfl⟩ (by kernel_rfl) rfl
    (fun f fn hf hfn => by
      obtain rfl : f = 4 := Option.some.inj ((show Tryz.prog.funcNamed "heartwood/heartwoodlaw08.PathorderRules" = some 4 by kernel_rfl).symm.trans hf) |>.symm
      obtain rfl : fn = Tryz.f4 := (Option.some.inj (Tryz.func4.symm.trans hfn)).symm
      exact ⟨by kernel_rfl, fun j t ht => by
        rw [Tryz.params4] at ht
        have hm : t ∈ [22, 35] := by simpa using Array.mem_of_getElem? ht
        have hall : ([22, 35].all fun u => !Tryz.prog.wantsStandIn u) = true := by kernel_rfl
        exact (show Tryz.prog.wantsStandIn t = false by simpa using List.all_eq_true.1 hall t hm)⟩)
    (by kernel_rfl)
#print axioms pathorderRules_holds
end Go.Proofs.YtiimccogojkldaaGreatDoor
