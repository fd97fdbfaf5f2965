/- The texts I50 Greater, one behind the other. -/
import Derived.Test.YtiimccogojkldaaGreatDoorZI
import Derived.Test.YtiimccogojkldaaGreatDoorZJ
import Derived.Test.YtiimccogojkldaaGreatDoorZK
/- The law Greater. -/
namespace Go.Proofs.YtiimccogojkldaaGreatDoor
open Go.RowKit Go.Hw Go
set_option linter.unusedVariables false
set_option linter.unusedSimpArgs false

open Tm
set_option maxRecDepth 100000 in
set_option maxHeartbeats 2000000 in
theorem greater_law (ops : List By) (a b : Tm) (ov va vb : Value) (w : World) (hO : StR (fun k => k < w.heap.size) w ov ops) (ha : TmR (fun k => k < w.heap.size) w a va) (hb : TmR (fun k => k < w.heap.size) w b vb) (htab : AscT w) (hpow : Lib.TabIs Tryz.prog w "internal/strconv.uint64pow10" .u64 Lib.pow10Tab) :
    Calls Tryz.prog 3 #[ov, va, vb] w fun e w' => e = .returned (.bool true) ∧ Ext w w' := by
  have HAW := Lib.hid (fun W (hW : Ext w W) => awake_x W (asc_ext htab hW) (pow_upd hpow hW (fun _ _ h => h)))
  have HLO := Lib.hid (fun W (hW : Ext w W) => long_x ops ov _ W (SlR.kept hO hW (fun _ _ h => h)))
  have HLA := Lib.hid (fun W (hW : Ext w W) => large_x a va _ W (ha.ext hW))
  have HLB := Lib.hid (fun W (hW : Ext w W) => large_x b vb _ W (hb.ext hW))
  have HPG := Lib.hid (fun (h1 : ops.length ≤ 120) (h2 : largeB a = false) (h3 : largeB b = false) W (hW : Ext w W) => pgreater_x ops a b ov va vb _ W (asc_ext htab hW) (pow_upd hpow hW (fun _ _ h => h)) (SlR.kept hO hW (fun _ _ h => h)) (ha.ext hW) (hb.ext hW) (fun k hk => Nat.lt_of_lt_of_le hk hW.size) (by omega) (by have := small_of h2; omega) (by have := small_of h3; omega))
  have HRG := Lib.hid (fun (h1 : ops.length ≤ 120) W (hW : Ext w W) => rgreater_x ops a b ov va vb _ W (SlR.kept hO hW (fun _ _ h => h)) (ha.ext hW) (hb.ext hW) (fun k hk => Nat.lt_of_lt_of_le hk hW.size) (by omega))
  obtain ⟨oa, oc, rfl⟩ := SlR.shape hO
  obtain ⟨aa, ac, rfl, _⟩ := ha
  obtain ⟨ba, bc, rfl, _⟩ := hb
  dsimp only [tV] at HLA HLB HPG HRG ⊢
  clear hO htab hpow
  have H0 : Hid (Ext w ((w.alloc (.cells #[.string a.name, .string a.sort, .slice aa a.kids.length ac] 25)).alloc (.cells #[.string b.name, .string b.sort, .slice ba b.kids.length bc] 25))) := Lib.hid (((Upd.refl (fun _ => False) w).alloc _).alloc _)
  have HA : Hid (((w.alloc (.cells #[.string a.name, .string a.sort, .slice aa a.kids.length ac] 25)).alloc (.cells #[.string b.name, .string b.sort, .slice ba b.kids.length bc] 25)).heap[w.heap.size]? = some (.cells #[.string a.name, .string a.sort, .slice aa a.kids.length ac] 25 (0, 0))) := Lib.hid (allocOld (alloc0 w (.cells #[.string a.name, .string a.sort, .slice aa a.kids.length ac] 25)) (.cells #[.string b.name, .string b.sort, .slice ba b.kids.length bc] 25))
  have HB : Hid (((w.alloc (.cells #[.string a.name, .string a.sort, .slice aa a.kids.length ac] 25)).alloc (.cells #[.string b.name, .string b.sort, .slice ba b.kids.length bc] 25)).heap[w.heap.size + 1]? = some (.cells #[.string b.name, .string b.sort, .slice ba b.kids.length bc] 25 (0, 0))) := Lib.hid (alloc_at (w.alloc (.cells #[.string a.name, .string a.sort, .slice aa a.kids.length ac] 25)) (.cells #[.string b.name, .string b.sort, .slice ba b.kids.length bc] 25) (n := w.heap.size + 1) (by simp))
  have p0 := cellRow HA.out 0 (.string a.name) rfl
  have p1 := cellRow HA.out 1 (.string a.sort) rfl
  have p2 := cellRow HA.out 2 (.slice aa a.kids.length ac) rfl
  have q0 := cellRow HB.out 0 (.string b.name) rfl
  have q1 := cellRow HB.out 1 (.string b.sort) rfl
  have q2 := cellRow HB.out 2 (.slice ba b.kids.length bc) rfl
  go_enter Tryz.func3, Tryz.ntmps3
  go_wp2_with fail
  refine (HAW.out _ H0.out).mono ?_
  rintro e w4 ⟨rfl, hw4⟩
  have H4 := Lib.hid (H0.out.trans hw4)
  have HA_4 := Lib.hid (hw4.heap HA.out (fun h => h))
  have HB_4 := Lib.hid (hw4.heap HB.out (fun h => h))
  clear hw4 p0 p1 p2 q0 q1 q2
  have p0 := cellRow HA_4.out 0 (.string a.name) rfl
  have p1 := cellRow HA_4.out 1 (.string a.sort) rfl
  have p2 := cellRow HA_4.out 2 (.slice aa a.kids.length ac) rfl
  have q0 := cellRow HB_4.out 0 (.string b.name) rfl
  have q1 := cellRow HB_4.out 1 (.string b.sort) rfl
  have q2 := cellRow HB_4.out 2 (.slice ba b.kids.length bc) rfl
  clear HAW
  go_wp2_with fail
  refine (HLO.out _ H4.out).mono ?_
  rintro e w5 ⟨⟨lb, rfl, hlb⟩, hw5⟩
  have H5 := Lib.hid (H4.out.trans hw5)
  have HA_5 := Lib.hid (hw5.heap HA_4.out (fun h => h))
  have HB_5 := Lib.hid (hw5.heap HB_4.out (fun h => h))
  clear hw5 p0 p1 p2 q0 q1 q2
  have p0 := cellRow HA_5.out 0 (.string a.name) rfl
  have p1 := cellRow HA_5.out 1 (.string a.sort) rfl
  have p2 := cellRow HA_5.out 2 (.slice aa a.kids.length ac) rfl
  have q0 := cellRow HB_5.out 0 (.string b.name) rfl
  have q1 := cellRow HB_5.out 1 (.string b.sort) rfl
  have q2 := cellRow HB_5.out 2 (.slice ba b.kids.length bc) rfl
  have HL := Lib.hid hlb
  clear HLO hlb
  cases lb
  case true =>
    go_wp2_with fail
    all_goals go_ret
    all_goals exact ⟨rfl, H5.out⟩
  have HL1 := HL.out rfl
  have HPG1 := Lib.hid (HPG.out HL1)
  have HRG1 := Lib.hid (HRG.out HL1)
  clear HPG HRG HL HL1
  obtain ⟨LA, hLA⟩ : ∃ x, largeB a = x := ⟨_, rfl⟩
  rw [hLA] at HLA HPG1
  go_wp2_with fail
  refine (HLA.out _ H5.out).mono ?_
  rintro e w6 ⟨rfl, hw6⟩
  have H6 := Lib.hid (H5.out.trans hw6)
  have HA_6 := Lib.hid (hw6.heap HA_5.out (fun h => h))
  have HB_6 := Lib.hid (hw6.heap HB_5.out (fun h => h))
  clear hw6 p0 p1 p2 q0 q1 q2
  have p0 := cellRow HA_6.out 0 (.string a.name) rfl
  have p1 := cellRow HA_6.out 1 (.string a.sort) rfl
  have p2 := cellRow HA_6.out 2 (.slice aa a.kids.length ac) rfl
  have q0 := cellRow HB_6.out 0 (.string b.name) rfl
  have q1 := cellRow HB_6.out 1 (.string b.sort) rfl
  have q2 := cellRow HB_6.out 2 (.slice ba b.kids.length bc) rfl
  clear HLA hLA
  cases LA
  case true =>
    go_wp2_with fail
    all_goals go_ret
    all_goals exact ⟨rfl, H6.out⟩
  have HPG2 := Lib.hid (HPG1.out rfl)
  clear HPG1
  obtain ⟨LB, hLB⟩ : ∃ x, largeB b = x := ⟨_, rfl⟩
  rw [hLB] at HLB HPG2
  go_wp2_with fail
  refine (HLB.out _ H6.out).mono ?_
  rintro e w7 ⟨rfl, hw7⟩
  have H7 := Lib.hid (H6.out.trans hw7)
  have HA_7 := Lib.hid (hw7.heap HA_6.out (fun h => h))
  have HB_7 := Lib.hid (hw7.heap HB_6.out (fun h => h))
  clear hw7 p0 p1 p2 q0 q1 q2
  have p0 := cellRow HA_7.out 0 (.string a.name) rfl
  have p1 := cellRow HA_7.out 1 (.string a.sort) rfl
  have p2 := cellRow HA_7.out 2 (.slice aa a.kids.length ac) rfl
  have q0 := cellRow HB_7.out 0 (.string b.name) rfl
  have q1 := cellRow HB_7.out 1 (.string b.sort) rfl
  have q2 := cellRow HB_7.out 2 (.slice ba b.kids.length bc) rfl
  clear HLB hLB
  cases LB
  case true =>
    go_wp2_with fail
    all_goals go_ret
    all_goals exact ⟨rfl, H7.out⟩
  have HPG3 := Lib.hid (HPG2.out rfl)
  clear HPG2
  generalize grF ops a b = G at *
  go_wp2_with fail
  refine (HPG3.out _ H7.out).mono ?_
  rintro e w8 ⟨rfl, hw8⟩
  have H8 := Lib.hid (H7.out.trans hw8)
  have HA_8 := Lib.hid (hw8.heap HA_7.out (fun h => h))
  have HB_8 := Lib.hid (hw8.heap HB_7.out (fun h => h))
  clear hw8 p0 p1 p2 q0 q1 q2
  have p0 := cellRow HA_8.out 0 (.string a.name) rfl
  have p1 := cellRow HA_8.out 1 (.string a.sort) rfl
  have p2 := cellRow HA_8.out 2 (.slice aa a.kids.length ac) rfl
  have q0 := cellRow HB_8.out 0 (.string b.name) rfl
  have q1 := cellRow HB_8.out 1 (.string b.sort) rfl
  have q2 := cellRow HB_8.out 2 (.slice ba b.kids.length bc) rfl
  clear HPG3
  go_wp2_with fail
  refine (HRG1.out _ H8.out).mono ?_
  rintro e w9 ⟨rfl, hw9⟩
  have H9 := Lib.hid (H8.out.trans hw9)
  have HA_9 := Lib.hid (hw9.heap HA_8.out (fun h => h))
  have HB_9 := Lib.hid (hw9.heap HB_8.out (fun h => h))
  clear hw9 p0 p1 p2 q0 q1 q2
  have p0 := cellRow HA_9.out 0 (.string a.name) rfl
  have p1 := cellRow HA_9.out 1 (.string a.sort) rfl
  have p2 := cellRow HA_9.out 2 (.slice aa a.kids.length ac) rfl
  have q0 := cellRow HB_9.out 0 (.string b.name) rfl
  have q1 := cellRow HB_9.out 1 (.string b.sort) rfl
  have q2 := cellRow HB_9.out 2 (.slice ba b.kids.length bc) rfl
  clear HRG1
  go_wp2_with fail
  all_goals go_ret
  all_goals (first | exact ⟨rfl, H9.out⟩ | exact ⟨by simp, H9.out⟩)

end Go.Proofs.YtiimccogojkldaaGreatDoor

/- The law PathorderGreater: the row, and the tied card. For every input the call returns true, and each argument reads as it did. -/
namespace Go.Proofs.YtiimccogojkldaaGreatDoor
open Go.ChangeShapes Go.WideShapes Go.ChangeAt Go.RowKit Go.Hw
set_option linter.unusedVariables false
set_option linter.unusedSimpArgs false
set_option maxRecDepth 100000 in
theorem pathorderGreater_lifted (os : Os) (started : os.Started) (H : Type) (enc : TypeId × Value → H) :
    ReturnsInHanded {} Tryz.checked os 3 .any (fun w args => (Rows.pathorderGreaterSpec.pre enc Tryz.prog Tryz.f3 [] false w args ∧ laidMetH Tryz.prog tabsL w) ∧ sizedMet enc Tryz.prog Tryz.f3 (OpenSpec.ofChange Rows.pathorderGreaterSpec) false w args)
      (Rows.pathorderGreaterSpec.post enc Tryz.prog Tryz.f3 false true false false) := by
  refine returnsInHanded_of_change_and (C := Tryz.checked) (X := fun w _ => laidMetH Tryz.prog tabsL w) (fun _ _ _ hh h => h.of_heap hh) Tryz.own started (by kernel_rfl) Tryz.func3
    (ChangeSpec.witness_shaped (enc := enc) (C := Tryz.checked) (os := os) (X := fun w _ => laidMetH Tryz.prog tabsL w) false (World.laidAll Tryz.prog os tabsL) #[.slice none 0 0, .agg #[.string ⟨#[]⟩, .string ⟨#[]⟩, .slice none 0 0], .agg #[.string ⟨#[]⟩, .string ⟨#[]⟩, .slice none 0 0]] 8 (World.laidAll_os _ _ _)
      (World.shaped_of_ZipB (by kernel_rfl) (by kernel_rfl)) (by kernel_rfl) (by kernel_rfl) (by kernel_rfl)
      (by rw [MakeChecks.laidMetH_plain _ _ _ (by kernel_rfl)]; exact laidMet_laidAll _ (by kernel_rfl) (by kernel_rfl))) ?_
  intro W base args ds gs before hval0 hW hcnd hLgt hL _
  have hval : ∀ (j : Nat) t v, Tryz.f3.params[j]? = some t → args[j]? = some v → Value.okWide Tryz.prog W .any base t v := hval0
  have hW' := hW
  obtain ⟨p, q, hA0, hV, rfl, hfz, hnd⟩ := hW
  have hA : DataW.TrodAll enc Tryz.prog W 0 (fun _ => true) true Tryz.f3.params.toList args.toList ds p := hA0
  rw [Tryz.params3] at hA hval
  obtain ⟨v0, vs0, d0, ds0, p0, q0, hargs, rfl, rfl, h0, r0⟩ := trodAll_cons hA
  obtain ⟨v1, vs1, d1, ds1, p1, q1, rfl, rfl, rfl, h1, r1⟩ := trodAll_cons r0
  obtain ⟨v2, vs2, d2, ds2, p2, q2, rfl, rfl, rfl, h2, r2⟩ := trodAll_cons r1
  obtain ⟨rfl, rfl, rfl⟩ := trodAll_nil r2
  obtain rfl : args = #[v0, v1, v2] := by cases args; simp_all
  obtain ⟨rfl, rfl⟩ := trodVars_none hV
  simp only [List.append_nil] at hW'
  have hlt : ∀ x ∈ p0 ++ (p1 ++ p2), x.block < W.heap.size := fun x hx => by simpa using hW'.lt x hx
  have k0 : ∀ (W' : World), Below W.heap.size W W' → DataW.Trod enc Tryz.prog W' 0 (fun b => decide (b < W.heap.size)) true 22 v0 d0 p0 :=
    fun W' hn => Below.trod Tryz.laidOut (by kernel_rfl) (of_decide_eq_true (by kernel_rfl)) h0 hn (fun x hx => hlt x (by simp [hx]))
  have k1 : ∀ (W' : World), Below W.heap.size W W' → DataW.Trod enc Tryz.prog W' 0 (fun b => decide (b < W.heap.size)) true 25 v1 d1 p1 :=
    fun W' hn => Below.trod Tryz.laidOut (by kernel_rfl) (of_decide_eq_true (by kernel_rfl)) h1 hn (fun x hx => hlt x (by simp [hx]))
  have k2 : ∀ (W' : World), Below W.heap.size W W' → DataW.Trod enc Tryz.prog W' 0 (fun b => decide (b < W.heap.size)) true 25 v2 d2 p2 :=
    fun W' hn => Below.trod Tryz.laidOut (by kernel_rfl) (of_decide_eq_true (by kernel_rfl)) h2 hn (fun x hx => hlt x (by simp [hx]))
  obtain ⟨ops0, hs0, hm0⟩ := open_strs h0 (okWide_slice Tryz.underlying22 (hval 0 22 v0 rfl rfl))
  obtain ⟨t1, ht1⟩ := open_tm (hval 1 25 v1 rfl rfl) h1
  obtain ⟨t2, ht2⟩ := open_tm (hval 2 25 v2 rfl rfl) h2
  have HT := tab_of_laid hL
  have HA := asc_of_laid hL
  clear hA0 hval0
  refine (greater_law ops0 t1 t2 v0 v1 v2 W hs0 ht1 ht2 HA HT).mono fun e W' ⟨he, hx⟩ => ?_
  subst he
  have hn := Ext.below hx
  refine ⟨_, rfl, _, _, _, [], p0 ++ (p1 ++ (p2 ++ [])), [], hW', ?_, ?_, rfl, hn.frame _, fun h => by cases h⟩
  · exact trodAll_cons_mk (shut_bool Tryz.underlying4 true) trodAll_mk0
  · exact trodAll_cons_mk (k0 _ hn) (trodAll_cons_mk (k1 _ hn) (trodAll_cons_mk (k2 _ hn) trodAll_mk0))

theorem pathorderGreater_row_holds : Rows.PathorderGreaterSaid :=
  OpenClaim.holds_of_wide 3 Tryz.f3 rfl rfl rfl rfl rfl rfl rfl ⟨rfl, rfl, rfl, rfl, rfl⟩ rfl rfl rfl rfl rfl (by kernel_rfl) Tryz.func3 (by kernel_rfl)
    (of_decide_eq_true (by kernel_rfl)) (by unfold Func.isWrapper; first | (rw [if_pos (by decide +kernel)]; kernel_rfl) | (rw [if_neg (by decide +kernel)]; exact ⟨rfl, rfl⟩))
    (fun os started H enc _ => pathorderGreater_lifted os started H enc)
theorem pathorderGreater_holds : Rows.PathorderGreaterCardSaid :=
  Claim7.holds_tied_plain_at .later [] [.data, .data, .data, .listed, .data] true (true, "bac6dac459e8299fc4ebf66e6e4987433add47040902b3fb521380f412e52315") false pathorderGreater_row_holds (fun _ h => by cases h) (by kernel_rfl) (fun _ h => by cases h) pathorderGreater_row_tie rfl ⟨rfl, rfl⟩ (by kernel_rfl) rfl
    (fun f fn hf hfn => by
      obtain rfl : f = 3 := Option.some.inj ((show Tryz.prog.funcNamed "heartwood/heartwoodlaw08.PathorderGreater" = some 3 by kernel_rfl).symm.trans hf) |>.symm
      obtain rfl : fn = Tryz.f3 := (Option.some.inj (Tryz.func3.symm.trans hfn)).symm
      exact ⟨by kernel_rfl, fun j t ht => by
        rw [Tryz.params3] at ht
        have hm : t ∈ [22, 25, 25] := by simpa using Array.mem_of_getElem? ht
        have hall : ([22, 25, 25].all fun u => !Tryz.prog.wantsStandIn u) = true := by kernel_rfl
        exact (show Tryz.prog.wantsStandIn t = false by simpa using List.all_eq_true.1 hall t hm)⟩)
    (by kernel_rfl)
#print axioms pathorderGreater_holds
end Go.Proofs.YtiimccogojkldaaGreatDoor
