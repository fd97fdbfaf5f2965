/- The texts I57 Descends, one behind the other. -/
import Derived.Test.YtiimccogojkldaaGreatDoorZM
import Derived.Test.YtiimccogojkldaaGreatDoorZJ
import Derived.Test.YtiimccogojkldaaGreatDoorZI
import Derived.Test.YtiimccogojkldaaGreatDoorZK
/- The law Descends. -/
namespace Go.Proofs.YtiimccogojkldaaGreatDoor
open Go.RowKit Go.Hw Go
set_option linter.unusedVariables false
set_option linter.unusedSimpArgs false

open Tm
set_option maxRecDepth 100000 in
set_option maxHeartbeats 2000000 in
theorem idxT11_x (p : Tm → Bool) (L : List Tm) (v : Value) (S : Nat → Prop) (w : World) (hR : TlR S w L v) (hl : L.length ≤ 1000000)
    (hf : ∀ t ∈ L, ∀ u W, Ext w W → TmR S W t (tV t u) → Calls Tryz.prog 11 #[tV t u] W fun e W' => e = .returned (.bool (p t)) ∧ Ext W W') :
    Calls Tryz.prog 54 #[v, .func (.func 11) #[] #[]] w fun e w' => ∃ r : Int, e = .returned (.int .i64 r) ∧ decide (0 ≤ r) = L.any p ∧ Ext w w' := by
  obtain ⟨a, cap, rfl⟩ := hR.shape
  have HR := Lib.hid hR
  have HF := Lib.hid hf
  clear hR hf
  go_enter Tryz.func54, Tryz.ntmps54
  go_wp2_with fail
  go_loopg [8] L.length (fun gk iv wr => ∃ k : Nat, iv = .int .i64 (k : Int) ∧ gk = L.length - k ∧ k ≤ L.length ∧ Hid (Ext w wr) ∧ Hid ((L.take k).any p = false))
  case atStart => exact ⟨0, rfl, rfl, Nat.zero_le _, Lib.hid (Upd.refl _ _), Lib.hid rfl⟩
  case round =>
    obtain ⟨k, rfl, rfl, hk, HE, HM⟩ := hrel
    by_cases hlt : k < L.length
    · obtain ⟨g, off, hga, _, hat⟩ := (HR.out.ext HE.out).at_ (by omega)
      subst hga
      obtain ⟨xa, xc, q0, q1, q2, hkid⟩ := hat k hlt
      rw [← Nat.add_assoc] at q1 q2
      have z0 : (0 : Int) ≤ (k : Int) := by omega
      have z1 : (k : Int) < (L.length : Int) := by omega
      have z2 : decide ((k : Int) < (L.length : Int)) = true := decide_eq_true z1
      have z2' : decide (k < L.length) = true := decide_eq_true hlt
      have hmem := tg_in hlt
      have HFX := Lib.hid (HF.out _ hmem _ wr HE.out ⟨xa, xc, rfl, hkid⟩)
      have HN : Hid (p (tg L k) = false → (L.take (k + 1)).any p = false) := Lib.hid (fun h => by
        rw [tk_snoc L k hlt, List.any_append, HM.out, List.any_cons, List.any_nil, h]
        rfl)
      have HY : Hid (p (tg L k) = true → L.any p = true) := Lib.hid (fun h => List.any_eq_true.2 ⟨_, hmem, h⟩)
      obtain ⟨x, hx⟩ : ∃ x, tg L k = x := ⟨_, rfl⟩
      rw [hx] at q0 q1 q2 HFX HN HY
      dsimp only [tV] at HFX
      obtain ⟨b, hb⟩ : ∃ b, p x = b := ⟨_, rfl⟩
      rw [hb] at HFX HN HY
      clear hat hmem hx hb HM hkid
      go_wp2_with fail
      refine HFX.out.mono ?_
      rintro e w4 ⟨rfl, hw4⟩
      have H4 := Lib.hid (HE.out.trans hw4)
      clear hw4 q0 q1 q2 HFX HE
      cases b
      · have HN2 := Lib.hid (HN.out rfl)
        clear HN HY
        go_wp2_with fail
        go_roundg (L.length - (k + 1))
        case measure => omega
        case rel => exact ⟨k + 1, by go_num, rfl, by omega, H4, HN2⟩
      · have HY2 := Lib.hid (HY.out rfl)
        clear HN HY
        go_wp2_with fail
        go_ret
        exact ⟨_, rfl, by rw [HY2.out]; exact decide_eq_true z0, H4.out⟩
    · obtain rfl : k = L.length := by omega
      have z2 : decide ((L.length : Int) < (L.length : Int)) = false := decide_eq_false (by omega)
      have HM2 := HM.out
      rw [List.take_length] at HM2
      have HM3 := Lib.hid HM2
      clear HM2
      go_wp2_with fail
      go_ret
      exact ⟨_, rfl, by rw [HM3.out]; rfl, HE.out⟩
set_option maxRecDepth 100000 in
set_option maxHeartbeats 2000000 in
theorem conT11_x (p : Tm → Bool) (L : List Tm) (v : Value) (S : Nat → Prop) (w : World) (hR : TlR S w L v) (hl : L.length ≤ 1000000)
    (hf : ∀ t ∈ L, ∀ u W, Ext w W → TmR S W t (tV t u) → Calls Tryz.prog 11 #[tV t u] W fun e W' => e = .returned (.bool (p t)) ∧ Ext W W') :
    Calls Tryz.prog 22 #[v, .func (.func 11) #[] #[]] w fun e w' => e = .returned (.bool (L.any p)) ∧ Ext w w' := by
  have HI := Lib.hid (idxT11_x p L v S w hR hl hf)
  clear hR hf
  go_enter Tryz.func22, Tryz.ntmps22
  go_wp2_with fail
  refine HI.out.mono ?_
  rintro e w4 ⟨r, rfl, hr, hw4⟩
  have H4 := Lib.hid hw4
  have HRR := Lib.hid hr
  clear hw4 hr
  go_wp2_with fail
  go_ret
  rw [← HRR.out]
  exact ⟨rfl, H4.out⟩
set_option maxRecDepth 100000 in
set_option maxHeartbeats 2000000 in
theorem desc_law (ops : List By) (L : List Tm) (ov lv : Value) (w : World) (hO : StR (fun k => k < w.heap.size) w ov ops) (hR : TlR (fun k => k < w.heap.size) w L lv) (htab : AscT w) (hpow : Lib.TabIs Tryz.prog w "internal/strconv.uint64pow10" .u64 Lib.pow10Tab) :
    Calls Tryz.prog 6 #[ov, lv] w fun e w' => e = .returned (.bool true) ∧ Ext w w' := by
  have HAW := Lib.hid (awake_x w htab hpow)
  have HLO := Lib.hid (fun W (hW : Ext w W) => long_x ops ov _ W (SlR.kept hO hW (fun _ _ h => h)))
  have HCL := Lib.hid (fun (h1 : L.length ≤ 10) W (hW : Ext w W) => conT11_x largeB L lv (fun k => k < w.heap.size) W (hR.ext hW) (by omega) (fun t _ u W2 _ ht => large_x t _ _ W2 ht))
  have HPD := Lib.hid (fun (h1 : ops.length ≤ 120) (h2 : L.length ≤ 10) (h3 : ∀ t ∈ L, t.size ≤ 400) W (hW : Ext w W) => desc_x ops L ov lv W (SlR.weaken (SlR.kept hO hW (fun _ _ h => h)) (fun k hk => Nat.lt_of_lt_of_le hk hW.size)) ((hR.ext hW).weaken (fun k hk => Nat.lt_of_lt_of_le hk hW.size)) (asc_ext htab hW) (pow_upd hpow hW (fun _ _ h => h)) (by omega) (by omega) h3)
  have HRD := Lib.hid (fun (h1 : ops.length ≤ 120) (h2 : L.length ≤ 10) (h3 : ∀ t ∈ L, t.size ≤ 400) W (hW : Ext w W) => rdesc_x ops L ov lv W (SlR.weaken (SlR.kept hO hW (fun _ _ h => h)) (fun k hk => Nat.lt_of_lt_of_le hk hW.size)) ((hR.ext hW).weaken (fun k hk => Nat.lt_of_lt_of_le hk hW.size)) (by omega) (by omega) h3)
  obtain ⟨oa, oc, rfl⟩ := SlR.shape hO
  obtain ⟨la, lc, rfl⟩ := hR.shape
  clear hO hR htab hpow
  go_enter Tryz.func6, Tryz.ntmps6
  go_wp2_with fail
  refine HAW.out.mono ?_
  rintro e w4 ⟨rfl, hw4⟩
  have H4 := Lib.hid hw4
  clear hw4 HAW
  go_wp2_with fail
  refine (HLO.out _ H4.out).mono ?_
  rintro e w5 ⟨⟨lb, rfl, hlb⟩, hw5⟩
  have H5 := Lib.hid (H4.out.trans hw5)
  have HL := Lib.hid hlb
  clear hw5 HLO hlb
  cases lb
  case true =>
    go_wp2_with fail
    all_goals go_ret
    all_goals exact ⟨rfl, H5.out⟩
  have HL1 := HL.out rfl
  have HPD1 := Lib.hid (HPD.out HL1)
  have HRD1 := Lib.hid (HRD.out HL1)
  clear HPD HRD HL HL1
  by_cases hA : 10 < L.length
  · have y1 : (10 : Int) < (L.length : Int) := by omega
    have y1' : decide ((10 : Int) < (L.length : Int)) = true := decide_eq_true y1
    clear hA HPD1 HRD1 HCL
    go_wp2_with fail
    all_goals go_ret
    all_goals exact ⟨rfl, H5.out⟩
  have y1 : ¬ (10 : Int) < (L.length : Int) := by omega
  have y1' : decide ((10 : Int) < (L.length : Int)) = false := decide_eq_false y1
  have hlen : L.length ≤ 10 := by omega
  have HPD2 := Lib.hid (HPD1.out hlen)
  have HRD2 := Lib.hid (HRD1.out hlen)
  have HCL1 := Lib.hid (HCL.out hlen _ H5.out)
  have HSM : Hid (L.any largeB = false → ∀ t ∈ L, t.size ≤ 400) := Lib.hid (fun h t ht => by
    have h1 : largeB t = false := by
      cases h2 : largeB t
      · rfl
      · rw [List.any_eq_true.2 ⟨t, ht, h2⟩] at h; cases h
    have := small_of h1
    omega)
  clear HPD1 HRD1 HCL hA hlen
  obtain ⟨X, hX⟩ : ∃ x, L.any largeB = x := ⟨_, rfl⟩
  rw [hX] at HCL1 HSM
  go_wp2_with fail
  refine HCL1.out.mono ?_
  rintro e w6 ⟨rfl, hw6⟩
  have H6 := Lib.hid (H5.out.trans hw6)
  clear hw6 HCL1 hX
  cases X
  case true =>
    go_wp2_with fail
    all_goals go_ret
    all_goals exact ⟨rfl, H6.out⟩
  have hsm := HSM.out rfl
  have HPD3 := Lib.hid (HPD2.out hsm)
  have HRD3 := Lib.hid (HRD2.out hsm)
  clear HPD2 HRD2 hsm HSM
  generalize dscF ops L = G at *
  go_wp2_with fail
  refine (HPD3.out _ H6.out).mono ?_
  rintro e w8 ⟨rfl, hw8⟩
  have H8 := Lib.hid (H6.out.trans hw8)
  clear hw8 HPD3
  go_wp2_with fail
  refine (HRD3.out _ H8.out).mono ?_
  rintro e w9 ⟨rfl, hw9⟩
  have H9 := Lib.hid (H8.out.trans hw9)
  clear hw9 HRD3
  go_wp2_with fail
  all_goals go_ret
  all_goals (first | exact ⟨rfl, H9.out⟩ | exact ⟨by simp, H9.out⟩)

end Go.Proofs.YtiimccogojkldaaGreatDoor

/- The law PathorderDescends: the row, and the tied card. For every input the call returns true, and each argument reads as it did. -/
namespace Go.Proofs.YtiimccogojkldaaGreatDoor
open Go.ChangeShapes Go.WideShapes Go.ChangeAt Go.RowKit Go.Hw
set_option linter.unusedVariables false
set_option linter.unusedSimpArgs false
set_option maxRecDepth 100000 in
theorem pathorderDescends_lifted (os : Os) (started : os.Started) (H : Type) (enc : TypeId × Value → H) :
    ReturnsInHanded {} Tryz.checked os 6 .any (fun w args => (Rows.pathorderDescendsSpec.pre enc Tryz.prog Tryz.f6 [] false w args ∧ laidMetH Tryz.prog tabsL w) ∧ sizedMet enc Tryz.prog Tryz.f6 (OpenSpec.ofChange Rows.pathorderDescendsSpec) false w args)
      (Rows.pathorderDescendsSpec.post enc Tryz.prog Tryz.f6 false true false false) := by
  refine returnsInHanded_of_change_and (C := Tryz.checked) (X := fun w _ => laidMetH Tryz.prog tabsL w) (fun _ _ _ hh h => h.of_heap hh) Tryz.own started (by kernel_rfl) Tryz.func6
    (ChangeSpec.witness_shaped (enc := enc) (C := Tryz.checked) (os := os) (X := fun w _ => laidMetH Tryz.prog tabsL w) false (World.laidAll Tryz.prog os tabsL) #[.slice none 0 0, .slice none 0 0] 8 (World.laidAll_os _ _ _)
      (World.shaped_of_ZipB (by kernel_rfl) (by kernel_rfl)) (by kernel_rfl) (by kernel_rfl) (by kernel_rfl)
      (by rw [MakeChecks.laidMetH_plain _ _ _ (by kernel_rfl)]; exact laidMet_laidAll _ (by kernel_rfl) (by kernel_rfl))) ?_
  intro W base args ds gs before hval0 hW hcnd hLgt hL _
  have hval : ∀ (j : Nat) t v, Tryz.f6.params[j]? = some t → args[j]? = some v → Value.okWide Tryz.prog W .any base t v := hval0
  have hW' := hW
  obtain ⟨p, q, hA0, hV, rfl, hfz, hnd⟩ := hW
  have hA : DataW.TrodAll enc Tryz.prog W 0 (fun _ => true) true Tryz.f6.params.toList args.toList ds p := hA0
  rw [Tryz.params6] at hA hval
  obtain ⟨v0, vs0, d0, ds0, p0, q0, hargs, rfl, rfl, h0, r0⟩ := trodAll_cons hA
  obtain ⟨v1, vs1, d1, ds1, p1, q1, rfl, rfl, rfl, h1, r1⟩ := trodAll_cons r0
  obtain ⟨rfl, rfl, rfl⟩ := trodAll_nil r1
  obtain rfl : args = #[v0, v1] := by cases args; simp_all
  obtain ⟨rfl, rfl⟩ := trodVars_none hV
  simp only [List.append_nil] at hW'
  have hlt : ∀ x ∈ p0 ++ p1, x.block < W.heap.size := fun x hx => by simpa using hW'.lt x hx
  have k0 : ∀ (W' : World), Below W.heap.size W W' → DataW.Trod enc Tryz.prog W' 0 (fun b => decide (b < W.heap.size)) true 22 v0 d0 p0 :=
    fun W' hn => Below.trod Tryz.laidOut (by kernel_rfl) (of_decide_eq_true (by kernel_rfl)) h0 hn (fun x hx => hlt x (by simp [hx]))
  have k1 : ∀ (W' : World), Below W.heap.size W W' → DataW.Trod enc Tryz.prog W' 0 (fun b => decide (b < W.heap.size)) true 23 v1 d1 p1 :=
    fun W' hn => Below.trod Tryz.laidOut (by kernel_rfl) (of_decide_eq_true (by kernel_rfl)) h1 hn (fun x hx => hlt x (by simp [hx]))
  obtain ⟨ops0, hs0, hm0⟩ := open_strs h0 (okWide_slice Tryz.underlying22 (hval 0 22 v0 rfl rfl))
  obtain ⟨l1, hl1, hm1⟩ := open_terms h1 (okWide_slice Tryz.underlying23 (hval 1 23 v1 rfl rfl))
  have HT := tab_of_laid hL
  have HA := asc_of_laid hL
  clear hA0 hval0
  refine (desc_law ops0 l1 v0 v1 W hs0 hl1 HA HT).mono fun e W' ⟨he, hx⟩ => ?_
  subst he
  have hn := Ext.below hx
  refine ⟨_, rfl, _, _, _, [], p0 ++ (p1 ++ []), [], hW', ?_, ?_, rfl, hn.frame _, fun h => by cases h⟩
  · exact trodAll_cons_mk (shut_bool Tryz.underlying4 true) trodAll_mk0
  · exact trodAll_cons_mk (k0 _ hn) (trodAll_cons_mk (k1 _ hn) trodAll_mk0)

theorem pathorderDescends_row_holds : Rows.PathorderDescendsSaid :=
  OpenClaim.holds_of_wide 6 Tryz.f6 rfl rfl rfl rfl rfl rfl rfl ⟨rfl, rfl, rfl, rfl, rfl⟩ rfl rfl rfl rfl rfl (by kernel_rfl) Tryz.func6 (by kernel_rfl)
    (of_decide_eq_true (by kernel_rfl)) (by unfold Func.isWrapper; first | (rw [if_pos (by decide +kernel)]; kernel_rfl) | (rw [if_neg (by decide +kernel)]; exact ⟨rfl, rfl⟩))
    (fun os started H enc _ => pathorderDescends_lifted os started H enc)
theorem pathorderDescends_holds : Rows.PathorderDescendsCardSaid :=
  Claim7.holds_tied_plain_at .later [] [.data, .data, .data, .listed, .data] true (true, "bac6dac459e8299fc4ebf66e6e4987433add47040902b3fb521380f412e52315") false pathorderDescends_row_holds (fun _ h => by cases h) (by kernel_rfl) (fun _ h => by cases h) pathorderDescends_row_tie rfl ⟨rfl, rfl⟩ (by kernel_rfl) rfl
    (fun f fn hf hfn => by
      obtain rfl : f = 6 := Option.some.inj ((show Tryz.prog.funcNamed "heartwood/heartwoodlaw08.PathorderDescends" = some 6 by kernel_rfl).symm.trans hf) |>.symm
      obtain rfl : fn = Tryz.f6 := (Option.some.inj (Tryz.func6.symm.trans hfn)).symm
      exact ⟨by kernel_rfl, fun j t ht => by
        rw [Tryz.params6] at ht
        have hm : t ∈ [22, 23] := by simpa using Array.mem_of_getElem? ht
        have hall : ([22, 23].all fun u => !Tryz.prog.wantsStandIn u) = true := by kernel_rfl
        exact (show Tryz.prog.wantsStandIn t = false by simpa using List.all_eq_true.1 hall t hm)⟩)
    (by kernel_rfl)
#print axioms pathorderDescends_holds
end Go.Proofs.YtiimccogojkldaaGreatDoor
