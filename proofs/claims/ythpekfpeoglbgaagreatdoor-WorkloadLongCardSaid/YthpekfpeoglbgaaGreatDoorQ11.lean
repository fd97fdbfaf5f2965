/- WorkloadBack. -/
import Derived.Test.YthpekfpeoglbgaaGreatDoorQ10
import Derived.Test.YthpekfpeoglbgaaGreatDoorW28
namespace Go.Proofs.YthpekfpeoglbgaaGreatDoor
open Go.RowKit Go.Hw
set_option linter.unusedVariables false
set_option linter.unusedSimpArgs false

set_option maxHeartbeats 1000000 in
set_option maxRecDepth 100000 in
theorem back_a (kind : Int) (v : Value) (l : List OpV) (t : ByteArray) (w : World) (S : Nat → Prop) (h : OpsR S w v l) (hlm : l.length ≤ maxLen) (hf : fewB (opsL l) 60 = false) : Calls Tryz.prog 5 #[.int .i64 kind, v, .string t] w fun e w' => e = .returned (.bool true) ∧ Ext w w' := by
  obtain ⟨a, cap, hvs⟩ := h.shape
  subst hvs
  have HN := Lib.hid h
  have HAW := Lib.hid (fun W : World => awake_any W)
  have HFW : Hid (∀ W, Ext w W → Calls Tryz.prog 13 #[.slice a l.length cap, .int .i64 60] W fun e w' => e = .returned (.bool (fewB (opsL l) 60)) ∧ Ext W w') := fun W hW => few_any 60 _ l W S (HN.out.kept hW (fun _ _ h => h)) (by decide) hlm
  clear h
  rw [hf] at HFW
  clear hf
  generalize l.length = n at *
  go_enter Tryz.func5, Tryz.ntmps5
  go_wp2_with fail
  refine (HAW.out _).mono ?_
  rintro e w2 ⟨rfl, hw2⟩
  have HE2 := Lib.hid (hw2)
  clear hw2
  go_wp2_with fail
  refine (HFW.out _ HE2.out).mono ?_
  rintro e w3 ⟨rfl, hw3⟩
  have HE3 := Lib.hid (HE2.out.ext hw3)
  clear hw3
  go_wp2_with fail
  refine (HAW.out _).mono ?_
  rintro e w9 ⟨rfl, hw9⟩
  have HE9 := Lib.hid (HE3.out.ext hw9)
  clear hw9
  go_wp2_with fail
  go_ret
  exact ⟨rfl, HE9.out⟩
set_option maxHeartbeats 1000000 in
set_option maxRecDepth 100000 in
theorem back_b (kind : Int) (v : Value) (l : List OpV) (t : ByteArray) (w : World) (S : Nat → Prop) (h : OpsR S w v l) (hlm : l.length ≤ maxLen) (hf : fewB (opsL l) 60 = true) (hz : 2500 < t.size) : Calls Tryz.prog 5 #[.int .i64 kind, v, .string t] w fun e w' => e = .returned (.bool true) ∧ Ext w w' := by
  obtain ⟨a, cap, hvs⟩ := h.shape
  subst hvs
  have HN := Lib.hid h
  have HAW := Lib.hid (fun W : World => awake_any W)
  have HFW : Hid (∀ W, Ext w W → Calls Tryz.prog 13 #[.slice a l.length cap, .int .i64 60] W fun e w' => e = .returned (.bool (fewB (opsL l) 60)) ∧ Ext W w') := fun W hW => few_any 60 _ l W S (HN.out.kept hW (fun _ _ h => h)) (by decide) hlm
  clear h
  rw [hf] at HFW
  have t1 : decide ((2500 : Int) < (t.size : Int)) = true := decide_eq_true (by omega)
  have t1' : decide (2500 < t.size) = true := decide_eq_true hz
  clear hf hz
  generalize l.length = n at *
  go_enter Tryz.func5, Tryz.ntmps5
  go_wp2_with fail
  refine (HAW.out _).mono ?_
  rintro e w2 ⟨rfl, hw2⟩
  have HE2 := Lib.hid (hw2)
  clear hw2
  go_wp2_with fail
  refine (HFW.out _ HE2.out).mono ?_
  rintro e w3 ⟨rfl, hw3⟩
  have HE3 := Lib.hid (HE2.out.ext hw3)
  clear hw3
  go_wp2_with fail
  refine (HAW.out _).mono ?_
  rintro e w9 ⟨rfl, hw9⟩
  have HE9 := Lib.hid (HE3.out.ext hw9)
  clear hw9
  go_wp2_with fail
  go_ret
  exact ⟨rfl, HE9.out⟩
set_option maxHeartbeats 1000000 in
set_option maxRecDepth 100000 in
theorem back_c1 (kind : Int) (v : Value) (l : List OpV) (t : ByteArray) (w : World) (S : Nat → Prop) (h : OpsR S w v l) (hlm : l.length ≤ maxLen) (hE : Env w) (hf : fewB (opsL l) 60 = true) (hz : ¬ 2500 < t.size) (hpe : (parseT t.data.toList).err = 0) (hval : validL kind (opsL l) = true) : Calls Tryz.prog 5 #[.int .i64 kind, v, .string t] w fun e w' => e = .returned (.bool true) ∧ Ext w w' := by
  obtain ⟨a, cap, hvs⟩ := h.shape
  subst hvs
  have HN := Lib.hid h
  have HAW := Lib.hid (fun W : World => awake_any W)
  have HFW : Hid (∀ W, Ext w W → Calls Tryz.prog 13 #[.slice a l.length cap, .int .i64 60] W fun e w' => e = .returned (.bool (fewB (opsL l) 60)) ∧ Ext W w') := fun W hW => few_any 60 _ l W S (HN.out.kept hW (fun _ _ h => h)) (by decide) hlm
  have HA : Hid (∀ o ∈ l, o.op.args.length ≤ 100000000) := fewB_args hf
  have hlen : l.length ≤ 2005 := by have := fewB_len hf; omega
  have HV : Hid (∀ W, Ext w W → Calls Tryz.prog 14 #[.int .i64 kind, .slice a l.length cap] W fun e w' => e = .returned (.bool (validL kind (opsL l))) ∧ Ext W w') := fun W hW => valid_any kind _ l W S (HN.out.kept hW (fun _ _ h => h)) (by omega) HA.out
  have hsl : (scT kind (opsL l)).length ≤ 65536 := by
    have h1 := fewB_len hf
    have hval2 := hval
    unfold validL at hval2
    simp only [Bool.and_eq_true, decide_eq_true_eq] at hval2
    rw [opsL_length] at hval2
    have h2 := lnT_len2 hval2.2
    have h3 := hdT_len kind
    rw [opsL_length] at h2
    unfold scT
    rw [List.length_append]
    omega
  have hps := scT_parse hval hsl
  have hpa := parse_args (scT kind (opsL l))
  obtain ⟨R, hR⟩ : ∃ R, bs (scT kind (opsL l)) = R := ⟨_, rfl⟩
  have HT : Hid (∀ W, Ext w W → Calls Tryz.prog 10 #[.int .i64 kind, .slice a l.length cap] W fun e w' => e = .returned (.tuple #[.string R, .int .i64 0]) ∧ Ext W w') := fun W hW => wtext_ok kind _ l W S (HN.out.kept hW (fun _ _ h => h)) (tab_ext hE.tab hW) hval R 0 (Or.inl ⟨hR.symm, rfl, hsl⟩)
  have HP2 : Hid (∀ W, Ext w W → Calls Tryz.prog 7 #[.string R] W (PPost ⟨kind, opsL l, 0, 0⟩ W)) := fun W hW => by
    rw [← hR, ← hps]
    exact wparse_x _ W (hE.ext hW) (by omega)
  rw [hps] at hpa
  have HPA := Lib.hid hpa
  have heq := fun (a b c d : Int) (W : World) => eqP a b c d W
  clear hR hsl hps hpa
  have HP : Hid (∀ W, Ext w W → Calls Tryz.prog 7 #[.string t] W (PPost (parseT t.data.toList) W)) := fun W hW => by
    have := wparse_x t.data.toList W (hE.ext hW) (by rw [len_size]; omega)
    rw [bs_of] at this
    exact this
  obtain ⟨hp1, hp2, hp3⟩ := parse_sc hpe
  have hp4 := parse_args t.data.toList
  have HX : Hid (∀ (v2 : Value) (L3 : List OpV) (W : World) (S2 : Nat → Prop), OpsR S2 W v2 L3 → opsL L3 = (parseT t.data.toList).ops → Ext w W → Calls Tryz.prog 10 #[.int .i64 (parseT t.data.toList).kind, v2] W fun e w' => e = .returned (.tuple #[.string t, .int .i64 0]) ∧ Ext W w') := fun v2 L3 W S2 hO hL hW =>
    wtext_ok _ v2 L3 W S2 hO (tab_ext hE.tab hW) (by rw [hL]; exact hp2) t 0 (Or.inl ⟨by rw [hL, hp1, bs_of], rfl, by rw [hL, hp1]; exact hp3⟩)
  clear hp1 hp2 hp3 hp4
  generalize parseT t.data.toList = PR0 at *
  clear h hE
  obtain ⟨RK, RO, RL, RE⟩ := PR0
  try simp only at hpe
  obtain ⟨PC, hPC⟩ : ∃ PC : Int, (if 0 < RL then 1 else 0) = PC := ⟨_, rfl⟩
  have HP0 := HP.out
  unfold PPost at HP0
  simp only at HP0
  rw [hPC] at HP0
  replace HP := Lib.hid HP0
  clear hPC HP0
  rw [hf] at HFW
  rw [hval] at HV
  have t1 : decide ((2500 : Int) < (t.size : Int)) = false := decide_eq_false (by omega)
  have t1' : decide (2500 < t.size) = false := decide_eq_false hz
  clear hf hval hz
  subst hpe
  go_enter Tryz.func5, Tryz.ntmps5
  go_wp2_with fail
  refine (HAW.out _).mono ?_
  rintro e w2 ⟨rfl, hw2⟩
  have HE2 := Lib.hid (hw2)
  clear hw2
  go_wp2_with fail
  refine (HFW.out _ HE2.out).mono ?_
  rintro e w3 ⟨rfl, hw3⟩
  have HE3 := Lib.hid (HE2.out.ext hw3)
  clear hw3
  go_wp2_with fail
  refine (HP.out _ HE3.out).mono ?_
  rintro e w4 ⟨v1, L1, rfl, hO1, hL1, h4⟩
  obtain ⟨a1, c1, hv1⟩ := hO1.shape
  subst hv1
  have HE4 := Lib.hid (HE3.out.ext h4)
  have HE5 := Lib.hid (HE4.out.alloc (.cells #[.int .i64 RL, .int .i64 PC] 25))
  have HX2 := Lib.hid (HX.out _ L1 (w4.alloc (.cells #[.int .i64 RL, .int .i64 PC] 25)) _ (hO1.kept ((Upd.refl (fun _ => False) w4).alloc _) (fun _ _ h => h)) hL1 HE5.out)
  clear h4 hO1 hL1
  go_wp2_with fail
  refine HX2.out.mono ?_
  rintro e w6 ⟨rfl, h6⟩
  have HE6 := Lib.hid (HE5.out.ext h6)
  clear h6
  go_wp2_with fail
  refine (HT.out _ HE6.out).mono ?_
  rintro e w7 ⟨rfl, hw7⟩
  have HE7 := Lib.hid (HE6.out.ext hw7)
  clear hw7
  go_wp2_with fail
  refine (HP2.out _ HE7.out).mono ?_
  rintro e w8 ⟨v2, L3, rfl, hO2, hL2, h8⟩
  obtain ⟨a2, c2, hv2⟩ := hO2.shape
  subst hv2
  have HE8 := Lib.hid (HE7.out.ext h8)
  have hb8 := alloc0 w8 (.cells #[.int .i64 0, .int .i64 0] 25)
  have HE9 := Lib.hid ((Upd.refl (fun _ => False) w8).alloc (.cells #[.int .i64 0, .int .i64 0] 25))
  have HB8 := Lib.hid hb8
  have CS := sameops_any _ _ _ _ L3 l (w8.alloc (.cells #[.int .i64 0, .int .i64 0] 25)) (hO2.kept HE9.out (fun _ _ h => h)) (HN.out.kept (HE8.out.ext HE9.out) (fun _ _ h => h)) (by have := (opsL_args hL2 HPA.out).1; omega) (by omega) (opsL_args hL2 HPA.out).2 HA.out
  rw [hL2, decide_eq_true rfl] at CS
  have HCS := Lib.hid CS
  clear CS h8 hO2 hL2 hb8
  go_wp2_with fail
  refine HCS.out.mono ?_
  rintro e w9 ⟨rfl, h9⟩
  have HE10 := Lib.hid ((HE8.out.ext HE9.out).ext h9)
  have hc8 := h9.heap HB8.out (fun h => h)
  have q0 := cellRow hc8 0 _ rfl
  have q1 := cellRow hc8 1 _ rfl
  clear h9 hc8
  go_wp2_with fail
  go_ret
  exact ⟨rfl, HE10.out⟩
set_option maxHeartbeats 1000000 in
set_option maxRecDepth 100000 in
theorem back_c2 (kind : Int) (v : Value) (l : List OpV) (t : ByteArray) (w : World) (S : Nat → Prop) (h : OpsR S w v l) (hlm : l.length ≤ maxLen) (hE : Env w) (hf : fewB (opsL l) 60 = true) (hz : ¬ 2500 < t.size) (hpe : (parseT t.data.toList).err = 0) (hval : validL kind (opsL l) = false) : Calls Tryz.prog 5 #[.int .i64 kind, v, .string t] w fun e w' => e = .returned (.bool true) ∧ Ext w w' := by
  obtain ⟨a, cap, hvs⟩ := h.shape
  subst hvs
  have HN := Lib.hid h
  have HAW := Lib.hid (fun W : World => awake_any W)
  have HFW : Hid (∀ W, Ext w W → Calls Tryz.prog 13 #[.slice a l.length cap, .int .i64 60] W fun e w' => e = .returned (.bool (fewB (opsL l) 60)) ∧ Ext W w') := fun W hW => few_any 60 _ l W S (HN.out.kept hW (fun _ _ h => h)) (by decide) hlm
  have HA : Hid (∀ o ∈ l, o.op.args.length ≤ 100000000) := fewB_args hf
  have hlen : l.length ≤ 2005 := by have := fewB_len hf; omega
  have HV : Hid (∀ W, Ext w W → Calls Tryz.prog 14 #[.int .i64 kind, .slice a l.length cap] W fun e w' => e = .returned (.bool (validL kind (opsL l))) ∧ Ext W w') := fun W hW => valid_any kind _ l W S (HN.out.kept hW (fun _ _ h => h)) (by omega) HA.out
  have HT : Hid (∀ W, Ext w W → Calls Tryz.prog 10 #[.int .i64 kind, .slice a l.length cap] W fun e w' => e = .returned (.tuple #[.string ⟨#[]⟩, .int .i64 1]) ∧ Ext W w') := fun W hW => wtext_bad kind _ l W S (HN.out.kept hW (fun _ _ h => h)) (by omega) HA.out hval
  have HP : Hid (∀ W, Ext w W → Calls Tryz.prog 7 #[.string t] W (PPost (parseT t.data.toList) W)) := fun W hW => by
    have := wparse_x t.data.toList W (hE.ext hW) (by rw [len_size]; omega)
    rw [bs_of] at this
    exact this
  obtain ⟨hp1, hp2, hp3⟩ := parse_sc hpe
  have hp4 := parse_args t.data.toList
  have HX : Hid (∀ (v2 : Value) (L3 : List OpV) (W : World) (S2 : Nat → Prop), OpsR S2 W v2 L3 → opsL L3 = (parseT t.data.toList).ops → Ext w W → Calls Tryz.prog 10 #[.int .i64 (parseT t.data.toList).kind, v2] W fun e w' => e = .returned (.tuple #[.string t, .int .i64 0]) ∧ Ext W w') := fun v2 L3 W S2 hO hL hW =>
    wtext_ok _ v2 L3 W S2 hO (tab_ext hE.tab hW) (by rw [hL]; exact hp2) t 0 (Or.inl ⟨by rw [hL, hp1, bs_of], rfl, by rw [hL, hp1]; exact hp3⟩)
  clear hp1 hp2 hp3 hp4
  generalize parseT t.data.toList = PR0 at *
  clear h hE
  obtain ⟨RK, RO, RL, RE⟩ := PR0
  try simp only at hpe
  obtain ⟨PC, hPC⟩ : ∃ PC : Int, (if 0 < RL then 1 else 0) = PC := ⟨_, rfl⟩
  have HP0 := HP.out
  unfold PPost at HP0
  simp only at HP0
  rw [hPC] at HP0
  replace HP := Lib.hid HP0
  clear hPC HP0
  rw [hf] at HFW
  rw [hval] at HV
  have t1 : decide ((2500 : Int) < (t.size : Int)) = false := decide_eq_false (by omega)
  have t1' : decide (2500 < t.size) = false := decide_eq_false hz
  clear hf hval hz
  subst hpe
  go_enter Tryz.func5, Tryz.ntmps5
  go_wp2_with fail
  refine (HAW.out _).mono ?_
  rintro e w2 ⟨rfl, hw2⟩
  have HE2 := Lib.hid (hw2)
  clear hw2
  go_wp2_with fail
  refine (HFW.out _ HE2.out).mono ?_
  rintro e w3 ⟨rfl, hw3⟩
  have HE3 := Lib.hid (HE2.out.ext hw3)
  clear hw3
  go_wp2_with fail
  refine (HP.out _ HE3.out).mono ?_
  rintro e w4 ⟨v1, L1, rfl, hO1, hL1, h4⟩
  obtain ⟨a1, c1, hv1⟩ := hO1.shape
  subst hv1
  have HE4 := Lib.hid (HE3.out.ext h4)
  have HE5 := Lib.hid (HE4.out.alloc (.cells #[.int .i64 RL, .int .i64 PC] 25))
  have HX2 := Lib.hid (HX.out _ L1 (w4.alloc (.cells #[.int .i64 RL, .int .i64 PC] 25)) _ (hO1.kept ((Upd.refl (fun _ => False) w4).alloc _) (fun _ _ h => h)) hL1 HE5.out)
  clear h4 hO1 hL1
  go_wp2_with fail
  refine HX2.out.mono ?_
  rintro e w6 ⟨rfl, h6⟩
  have HE6 := Lib.hid (HE5.out.ext h6)
  clear h6
  go_wp2_with fail
  refine (HT.out _ HE6.out).mono ?_
  rintro e w7 ⟨rfl, hw7⟩
  have HE7 := Lib.hid (HE6.out.ext hw7)
  clear hw7
  go_wp2_with fail
  refine (HV.out _ HE7.out).mono ?_
  rintro e w8 ⟨rfl, hw8⟩
  have HE8 := Lib.hid (HE7.out.ext hw8)
  clear hw8
  go_wp2_with fail
  go_ret
  exact ⟨rfl, HE8.out⟩
set_option maxHeartbeats 1000000 in
set_option maxRecDepth 100000 in
theorem back_c3 (kind : Int) (v : Value) (l : List OpV) (t : ByteArray) (w : World) (S : Nat → Prop) (h : OpsR S w v l) (hlm : l.length ≤ maxLen) (hE : Env w) (hf : fewB (opsL l) 60 = true) (hz : ¬ 2500 < t.size) (hpe : (parseT t.data.toList).err ≠ 0) (hval : validL kind (opsL l) = true) : Calls Tryz.prog 5 #[.int .i64 kind, v, .string t] w fun e w' => e = .returned (.bool true) ∧ Ext w w' := by
  obtain ⟨a, cap, hvs⟩ := h.shape
  subst hvs
  have HN := Lib.hid h
  have HAW := Lib.hid (fun W : World => awake_any W)
  have HFW : Hid (∀ W, Ext w W → Calls Tryz.prog 13 #[.slice a l.length cap, .int .i64 60] W fun e w' => e = .returned (.bool (fewB (opsL l) 60)) ∧ Ext W w') := fun W hW => few_any 60 _ l W S (HN.out.kept hW (fun _ _ h => h)) (by decide) hlm
  have HA : Hid (∀ o ∈ l, o.op.args.length ≤ 100000000) := fewB_args hf
  have hlen : l.length ≤ 2005 := by have := fewB_len hf; omega
  have HV : Hid (∀ W, Ext w W → Calls Tryz.prog 14 #[.int .i64 kind, .slice a l.length cap] W fun e w' => e = .returned (.bool (validL kind (opsL l))) ∧ Ext W w') := fun W hW => valid_any kind _ l W S (HN.out.kept hW (fun _ _ h => h)) (by omega) HA.out
  have hsl : (scT kind (opsL l)).length ≤ 65536 := by
    have h1 := fewB_len hf
    have hval2 := hval
    unfold validL at hval2
    simp only [Bool.and_eq_true, decide_eq_true_eq] at hval2
    rw [opsL_length] at hval2
    have h2 := lnT_len2 hval2.2
    have h3 := hdT_len kind
    rw [opsL_length] at h2
    unfold scT
    rw [List.length_append]
    omega
  have hps := scT_parse hval hsl
  have hpa := parse_args (scT kind (opsL l))
  obtain ⟨R, hR⟩ : ∃ R, bs (scT kind (opsL l)) = R := ⟨_, rfl⟩
  have HT : Hid (∀ W, Ext w W → Calls Tryz.prog 10 #[.int .i64 kind, .slice a l.length cap] W fun e w' => e = .returned (.tuple #[.string R, .int .i64 0]) ∧ Ext W w') := fun W hW => wtext_ok kind _ l W S (HN.out.kept hW (fun _ _ h => h)) (tab_ext hE.tab hW) hval R 0 (Or.inl ⟨hR.symm, rfl, hsl⟩)
  have HP2 : Hid (∀ W, Ext w W → Calls Tryz.prog 7 #[.string R] W (PPost ⟨kind, opsL l, 0, 0⟩ W)) := fun W hW => by
    rw [← hR, ← hps]
    exact wparse_x _ W (hE.ext hW) (by omega)
  rw [hps] at hpa
  have HPA := Lib.hid hpa
  have heq := fun (a b c d : Int) (W : World) => eqP a b c d W
  clear hR hsl hps hpa
  have HP : Hid (∀ W, Ext w W → Calls Tryz.prog 7 #[.string t] W (PPost (parseT t.data.toList) W)) := fun W hW => by
    have := wparse_x t.data.toList W (hE.ext hW) (by rw [len_size]; omega)
    rw [bs_of] at this
    exact this
  generalize parseT t.data.toList = PR0 at *
  clear h hE
  obtain ⟨RK, RO, RL, RE⟩ := PR0
  try simp only at hpe
  obtain ⟨PC, hPC⟩ : ∃ PC : Int, (if 0 < RL then 1 else 0) = PC := ⟨_, rfl⟩
  have HP0 := HP.out
  unfold PPost at HP0
  simp only at HP0
  rw [hPC] at HP0
  replace HP := Lib.hid HP0
  clear hPC HP0
  rw [hf] at HFW
  rw [hval] at HV
  have t1 : decide ((2500 : Int) < (t.size : Int)) = false := decide_eq_false (by omega)
  have t1' : decide (2500 < t.size) = false := decide_eq_false hz
  clear hf hval hz
  have e1 : ((RE : Int) == 0) = false := beq_eq_false_iff_ne.2 hpe
  clear hpe
  go_enter Tryz.func5, Tryz.ntmps5
  go_wp2_with fail
  refine (HAW.out _).mono ?_
  rintro e w2 ⟨rfl, hw2⟩
  have HE2 := Lib.hid (hw2)
  clear hw2
  go_wp2_with fail
  refine (HFW.out _ HE2.out).mono ?_
  rintro e w3 ⟨rfl, hw3⟩
  have HE3 := Lib.hid (HE2.out.ext hw3)
  clear hw3
  go_wp2_with fail
  refine (HP.out _ HE3.out).mono ?_
  rintro e w4 ⟨v1, L1, rfl, hO1, hL1, h4⟩
  obtain ⟨a1, c1, hv1⟩ := hO1.shape
  subst hv1
  have HE4 := Lib.hid (HE3.out.ext h4)
  have HE5 := Lib.hid (HE4.out.alloc (.cells #[.int .i64 RL, .int .i64 PC] 25))
  have HE6 := HE5
  clear h4 hO1 hL1
  go_wp2_with fail
  refine (HT.out _ HE6.out).mono ?_
  rintro e w7 ⟨rfl, hw7⟩
  have HE7 := Lib.hid (HE6.out.ext hw7)
  clear hw7
  go_wp2_with fail
  refine (HP2.out _ HE7.out).mono ?_
  rintro e w8 ⟨v2, L3, rfl, hO2, hL2, h8⟩
  obtain ⟨a2, c2, hv2⟩ := hO2.shape
  subst hv2
  have HE8 := Lib.hid (HE7.out.ext h8)
  have hb8 := alloc0 w8 (.cells #[.int .i64 0, .int .i64 0] 25)
  have HE9 := Lib.hid ((Upd.refl (fun _ => False) w8).alloc (.cells #[.int .i64 0, .int .i64 0] 25))
  have HB8 := Lib.hid hb8
  have CS := sameops_any _ _ _ _ L3 l (w8.alloc (.cells #[.int .i64 0, .int .i64 0] 25)) (hO2.kept HE9.out (fun _ _ h => h)) (HN.out.kept (HE8.out.ext HE9.out) (fun _ _ h => h)) (by have := (opsL_args hL2 HPA.out).1; omega) (by omega) (opsL_args hL2 HPA.out).2 HA.out
  rw [hL2, decide_eq_true rfl] at CS
  have HCS := Lib.hid CS
  clear CS h8 hO2 hL2 hb8
  go_wp2_with fail
  refine HCS.out.mono ?_
  rintro e w9 ⟨rfl, h9⟩
  have HE10 := Lib.hid ((HE8.out.ext HE9.out).ext h9)
  have hc8 := h9.heap HB8.out (fun h => h)
  have q0 := cellRow hc8 0 _ rfl
  have q1 := cellRow hc8 1 _ rfl
  clear h9 hc8
  go_wp2_with fail
  go_ret
  exact ⟨rfl, HE10.out⟩
set_option maxHeartbeats 1000000 in
set_option maxRecDepth 100000 in
theorem back_c4 (kind : Int) (v : Value) (l : List OpV) (t : ByteArray) (w : World) (S : Nat → Prop) (h : OpsR S w v l) (hlm : l.length ≤ maxLen) (hE : Env w) (hf : fewB (opsL l) 60 = true) (hz : ¬ 2500 < t.size) (hpe : (parseT t.data.toList).err ≠ 0) (hval : validL kind (opsL l) = false) : Calls Tryz.prog 5 #[.int .i64 kind, v, .string t] w fun e w' => e = .returned (.bool true) ∧ Ext w w' := by
  obtain ⟨a, cap, hvs⟩ := h.shape
  subst hvs
  have HN := Lib.hid h
  have HAW := Lib.hid (fun W : World => awake_any W)
  have HFW : Hid (∀ W, Ext w W → Calls Tryz.prog 13 #[.slice a l.length cap, .int .i64 60] W fun e w' => e = .returned (.bool (fewB (opsL l) 60)) ∧ Ext W w') := fun W hW => few_any 60 _ l W S (HN.out.kept hW (fun _ _ h => h)) (by decide) hlm
  have HA : Hid (∀ o ∈ l, o.op.args.length ≤ 100000000) := fewB_args hf
  have hlen : l.length ≤ 2005 := by have := fewB_len hf; omega
  have HV : Hid (∀ W, Ext w W → Calls Tryz.prog 14 #[.int .i64 kind, .slice a l.length cap] W fun e w' => e = .returned (.bool (validL kind (opsL l))) ∧ Ext W w') := fun W hW => valid_any kind _ l W S (HN.out.kept hW (fun _ _ h => h)) (by omega) HA.out
  have HT : Hid (∀ W, Ext w W → Calls Tryz.prog 10 #[.int .i64 kind, .slice a l.length cap] W fun e w' => e = .returned (.tuple #[.string ⟨#[]⟩, .int .i64 1]) ∧ Ext W w') := fun W hW => wtext_bad kind _ l W S (HN.out.kept hW (fun _ _ h => h)) (by omega) HA.out hval
  have HP : Hid (∀ W, Ext w W → Calls Tryz.prog 7 #[.string t] W (PPost (parseT t.data.toList) W)) := fun W hW => by
    have := wparse_x t.data.toList W (hE.ext hW) (by rw [len_size]; omega)
    rw [bs_of] at this
    exact this
  generalize parseT t.data.toList = PR0 at *
  clear h hE
  obtain ⟨RK, RO, RL, RE⟩ := PR0
  try simp only at hpe
  obtain ⟨PC, hPC⟩ : ∃ PC : Int, (if 0 < RL then 1 else 0) = PC := ⟨_, rfl⟩
  have HP0 := HP.out
  unfold PPost at HP0
  simp only at HP0
  rw [hPC] at HP0
  replace HP := Lib.hid HP0
  clear hPC HP0
  rw [hf] at HFW
  rw [hval] at HV
  have t1 : decide ((2500 : Int) < (t.size : Int)) = false := decide_eq_false (by omega)
  have t1' : decide (2500 < t.size) = false := decide_eq_false hz
  clear hf hval hz
  have e1 : ((RE : Int) == 0) = false := beq_eq_false_iff_ne.2 hpe
  clear hpe
  go_enter Tryz.func5, Tryz.ntmps5
  go_wp2_with fail
  refine (HAW.out _).mono ?_
  rintro e w2 ⟨rfl, hw2⟩
  have HE2 := Lib.hid (hw2)
  clear hw2
  go_wp2_with fail
  refine (HFW.out _ HE2.out).mono ?_
  rintro e w3 ⟨rfl, hw3⟩
  have HE3 := Lib.hid (HE2.out.ext hw3)
  clear hw3
  go_wp2_with fail
  refine (HP.out _ HE3.out).mono ?_
  rintro e w4 ⟨v1, L1, rfl, hO1, hL1, h4⟩
  obtain ⟨a1, c1, hv1⟩ := hO1.shape
  subst hv1
  have HE4 := Lib.hid (HE3.out.ext h4)
  have HE5 := Lib.hid (HE4.out.alloc (.cells #[.int .i64 RL, .int .i64 PC] 25))
  have HE6 := HE5
  clear h4 hO1 hL1
  go_wp2_with fail
  refine (HT.out _ HE6.out).mono ?_
  rintro e w7 ⟨rfl, hw7⟩
  have HE7 := Lib.hid (HE6.out.ext hw7)
  clear hw7
  go_wp2_with fail
  refine (HV.out _ HE7.out).mono ?_
  rintro e w8 ⟨rfl, hw8⟩
  have HE8 := Lib.hid (HE7.out.ext hw8)
  clear hw8
  go_wp2_with fail
  go_ret
  exact ⟨rfl, HE8.out⟩

theorem back_law (kind : Int) (v : Value) (l : List OpV) (t : ByteArray) (w : World) (S : Nat → Prop) (h : OpsR S w v l) (hlm : l.length ≤ maxLen) (hE : Env w) : Calls Tryz.prog 5 #[.int .i64 kind, v, .string t] w fun e w' => e = .returned (.bool true) ∧ Ext w w' := by
  cases hf : fewB (opsL l) 60 with
  | false => exact back_a kind v l t w S h hlm hf
  | true =>
    by_cases hz : 2500 < t.size
    · exact back_b kind v l t w S h hlm hf hz
    · by_cases hpe : (parseT t.data.toList).err = 0
      · cases hval : validL kind (opsL l) with
        | true => exact back_c1 kind v l t w S h hlm hE hf hz hpe hval
        | false => exact back_c2 kind v l t w S h hlm hE hf hz hpe hval
      · cases hval : validL kind (opsL l) with
        | true => exact back_c3 kind v l t w S h hlm hE hf hz hpe hval
        | false => exact back_c4 kind v l t w S h hlm hE hf hz hpe hval

end Go.Proofs.YthpekfpeoglbgaaGreatDoor
