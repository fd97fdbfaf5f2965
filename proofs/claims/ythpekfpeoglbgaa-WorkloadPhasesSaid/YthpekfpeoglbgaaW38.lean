/- WorkloadPhases. -/
import Derived.Test.YthpekfpeoglbgaaW27
namespace Go.Proofs.Ythpekfpeoglbgaa
open Go.RowKit Go.Hw
set_option linter.unusedVariables false
set_option linter.unusedSimpArgs false

set_option maxRecDepth 100000 in
set_option maxHeartbeats 1000000 in
theorem phl_a (S : Nat → Prop) (kind : Int) (v : Value) (l : List OpV) (w : World) (h : OpsR S w v l) (hlm : l.length ≤ maxLen) (most : Int) (hf : fewB (opsL l) 25 = false) : Calls Try.prog 4 #[.int .i64 kind, v, .int .i64 most] w fun e w' => e = .returned (.bool true) ∧ Ext w w' := by
  obtain ⟨a, cap, hv⟩ := h.shape
  subst hv
  have HN := Lib.hid h
  have HAW := Lib.hid (fun W : World => awake_any W)
  have HFW : Hid (∀ W, Ext w W → Calls Try.prog 18 #[.slice a l.length cap, .int .i64 25] W fun e w' => e = .returned (.bool (fewB (opsL l) 25)) ∧ Ext W w') := fun W hW => few_any 25 _ l W S (HN.out.kept hW (fun _ _ h => h)) (by decide) hlm
  clear h
  rw [hf] at HFW
  clear hf
  generalize l.length = n at *
  go_enter Try.func4, Try.ntmps4
  go_wp2_with fail
  refine (HAW.out _).mono ?_
  rintro e w2 ⟨rfl, h2⟩
  have HE2 := Lib.hid h2
  clear h2
  go_wp2_with fail
  refine (HFW.out _ HE2.out).mono ?_
  rintro e w3 ⟨rfl, h3⟩
  have HE3 := Lib.hid (HE2.out.ext h3)
  clear h3
  go_wp2_with fail
  refine (HAW.out _).mono ?_
  rintro e w9 ⟨rfl, h9⟩
  have HE9 := Lib.hid (HE3.out.ext h9)
  clear h9
  go_wp2_with fail
  go_ret
  exact ⟨rfl, HE9.out⟩

set_option maxRecDepth 100000 in
set_option maxHeartbeats 1000000 in
theorem phl_b (S : Nat → Prop) (kind : Int) (v : Value) (l : List OpV) (w : World) (h : OpsR S w v l) (hlm : l.length ≤ maxLen) (most : Int) (hf : fewB (opsL l) 25 = true) (hval : validL kind (opsL l) = false) : Calls Try.prog 4 #[.int .i64 kind, v, .int .i64 most] w fun e w' => e = .returned (.bool true) ∧ Ext w w' := by
  obtain ⟨a, cap, hv⟩ := h.shape
  subst hv
  have HN := Lib.hid h
  have HAW := Lib.hid (fun W : World => awake_any W)
  have HFW : Hid (∀ W, Ext w W → Calls Try.prog 18 #[.slice a l.length cap, .int .i64 25] W fun e w' => e = .returned (.bool (fewB (opsL l) 25)) ∧ Ext W w') := fun W hW => few_any 25 _ l W S (HN.out.kept hW (fun _ _ h => h)) (by decide) hlm
  clear h
  have HA : Hid (∀ o ∈ l, o.op.args.length ≤ 100000000) := fewB_args hf
  have HRV : Hid (∀ W, Ext w W → Calls Try.prog 20 #[.int .i64 kind, .slice a l.length cap] W fun e w' => e = .returned (.bool (validL kind (opsL l))) ∧ Ext W w') := fun W hW => rvalid_any kind _ l W S (HN.out.kept hW (fun _ _ h => h)) (by have := fewB_len hf; omega) HA.out
  have hl8 : l.length ≤ 100000000 := by have := fewB_len hf; omega
  have HM : Hid (∀ W, Ext w W → Calls Try.prog 19 #[.int .i64 kind, .slice a l.length cap, .int .i64 most] W fun e w' => e = .returned (.tuple #[.slice none 0 0, .int .i64 1]) ∧ Ext W w') := fun W hW => ph_bad1 S kind _ l W (HN.out.kept hW (fun _ _ h => h)) hl8 HA.out most hval
  rw [hf] at HFW
  rw [hval] at HRV
  clear hf hval hl8 hlm
  generalize l.length = n at *
  go_enter Try.func4, Try.ntmps4
  go_wp2_with fail
  refine (HAW.out _).mono ?_
  rintro e w2 ⟨rfl, h2⟩
  have HE2 := Lib.hid h2
  clear h2
  go_wp2_with fail
  refine (HFW.out _ HE2.out).mono ?_
  rintro e w3 ⟨rfl, h3⟩
  have HE3 := Lib.hid (HE2.out.ext h3)
  clear h3
  go_wp2_with fail
  refine (HM.out _ HE3.out).mono ?_
  rintro e w4 ⟨rfl, h4⟩
  have HE4 := Lib.hid (HE3.out.ext h4)
  clear h4
  go_wp2_with fail
  refine (HRV.out _ HE4.out).mono ?_
  rintro e w6 ⟨rfl, h6⟩
  have HE6 := Lib.hid (HE4.out.ext h6)
  clear h6
  go_wp2_with fail
  go_ret
  exact ⟨rfl, HE6.out⟩

set_option maxRecDepth 100000 in
set_option maxHeartbeats 1000000 in
theorem phl_c (S : Nat → Prop) (kind : Int) (v : Value) (l : List OpV) (w : World) (h : OpsR S w v l) (hlm : l.length ≤ maxLen) (most : Int) (hf : fewB (opsL l) 25 = true) (hval : validL kind (opsL l) = true) (hm : most < 1) : Calls Try.prog 4 #[.int .i64 kind, v, .int .i64 most] w fun e w' => e = .returned (.bool true) ∧ Ext w w' := by
  obtain ⟨a, cap, hv⟩ := h.shape
  subst hv
  have HN := Lib.hid h
  have HAW := Lib.hid (fun W : World => awake_any W)
  have HFW : Hid (∀ W, Ext w W → Calls Try.prog 18 #[.slice a l.length cap, .int .i64 25] W fun e w' => e = .returned (.bool (fewB (opsL l) 25)) ∧ Ext W w') := fun W hW => few_any 25 _ l W S (HN.out.kept hW (fun _ _ h => h)) (by decide) hlm
  clear h
  have HA : Hid (∀ o ∈ l, o.op.args.length ≤ 100000000) := fewB_args hf
  have HRV : Hid (∀ W, Ext w W → Calls Try.prog 20 #[.int .i64 kind, .slice a l.length cap] W fun e w' => e = .returned (.bool (validL kind (opsL l))) ∧ Ext W w') := fun W hW => rvalid_any kind _ l W S (HN.out.kept hW (fun _ _ h => h)) (by have := fewB_len hf; omega) HA.out
  have hl8 : l.length ≤ 100000000 := by have := fewB_len hf; omega
  have HM : Hid (∀ W, Ext w W → Calls Try.prog 19 #[.int .i64 kind, .slice a l.length cap, .int .i64 most] W fun e w' => e = .returned (.tuple #[.slice none 0 0, .int .i64 2]) ∧ Ext W w') := fun W hW => ph_bad2 S kind _ l W (HN.out.kept hW (fun _ _ h => h)) hl8 HA.out most hval hm
  rw [hf] at HFW
  rw [hval] at HRV
  have t1 : decide (most < 1) = true := decide_eq_true hm
  clear hf hval hl8 hlm
  generalize l.length = n at *
  go_enter Try.func4, Try.ntmps4
  go_wp2_with fail
  refine (HAW.out _).mono ?_
  rintro e w2 ⟨rfl, h2⟩
  have HE2 := Lib.hid h2
  clear h2
  go_wp2_with fail
  refine (HFW.out _ HE2.out).mono ?_
  rintro e w3 ⟨rfl, h3⟩
  have HE3 := Lib.hid (HE2.out.ext h3)
  clear h3
  go_wp2_with fail
  refine (HM.out _ HE3.out).mono ?_
  rintro e w4 ⟨rfl, h4⟩
  have HE4 := Lib.hid (HE3.out.ext h4)
  clear h4
  go_wp2_with fail
  refine (HRV.out _ HE4.out).mono ?_
  rintro e w6 ⟨rfl, h6⟩
  have HE6 := Lib.hid (HE4.out.ext h6)
  clear h6
  go_wp2_with fail
  go_ret
  exact ⟨rfl, HE6.out⟩

set_option maxRecDepth 100000 in
set_option maxHeartbeats 1000000 in
theorem phl_d (S : Nat → Prop) (kind : Int) (v : Value) (l : List OpV) (w : World) (h : OpsR S w v l) (hlm : l.length ≤ maxLen) (most : Int) (hf : fewB (opsL l) 25 = true) (hval : validL kind (opsL l) = true) (hm : 20 < most) : Calls Try.prog 4 #[.int .i64 kind, v, .int .i64 most] w fun e w' => e = .returned (.bool true) ∧ Ext w w' := by
  obtain ⟨a, cap, hv⟩ := h.shape
  subst hv
  have HN := Lib.hid h
  have HAW := Lib.hid (fun W : World => awake_any W)
  have HFW : Hid (∀ W, Ext w W → Calls Try.prog 18 #[.slice a l.length cap, .int .i64 25] W fun e w' => e = .returned (.bool (fewB (opsL l) 25)) ∧ Ext W w') := fun W hW => few_any 25 _ l W S (HN.out.kept hW (fun _ _ h => h)) (by decide) hlm
  clear h
  have HA : Hid (∀ o ∈ l, o.op.args.length ≤ 100000000) := fewB_args hf
  have HRV : Hid (∀ W, Ext w W → Calls Try.prog 20 #[.int .i64 kind, .slice a l.length cap] W fun e w' => e = .returned (.bool (validL kind (opsL l))) ∧ Ext W w') := fun W hW => rvalid_any kind _ l W S (HN.out.kept hW (fun _ _ h => h)) (by have := fewB_len hf; omega) HA.out
  have hl8 : l.length ≤ 100000000 := by have := fewB_len hf; omega
  have HM : Hid (∀ W, Ext w W → Calls Try.prog 19 #[.int .i64 kind, .slice a l.length cap, .int .i64 most] W fun e w' => e = .returned (.tuple #[.slice none 0 0, .int .i64 2]) ∧ Ext W w') := fun W hW => ph_bad3 S kind _ l W (HN.out.kept hW (fun _ _ h => h)) hl8 HA.out most hval hm
  rw [hf] at HFW
  rw [hval] at HRV
  have t1 : decide (most < 1) = false := decide_eq_false (by omega)
  have t2 : decide (20 < most) = true := decide_eq_true hm
  clear hf hval hl8 hlm
  generalize l.length = n at *
  go_enter Try.func4, Try.ntmps4
  go_wp2_with fail
  refine (HAW.out _).mono ?_
  rintro e w2 ⟨rfl, h2⟩
  have HE2 := Lib.hid h2
  clear h2
  go_wp2_with fail
  refine (HFW.out _ HE2.out).mono ?_
  rintro e w3 ⟨rfl, h3⟩
  have HE3 := Lib.hid (HE2.out.ext h3)
  clear h3
  go_wp2_with fail
  refine (HM.out _ HE3.out).mono ?_
  rintro e w4 ⟨rfl, h4⟩
  have HE4 := Lib.hid (HE3.out.ext h4)
  clear h4
  go_wp2_with fail
  refine (HRV.out _ HE4.out).mono ?_
  rintro e w6 ⟨rfl, h6⟩
  have HE6 := Lib.hid (HE4.out.ext h6)
  clear h6
  go_wp2_with fail
  go_ret
  exact ⟨rfl, HE6.out⟩

set_option maxRecDepth 100000 in
set_option maxHeartbeats 1000000 in
theorem phl_e (S : Nat → Prop) (kind : Int) (v : Value) (l : List OpV) (w : World) (h : OpsR S w v l) (hlm : l.length ≤ maxLen) (most : Int) (hf : fewB (opsL l) 25 = true) (hval : validL kind (opsL l) = true) (hm1 : 1 ≤ most) (hm : most ≤ 20) (hn : l.length = 0) : Calls Try.prog 4 #[.int .i64 kind, v, .int .i64 most] w fun e w' => e = .returned (.bool true) ∧ Ext w w' := by
  obtain ⟨a, cap, hv⟩ := h.shape
  subst hv
  have HN := Lib.hid h
  have HAW := Lib.hid (fun W : World => awake_any W)
  have HFW : Hid (∀ W, Ext w W → Calls Try.prog 18 #[.slice a l.length cap, .int .i64 25] W fun e w' => e = .returned (.bool (fewB (opsL l) 25)) ∧ Ext W w') := fun W hW => few_any 25 _ l W S (HN.out.kept hW (fun _ _ h => h)) (by decide) hlm
  clear h
  have HA : Hid (∀ o ∈ l, o.op.args.length ≤ 100000000) := fewB_args hf
  have HRV : Hid (∀ W, Ext w W → Calls Try.prog 20 #[.int .i64 kind, .slice a l.length cap] W fun e w' => e = .returned (.bool (validL kind (opsL l))) ∧ Ext W w') := fun W hW => rvalid_any kind _ l W S (HN.out.kept hW (fun _ _ h => h)) (by have := fewB_len hf; omega) HA.out
  have hl8 : l.length ≤ 100000000 := by have := fewB_len hf; omega
  have HM : Hid (∀ W, Ext w W → Calls Try.prog 19 #[.int .i64 kind, .slice a l.length cap, .int .i64 most] W fun e w' => e = .returned (.tuple #[.slice none 0 0, .int .i64 12]) ∧ Ext W w') := fun W hW => ph_bad4 S kind _ l W (HN.out.kept hW (fun _ _ h => h)) hl8 HA.out most hval hm1 hm hn
  rw [hf] at HFW
  rw [hval] at HRV
  have t1 : decide (most < 1) = false := decide_eq_false (by omega)
  have t2 : decide (20 < most) = false := decide_eq_false (by omega)
  have t3 : ((l.length : Int) == 0) = true := by simp [hn]
  clear hf hval hl8 hlm hn
  generalize l.length = n at *
  go_enter Try.func4, Try.ntmps4
  go_wp2_with fail
  refine (HAW.out _).mono ?_
  rintro e w2 ⟨rfl, h2⟩
  have HE2 := Lib.hid h2
  clear h2
  go_wp2_with fail
  refine (HFW.out _ HE2.out).mono ?_
  rintro e w3 ⟨rfl, h3⟩
  have HE3 := Lib.hid (HE2.out.ext h3)
  clear h3
  go_wp2_with fail
  refine (HM.out _ HE3.out).mono ?_
  rintro e w4 ⟨rfl, h4⟩
  have HE4 := Lib.hid (HE3.out.ext h4)
  clear h4
  go_wp2_with fail
  refine (HRV.out _ HE4.out).mono ?_
  rintro e w6 ⟨rfl, h6⟩
  have HE6 := Lib.hid (HE4.out.ext h6)
  clear h6
  go_wp2_with fail
  go_ret
  exact ⟨rfl, HE6.out⟩

set_option maxRecDepth 100000 in
set_option maxHeartbeats 1000000 in
theorem phl_f (S : Nat → Prop) (kind : Int) (v : Value) (l : List OpV) (w : World) (h : OpsR S w v l) (hlm : l.length ≤ maxLen) (most : Int) (hf : fewB (opsL l) 25 = true) (hval : validL kind (opsL l) = true) (hm1 : 1 ≤ most) (hm : most ≤ 20) (hn : 0 < l.length) : Calls Try.prog 4 #[.int .i64 kind, v, .int .i64 most] w fun e w' => e = .returned (.bool true) ∧ Ext w w' := by
  obtain ⟨a, cap, hv⟩ := h.shape
  subst hv
  have HN := Lib.hid h
  have HAW := Lib.hid (fun W : World => awake_any W)
  have HFW : Hid (∀ W, Ext w W → Calls Try.prog 18 #[.slice a l.length cap, .int .i64 25] W fun e w' => e = .returned (.bool (fewB (opsL l) 25)) ∧ Ext W w') := fun W hW => few_any 25 _ l W S (HN.out.kept hW (fun _ _ h => h)) (by decide) hlm
  clear h
  have HA : Hid (∀ o ∈ l, o.op.args.length ≤ 100000000) := fewB_args hf
  have HRV : Hid (∀ W, Ext w W → Calls Try.prog 20 #[.int .i64 kind, .slice a l.length cap] W fun e w' => e = .returned (.bool (validL kind (opsL l))) ∧ Ext W w') := fun W hW => rvalid_any kind _ l W S (HN.out.kept hW (fun _ _ h => h)) (by have := fewB_len hf; omega) HA.out
  have hl8 : l.length ≤ 100000000 := by have := fewB_len hf; omega
  obtain ⟨mo, rfl⟩ : ∃ k : Nat, most = k := ⟨most.toNat, by omega⟩
  have hl2 : l.length ≤ 2000 := by
    have := ((validL_iff kind (opsL l)).1 hval).2.1
    rw [opsL_length] at this; exact this
  obtain ⟨RS, hRS⟩ : ∃ x, x = ints (B (UN (nW kind) (csL l)) l.length (mo - 1) 0) := ⟨_, rfl⟩
  have hpe : (Ph (UN (nW kind) (csL l)) l.length mo).map (fun i : Nat => (i : Int)) = RS := by
    rw [hRS, Ph_eq _ (fun i j => UN_nonneg _ _ _ _) hn (by omega)]; rfl
  have HM : Hid (∀ W, Ext w W → Calls Try.prog 19 #[.int .i64 kind, .slice a l.length cap, .int .i64 (mo : Int)] W fun e w' => ∃ v, e = .returned (.tuple #[v, .int .i64 0]) ∧ NumR (fun k => k < w'.heap.size) w' v RS ∧ Ext W w') := fun W hW => by
    have := ph_ok S kind _ l W (HN.out.kept hW (fun _ _ h => h)) hl8 HA.out (mo : Int) hval hm1 hm hn
    rw [Int.toNat_natCast, hpe] at this
    exact this
  have HRM : Hid (∀ W, Ext w W → Calls Try.prog 22 #[.int .i64 kind, .slice a l.length cap, .int .i64 (mo : Int)] W fun e w' => ∃ v, e = .returned v ∧ NumR (fun k => k < w'.heap.size) w' v RS ∧ Ext W w') := fun W hW => by
    have := rph_any S kind _ l W (HN.out.kept hW (fun _ _ h => h)) hl2 mo (by omega) (by omega) hn
    rw [← hRS] at this
    exact this
  have hwl : RS.length ≤ 100000000 := by
    rw [hRS, ints_length]
    have := B_len (UN (nW kind) (csL l)) l.length (mo - 1) 0
    omega
  rw [hf] at HFW
  rw [hval] at HRV
  have t1 : decide ((mo : Int) < 1) = false := decide_eq_false (by omega)
  have t2 : decide (20 < (mo : Int)) = false := decide_eq_false (by omega)
  have t3 : decide (20 < mo) = false := decide_eq_false (by omega)
  have t4 : decide (mo < 1) = false := decide_eq_false (by omega)
  have t0 : ((l.length : Int) == 0) = false := beq_eq_false_iff_ne.2 (by omega)
  clear hf hval hl8 hlm hn hRS hpe
  generalize l.length = n at *
  go_enter Try.func4, Try.ntmps4
  go_wp2_with fail
  refine (HAW.out _).mono ?_
  rintro e w2 ⟨rfl, h2⟩
  have HE2 := Lib.hid h2
  clear h2
  go_wp2_with fail
  refine (HFW.out _ HE2.out).mono ?_
  rintro e w3 ⟨rfl, h3⟩
  have HE3 := Lib.hid (HE2.out.ext h3)
  clear h3
  go_wp2_with fail
  refine (HM.out _ HE3.out).mono ?_
  rintro e w4 ⟨wv, rfl, hN4, h4⟩
  have HE4 := Lib.hid (HE3.out.ext h4)
  obtain ⟨wa, wc, hwv⟩ := hN4.shape
  subst hwv
  have HN4 := Lib.hid hN4
  clear h4 hN4
  go_wp2_with fail
  refine (HRV.out _ HE4.out).mono ?_
  rintro e w6 ⟨rfl, h6⟩
  have HE6 := Lib.hid (HE4.out.ext h6)
  have HX6 := Lib.hid h6
  clear h6
  go_wp2_with fail
  refine (HRM.out _ HE6.out).mono ?_
  rintro e w7 ⟨wv2, rfl, hN7, h7⟩
  have HE7 := Lib.hid (HE6.out.ext h7)
  have HEQ : Hid (Calls Try.prog 21 #[.slice wa RS.length wc, wv2] w7 fun e w' => e = .returned (.bool true) ∧ Ext w7 w') := by
    have := sequal_any _ _ _ _ RS RS _ (HN4.out.kept (HX6.out.ext h7) (fun _ _ h => h)) hN7 hwl hwl
    refine this.mono ?_
    rintro e w' ⟨rfl, n, rfl⟩
    exact ⟨by simp, (Upd.refl _ _).drewN' _⟩
  clear h7 hN7
  go_wp2_with fail
  refine HEQ.out.mono ?_
  rintro e w9 ⟨rfl, h9⟩
  have HE9 := Lib.hid (HE7.out.ext h9)
  clear h9
  go_wp2_with fail
  go_ret
  exact ⟨rfl, HE9.out⟩
theorem phases_law (S : Nat → Prop) (kind : Int) (v : Value) (l : List OpV) (w : World) (h : OpsR S w v l) (hlm : l.length ≤ maxLen) (most : Int) : Calls Try.prog 4 #[.int .i64 kind, v, .int .i64 most] w fun e w' => e = .returned (.bool true) ∧ Ext w w' := by
  cases hf : fewB (opsL l) 25
  · exact phl_a S kind v l w h hlm most hf
  · cases hval : validL kind (opsL l)
    · exact phl_b S kind v l w h hlm most hf hval
    · by_cases h1 : most < 1
      · exact phl_c S kind v l w h hlm most hf hval h1
      · by_cases h2 : 20 < most
        · exact phl_d S kind v l w h hlm most hf hval h2
        · by_cases hn : l.length = 0
          · exact phl_e S kind v l w h hlm most hf hval (by omega) (by omega) hn
          · exact phl_f S kind v l w h hlm most hf hval (by omega) (by omega) (by omega)

end Go.Proofs.Ythpekfpeoglbgaa
