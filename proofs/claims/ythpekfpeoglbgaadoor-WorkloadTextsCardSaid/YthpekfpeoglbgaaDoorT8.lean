/- WorkloadTexts, any input. -/
import Derived.Test.YthpekfpeoglbgaaDoorT7
import Derived.Test.YthpekfpeoglbgaaDoorW28
import Derived.Test.YthpekfpeoglbgaaDoorW9
namespace Go.Proofs.YthpekfpeoglbgaaDoor
open Go.RowKit Go.Hw
set_option linter.unusedVariables false
set_option linter.unusedSimpArgs false

set_option maxHeartbeats 1000000 in
set_option maxRecDepth 100000 in
theorem texts_a (kind : Int) (v : Value) (l : List OpV) (w : World) (S : Nat → Prop) (h : OpsR S w v l) (hlm : l.length ≤ maxLen) (hf : fewB (opsL l) 60 = false) : Calls Tryd.prog 3 #[.int .i64 kind, v] w fun e w' => e = .returned (.bool true) ∧ Ext w w' := by
  obtain ⟨a, cap, hvs⟩ := h.shape
  subst hvs
  have HN := Lib.hid h
  have HAW := Lib.hid (fun W : World => awake_any W)
  have HFW : Hid (∀ W, Ext w W → Calls Tryd.prog 5 #[.slice a l.length cap, .int .i64 60] W fun e w' => e = .returned (.bool (fewB (opsL l) 60)) ∧ Ext W w') := fun W hW => few_any 60 _ l W S (HN.out.kept hW (fun _ _ h => h)) (by decide) hlm
  clear h
  rw [hf] at HFW
  clear hf
  generalize l.length = n at *
  go_enter Tryd.func3, Tryd.ntmps3
  go_wp2_with fail
  refine (HAW.out _).mono ?_
  rintro e w2 ⟨rfl, hw2⟩
  have HE2 := Lib.hid (hw2)
  clear hw2
  go_wp2_with fail
  refine (HFW.out _ HE2.out).mono ?_
  rintro e w3 ⟨rfl, hw3⟩
  have HE3 := Lib.hid (HE2.out.ext hw3)
  clear hw3
  go_wp2_with fail
  refine (HAW.out _).mono ?_
  rintro e w9 ⟨rfl, hw9⟩
  have HE9 := Lib.hid (HE3.out.ext hw9)
  clear hw9
  go_wp2_with fail
  go_ret
  exact ⟨rfl, HE9.out⟩
set_option maxHeartbeats 1000000 in
set_option maxRecDepth 100000 in
theorem texts_b (kind : Int) (v : Value) (l : List OpV) (w : World) (S : Nat → Prop) (h : OpsR S w v l) (hlm : l.length ≤ maxLen) (hf : fewB (opsL l) 60 = true) (hval : validL kind (opsL l) = false) : Calls Tryd.prog 3 #[.int .i64 kind, v] w fun e w' => e = .returned (.bool true) ∧ Ext w w' := by
  obtain ⟨a, cap, hvs⟩ := h.shape
  subst hvs
  have HN := Lib.hid h
  have HAW := Lib.hid (fun W : World => awake_any W)
  have HFW : Hid (∀ W, Ext w W → Calls Tryd.prog 5 #[.slice a l.length cap, .int .i64 60] W fun e w' => e = .returned (.bool (fewB (opsL l) 60)) ∧ Ext W w') := fun W hW => few_any 60 _ l W S (HN.out.kept hW (fun _ _ h => h)) (by decide) hlm
  have HA : Hid (∀ o ∈ l, o.op.args.length ≤ 100000000) := fewB_args hf
  have hlen : l.length ≤ 2005 := by have := fewB_len hf; omega
  have HRV : Hid (∀ W, Ext w W → Calls Tryd.prog 6 #[.int .i64 kind, .slice a l.length cap] W fun e w' => e = .returned (.bool (validL kind (opsL l))) ∧ Ext W w') := fun W hW => rvalid_any kind _ l W S (HN.out.kept hW (fun _ _ h => h)) (by omega) HA.out
  have HV : Hid (∀ W, Ext w W → Calls Tryd.prog 8 #[.int .i64 kind, .slice a l.length cap] W fun e w' => e = .returned (.bool (validL kind (opsL l))) ∧ Ext W w') := fun W hW => valid_any kind _ l W S (HN.out.kept hW (fun _ _ h => h)) (by omega) HA.out
  have HT : Hid (∀ W, Ext w W → Calls Tryd.prog 7 #[.int .i64 kind, .slice a l.length cap] W fun e w' => e = .returned (.tuple #[.string ⟨#[]⟩, .int .i64 1]) ∧ Ext W w') := fun W hW => wtext_bad kind _ l W S (HN.out.kept hW (fun _ _ h => h)) (by omega) HA.out hval
  clear h
  rw [hf] at HFW
  rw [hval] at HRV HV
  clear hf hval hlen
  generalize l.length = n at *
  go_enter Tryd.func3, Tryd.ntmps3
  go_wp2_with fail
  refine (HAW.out _).mono ?_
  rintro e w2 ⟨rfl, hw2⟩
  have HE2 := Lib.hid (hw2)
  clear hw2
  go_wp2_with fail
  refine (HFW.out _ HE2.out).mono ?_
  rintro e w3 ⟨rfl, hw3⟩
  have HE3 := Lib.hid (HE2.out.ext hw3)
  clear hw3
  go_wp2_with fail
  refine (HRV.out _ HE3.out).mono ?_
  rintro e w4 ⟨rfl, hw4⟩
  have HE4 := Lib.hid (HE3.out.ext hw4)
  clear hw4
  go_wp2_with fail
  refine (HT.out _ HE4.out).mono ?_
  rintro e w5 ⟨rfl, hw5⟩
  have HE5 := Lib.hid (HE4.out.ext hw5)
  clear hw5
  go_wp2_with fail
  refine (HV.out _ HE5.out).mono ?_
  rintro e w6 ⟨rfl, hw6⟩
  have HE6 := Lib.hid (HE5.out.ext hw6)
  clear hw6
  go_wp2_with fail
  go_ret
  exact ⟨rfl, HE6.out⟩
set_option maxHeartbeats 1000000 in
set_option maxRecDepth 100000 in
theorem texts_c (kind : Int) (v : Value) (l : List OpV) (w : World) (S : Nat → Prop) (h : OpsR S w v l) (hlm : l.length ≤ maxLen) (htab : Lib.TabIs Tryd.prog w "internal/strconv.uint64pow10" .u64 Lib.pow10Tab) (hf : fewB (opsL l) 60 = true) (hval : validL kind (opsL l) = true) : Calls Tryd.prog 3 #[.int .i64 kind, v] w fun e w' => e = .returned (.bool true) ∧ Ext w w' := by
  obtain ⟨a, cap, hvs⟩ := h.shape
  subst hvs
  have HN := Lib.hid h
  have HAW := Lib.hid (fun W : World => awake_any W)
  have HFW : Hid (∀ W, Ext w W → Calls Tryd.prog 5 #[.slice a l.length cap, .int .i64 60] W fun e w' => e = .returned (.bool (fewB (opsL l) 60)) ∧ Ext W w') := fun W hW => few_any 60 _ l W S (HN.out.kept hW (fun _ _ h => h)) (by decide) hlm
  have HA : Hid (∀ o ∈ l, o.op.args.length ≤ 100000000) := fewB_args hf
  have hlen : l.length ≤ 2005 := by have := fewB_len hf; omega
  have HRV : Hid (∀ W, Ext w W → Calls Tryd.prog 6 #[.int .i64 kind, .slice a l.length cap] W fun e w' => e = .returned (.bool (validL kind (opsL l))) ∧ Ext W w') := fun W hW => rvalid_any kind _ l W S (HN.out.kept hW (fun _ _ h => h)) (by omega) HA.out
  have HV : Hid (∀ W, Ext w W → Calls Tryd.prog 8 #[.int .i64 kind, .slice a l.length cap] W fun e w' => e = .returned (.bool (validL kind (opsL l))) ∧ Ext W w') := fun W hW => valid_any kind _ l W S (HN.out.kept hW (fun _ _ h => h)) (by omega) HA.out
  have hsl : (scT kind (opsL l)).length ≤ 65536 := by
    have h1 := fewB_len hf
    unfold validL at hval
    simp only [Bool.and_eq_true, decide_eq_true_eq] at hval
    rw [opsL_length] at hval
    have h2 := lnT_len2 hval.2
    have h3 := hdT_len kind
    rw [opsL_length] at h2
    unfold scT
    rw [List.length_append]
    omega
  obtain ⟨R, hR⟩ : ∃ R, bs (scT kind (opsL l)) = R := ⟨_, rfl⟩
  have HT : Hid (∀ W, Ext w W → Calls Tryd.prog 7 #[.int .i64 kind, .slice a l.length cap] W fun e w' => e = .returned (.tuple #[.string R, .int .i64 0]) ∧ Ext W w') := fun W hW => wtext_ok kind _ l W S (HN.out.kept hW (fun _ _ h => h)) (tab_ext htab hW) hval R 0 (Or.inl ⟨hR.symm, rfl, hsl⟩)
  have HRT : Hid (∀ W, Ext w W → Calls Tryd.prog 9 #[.int .i64 kind, .slice a l.length cap] W fun e w' => e = .returned (.string R) ∧ Ext W w') := fun W hW => by rw [← hR]; exact wrtext_ok kind _ l W S (HN.out.kept hW (fun _ _ h => h)) hval
  clear h hR hsl
  rw [hf] at HFW
  rw [hval] at HRV HV
  clear hf hval hlen
  generalize l.length = n at *
  go_enter Tryd.func3, Tryd.ntmps3
  go_wp2_with fail
  refine (HAW.out _).mono ?_
  rintro e w2 ⟨rfl, hw2⟩
  have HE2 := Lib.hid (hw2)
  clear hw2
  go_wp2_with fail
  refine (HFW.out _ HE2.out).mono ?_
  rintro e w3 ⟨rfl, hw3⟩
  have HE3 := Lib.hid (HE2.out.ext hw3)
  clear hw3
  go_wp2_with fail
  refine (HRV.out _ HE3.out).mono ?_
  rintro e w4 ⟨rfl, hw4⟩
  have HE4 := Lib.hid (HE3.out.ext hw4)
  clear hw4
  go_wp2_with fail
  refine (HT.out _ HE4.out).mono ?_
  rintro e w5 ⟨rfl, hw5⟩
  have HE5 := Lib.hid (HE4.out.ext hw5)
  clear hw5
  go_wp2_with fail
  refine (HV.out _ HE5.out).mono ?_
  rintro e w6 ⟨rfl, hw6⟩
  have HE6 := Lib.hid (HE5.out.ext hw6)
  clear hw6
  go_wp2_with fail
  refine (HRT.out _ HE6.out).mono ?_
  rintro e w7 ⟨rfl, hw7⟩
  have HE7 := Lib.hid (HE6.out.ext hw7)
  clear hw7
  go_wp2_with fail
  go_ret
  exact ⟨rfl, HE7.out⟩
theorem texts_law (kind : Int) (v : Value) (l : List OpV) (w : World) (S : Nat → Prop) (h : OpsR S w v l) (hlm : l.length ≤ maxLen) (htab : Lib.TabIs Tryd.prog w "internal/strconv.uint64pow10" .u64 Lib.pow10Tab) : Calls Tryd.prog 3 #[.int .i64 kind, v] w fun e w' => e = .returned (.bool true) ∧ Ext w w' := by
  cases hf : fewB (opsL l) 60 with
  | false => exact texts_a kind v l w S h hlm hf
  | true =>
    cases hval : validL kind (opsL l) with
    | false => exact texts_b kind v l w S h hlm hf hval
    | true => exact texts_c kind v l w S h hlm htab hf hval

end Go.Proofs.YthpekfpeoglbgaaDoor
