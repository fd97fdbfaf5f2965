/- heartwoodref51.Text. -/
import Derived.Test.YthpekfpeoglbgaaDoorT6
namespace Go.Proofs.YthpekfpeoglbgaaDoor
open Go.RowKit Go.Hw
set_option linter.unusedVariables false
set_option linter.unusedSimpArgs false

set_option maxRecDepth 100000 in
theorem wrtext_ok (kind : Int) (v : Value) (l : List OpV) (w : World) (S : Nat → Prop) (h : OpsR S w v l) (hv : validL kind (opsL l) = true) : Calls Tryd.prog 9 #[.int .i64 kind, v] w fun e w' => e = .returned (.string (bs (scT kind (opsL l)))) ∧ Ext w w' := by
  obtain ⟨a, cap, hvs⟩ := h.shape
  unfold validL at hv
  simp only [Bool.and_eq_true, decide_eq_true_eq] at hv
  obtain ⟨⟨hkn, hll⟩, hall⟩ := hv
  rw [opsL_length] at hll
  have hkk : 1 ≤ kind ∧ kind ≤ 6 := by unfold knownB at hkn; exact of_decide_eq_true hkn
  have HN := Lib.hid h
  have CT : Hid (∀ (j : Nat) (W : World), j < l.length → Ext w W → Calls Tryd.prog 28 #[.int .i64 kind, .agg #[.int .i64 (l.getD j .zero).op.code, (l.getD j .zero).v]] W fun e w' => e = .returned (.string (bs (opT kind (l.getD j .zero).op))) ∧ Ext W w') := fun j W hj hW =>
    rtext_ok kind _ _ W S ((h.arg _ (getD_mem hj)).kept hW (fun _ _ h => h)) (opV_valid hall hj)
  have HLN := Lib.hid (fun j => lnT_tlen hall j)
  have HOL := Lib.hid (fun (j : Nat) (hj : j < l.length) => opT_len (opV_valid hall hj))
  have hhd := hdT_len kind
  rw [opsL_length] at HLN
  obtain ⟨KW, hKW⟩ : ∃ KW, bs (kWd kind) = KW := ⟨_, rfl⟩
  have CK : Hid (∀ W : World, Calls Tryd.prog 27 #[.int .i64 kind] W fun e w' => e = .returned (.string KW) ∧ Ext W w') := fun W => by rw [← hKW]; exact rword_any kind W hkk
  have hKs : KW.size ≤ 5 := by rw [← hKW, bs_size]; exact kWd_len kind
  obtain ⟨R1, hR1⟩ : ∃ R, (⟨#[115, 99, 114, 105, 112, 116, 32]⟩ : ByteArray) ++ KW = R := ⟨_, rfl⟩
  obtain ⟨R2, hR2⟩ : ∃ R, R1 ++ (⟨#[10]⟩ : ByteArray) = R := ⟨_, rfl⟩
  have HR : Hid (R2 = bs (hdT kind)) := Lib.hid (by
    rw [← hR2, ← hR1, ← hKW]
    unfold hdT
    rw [← bs_app, ← bs_app]
    rfl)
  have hR1s : R1.size = 7 + KW.size := by rw [← hR1, ByteArray.size_append]; rfl
  have s1 : ¬ (9223372036854775807 < 7 + KW.size) := by omega
  have s2 : ¬ (9223372036854775807 < R1.size + 1) := by omega
  have HQ1 := Lib.hid hR1
  have HQ2 := Lib.hid hR2
  obtain ⟨RR, hRR⟩ : ∃ RR, bs (scT kind (opsL l)) = RR := ⟨_, rfl⟩
  rw [hRR]
  have HRR := Lib.hid hRR
  clear hR1 hR2 hKW hkn hall h hkk hRR
  subst hvs
  go_enter Tryd.func9, Tryd.ntmps9
  go_wp2_with fail
  refine (CK.out _).mono ?_
  rintro e w6 ⟨rfl, h6⟩
  have HE6 := Lib.hid h6
  clear h6
  have q1 := HQ1.out
  have q2 := HQ2.out
  go_wp2_with fail
  clear q1 q2
  rw [HR.out]
  go_loopg [5, 6] l.length (fun gk s i wr => ∃ j : Nat, i = .int .i64 j ∧ s = .string (bs (hdT kind ++ lnT kind ((opsL l).take j))) ∧ gk = l.length - j ∧ j ≤ l.length ∧ Hid (Ext w wr))
  case atStart => exact ⟨0, rfl, by simp [lnT], rfl, Nat.zero_le _, HE6⟩
  case round =>
    obtain ⟨j, rfl, rfl, rfl, hj, HE⟩ := hrel
    have hl1 := HLN.out j
    by_cases hlt : j < l.length
    · obtain ⟨g, off, cap', hv, hc, hg, c0, c1, hargs⟩ := (HN.out.kept HE.out (fun _ _ h => h)).at hlt
      injection hv with e1 e2 e3
      subst e1; subst e3
      obtain ⟨a2, cap2, hv2⟩ := hargs.shape
      have HC2 := Lib.hid (fun W (hW : Ext wr W) => CT.out j W hlt (HE.out.ext hW))
      have hol := HOL.out j hlt
      have i0' : (0 : Int) ≤ (j : Int) := by omega
      have i1' : (j : Int) < (l.length : Int) := by omega
      have HT := Lib.hid (lnT_take kind l j hlt)
      rw [hv2] at c1 HC2
      clear hg e2 hc hv2 hargs
      have hos := bs_size (opT kind (l.getD j .zero).op)
      have hka := bs_size (hdT kind ++ lnT kind ((opsL l).take j))
      rw [List.length_append] at hka
      obtain ⟨R4, hR4⟩ : ∃ R, bs (hdT kind ++ lnT kind ((opsL l).take j)) ++ bs (opT kind (l.getD j .zero).op) = R := ⟨_, rfl⟩
      obtain ⟨R5, hR5⟩ : ∃ R, R4 ++ (⟨#[10]⟩ : ByteArray) = R := ⟨_, rfl⟩
      have HR5 : Hid (R5 = bs (hdT kind ++ lnT kind ((opsL l).take (j + 1)))) := Lib.hid (by
        rw [HT.out, ← hR5, ← hR4]
        have : (⟨#[10]⟩ : ByteArray) = bs [10] := rfl
        rw [this, bs_app, bs_app]
        refine congrArg bs ?_
        simp)
      have h4s : R4.size = (bs (hdT kind ++ lnT kind ((opsL l).take j))).size + (bs (opT kind (l.getD j .zero).op)).size := by rw [← hR4, ByteArray.size_append]
      have HQ4 := Lib.hid hR4
      have HQ5 := Lib.hid hR5
      clear hR5 hR4 HT
      generalize opT kind (l.getD j .zero).op = X at *
      generalize (l.getD j .zero).op.code = XC at *
      generalize (l.getD j .zero).op.args.length = Y at *
      generalize bs (hdT kind ++ lnT kind ((opsL l).take j)) = A at *
      have s3 : ¬ (9223372036854775807 < A.size + (bs X).size) := by omega
      have s4 : ¬ (9223372036854775807 < R4.size + 1) := by omega
      go_wp2_with fail
      refine (HC2.out _ (Upd.refl _ _)).mono ?_
      rintro e w8 ⟨rfl, h8⟩
      have HE8 := Lib.hid (HE.out.ext h8)
      clear h8 c0 c1
      have q4 := HQ4.out
      have q5 := HQ5.out
      go_wp2_with fail
      clear q4 q5
      have hRR := HR5.out
      subst hRR
      go_roundg (l.length - (j + 1))
      case measure => omega
      case rel => exact ⟨j + 1, by go_num, rfl, rfl, by omega, HE8⟩
    · obtain rfl : j = l.length := by omega
      have e1 : bs (hdT kind ++ lnT kind ((opsL l).take l.length)) = RR := by rw [← opsL_length l, List.take_length]; exact HRR.out
      rw [e1]
      clear e1
      go_wp2_with fail
      go_ret
      exact ⟨rfl, HE.out⟩

end Go.Proofs.YthpekfpeoglbgaaDoor
