/- ref.Uneven. -/
import Derived.Test.YthpekfpeoglbgaaW23
namespace Go.Proofs.Ythpekfpeoglbgaa
open Go.RowKit Go.Hw
set_option linter.unusedVariables false
set_option linter.unusedSimpArgs false

set_option maxRecDepth 100000 in
set_option maxHeartbeats 4000000 in
/-- ref.Uneven -/
theorem runeven_any (S : Nat → Prop) (kind : Int) (v : Value) (l : List OpV) (w : World) (h : OpsR S w v l) (hl : l.length ≤ 100000000) :
    Calls Try.prog 23 #[.int .i64 kind, v] w fun e w' => e = .returned (.int .i64 (un (nW kind) (csL l))) ∧ Ext w w' := by
  obtain ⟨a, cap, hv⟩ := h.shape
  subst hv
  have HN := Lib.hid h
  clear h
  obtain ⟨K, hK⟩ : ∃ K, K = nW kind := ⟨_, rfl⟩
  have hK8 : K ≤ 8 := by rw [hK]; exact nW_le kind
  have HWD : Hid (∀ W, Calls Try.prog 34 #[.int .i64 kind] W fun e w' => ∃ a, e = .returned (.slice a K K) ∧ Ext W w') := fun W => by rw [hK]; exact rwords_any kind W
  rw [← hK]
  clear hK
  generalize hn : l.length = n at *
  have Hn := Lib.hid hn
  have Hcl : Hid ((csL l).length = n) := by show _ = _; rw [csL_length, hn]
  have hun : un K (csL l) = (n : Int) - mxc (csL l) K := by unfold un; rw [Hcl.out]
  rw [hun]
  have Hmb : Hid (∀ c, 0 ≤ mxc (csL l) c ∧ mxc (csL l) c ≤ n) := fun c => by have := mxc_bd (csL l) c; rw [Hcl.out] at this; exact this
  clear hn hun
  go_enter Try.func23, Try.ntmps23
  go_wp2_with fail
  go_loopg [5, 6, 7, 8] K (fun gk bv cv s7 s8 wr => ∃ c : Nat, bv = .int .i64 (mxc (csL l) c) ∧ cv = .int .i64 ((c : Int) + 1) ∧ gk = K - c ∧ c ≤ K ∧ Hid (Ext w wr))
  case atStart => exact ⟨0, rfl, rfl, rfl, Nat.zero_le _, Upd.refl _ _⟩
  case round =>
    obtain ⟨c, rfl, rfl, rfl, hc, HE⟩ := hrel
    have hmb := Hmb.out c
    generalize hMX : mxc (csL l) c = MX at *
    have HMX := Lib.hid hMX
    clear hMX
    by_cases hlt : c < K
    · have tt : decide ((c : Int) + 1 ≤ (K : Int)) = true := by simp; omega
      go_wp2_with fail
      refine (HWD.out _).mono ?_
      rintro e w2 ⟨wa, rfl, h2⟩
      have HE2 := Lib.hid (HE.out.ext h2)
      clear h2
      go_wp2_with fail
      go_loopg [7, 8] n (fun gk nv iv wr => ∃ i : Nat, nv = .int .i64 (cnt ((c : Int) + 1) ((csL l).take i)) ∧ iv = .int .i64 i ∧ gk = n - i ∧ i ≤ n ∧ Hid (Ext w wr))
      case atStart => exact ⟨0, rfl, rfl, rfl, Nat.zero_le _, HE2.out⟩
      case round =>
        obtain ⟨i, rfl, rfl, rfl, hi, HE3⟩ := hrel
        have hcb := cnt_bd ((c : Int) + 1) ((csL l).take i)
        have hcb2 : ((csL l).take i).length ≤ n := by rw [List.length_take]; omega
        by_cases hli : i < n
        · have hlx : i < l.length := by rw [Hn.out]; exact hli
          obtain ⟨g, off, cap', hv, hcc, hg, c0, c1, _⟩ := (HN.out.kept HE3.out (fun _ _ h => h)).at hlx
          rw [Hn.out] at hv
          injection hv with e1 e2 e3
          subst e1; subst e3
          rw [← csL_get l i hlx] at c0
          have hsn : cnt ((c : Int) + 1) ((csL l).take (i + 1)) = cnt ((c : Int) + 1) ((csL l).take i) + if (csL l).getD i 0 = (c : Int) + 1 then 1 else 0 := by
            have hic : i < (csL l).length := by rw [Hcl.out]; exact hli
            rw [List.take_succ_eq_append_getElem hic, cnt_snoc]
            simp [hic]
          have HSN := Lib.hid hsn
          clear hsn hg hcc e2 c1 hlx
          generalize (csL l).getD i 0 = X at *
          generalize hCN : cnt ((c : Int) + 1) ((csL l).take i) = CN at *
          clear hCN
          have s1 : (0 : Int) ≤ (i : Int) := by omega
          by_cases hx : X = (c : Int) + 1
          · have u : (X == (c : Int) + 1) = true := by simpa using hx
            have hs2 := HSN.out
            rw [if_pos hx] at hs2
            have HS2 := Lib.hid hs2
            clear hs2 hx
            go_wp2_with fail
            go_roundg (n - (i + 1))
            case measure => omega
            case rel => exact ⟨i + 1, by rw [HS2.out], by go_num, rfl, by omega, HE3.out⟩
          · have u : (X == (c : Int) + 1) = false := by simpa using hx
            have hs2 := HSN.out
            rw [if_neg hx] at hs2
            have HS2 := Lib.hid hs2
            clear hs2 hx
            go_wp2_with fail
            go_roundg (n - (i + 1))
            case measure => omega
            case rel => exact ⟨i + 1, by rw [HS2.out]; congr 1; omega, by go_num, rfl, by omega, HE3.out⟩
        · obtain rfl : i = n := by omega
          have htk : (csL l).take i = csL l := List.take_of_length_le (by rw [Hcl.out]; exact Nat.le_refl _)
          rw [htk] at hcb ⊢
          have HNX : Hid (mxc (csL l) (c + 1) = max MX (cnt ((c : Int) + 1) (csL l))) := by rw [← HMX.out]; exact rfl
          generalize hCN : cnt ((c : Int) + 1) (csL l) = CN at *
          clear hCN htk
          go_wp2_with (with_reducible (refine stop_at (o := ⟨some 33, _, _, _, _, _⟩) ?_))
          refine Stop.go ?_
          refine wpList_run rfl (v := .int .i64 (max MX CN)) (w' := wr) ?_ ?_
          · by_cases hm : MX < CN
            · have hmm : max MX CN = CN := by omega
              rw [hmm]
              have hm2 : MX ≤ CN := by omega
              go_simp
            · have hmm : max MX CN = MX := by omega
              rw [hmm]
              have hm2 : CN ≤ MX := by omega
              go_simp
          go_wp2_with fail
          go_roundg (K - (c + 1))
          case measure => omega
          case rel => exact ⟨c + 1, by rw [HNX.out], by go_num, rfl, by omega, HE3.out⟩
    · obtain rfl : c = K := by omega
      have tt : decide ((c : Int) + 1 ≤ (c : Int)) = false := by simp; omega
      go_wp2_with fail
      refine (HWD.out _).mono ?_
      rintro e w2 ⟨wa, rfl, h2⟩
      have HE2 := Lib.hid (HE.out.ext h2)
      clear h2
      go_wp2_with fail
      go_ret
      exact ⟨by first | rfl | (rw [HMX.out]; rfl) | (rw [← HMX.out]; rfl), HE2.out⟩

end Go.Proofs.Ythpekfpeoglbgaa
