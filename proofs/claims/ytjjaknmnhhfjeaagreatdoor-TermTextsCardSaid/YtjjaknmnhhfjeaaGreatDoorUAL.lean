/- The texts Y36 ShelfA Y34 Y40 Y41 Y19 Y20, one behind the other. -/
import Derived.Test.YtjjaknmnhhfjeaaGreatDoorUAK
import Derived.Test.YtjjaknmnhhfjeaaGreatDoorUAE
import Derived.Shelf.LaysC
import Derived.Shelf.Strconv.AtoiAll
import Derived.Shelf.Strconv.ErrVarAll
import Derived.Lib.AppendStr
import Derived.Test.YtjjaknmnhhfjeaaGreatDoorUAJ
/- integer and Number. -/
namespace Go.Proofs.YtjjaknmnhhfjeaaGreatDoor
open Go.RowKit Go.Hw Go Go.Sort Go.Proofs Go.ChangeMaps
set_option linter.unusedVariables false
set_option linter.unusedSimpArgs false

open Tm
theorem cls_dig (c : Nat) : digN c = decide (clsN c = 3) := by
  unfold clsN
  by_cases h1 : c = 32 ∨ c = 9 ∨ c = 13 ∨ c = 10
  · rw [if_pos h1]
    rcases h1 with rfl | rfl | rfl | rfl <;> rfl
  · rw [if_neg h1]
    cases h2 : ltrN c with
    | true =>
      have h3 : digN c = false := by
        unfold ltrN at h2
        unfold digN
        simp only [Bool.or_eq_true, Bool.and_eq_true, decide_eq_true_eq] at h2
        rw [Bool.and_eq_false_iff, decide_eq_false_iff_not, decide_eq_false_iff_not]
        omega
      rw [h3]; rfl
    | false =>
      cases digN c with
      | true => rfl
      | false => by_cases h : c = 95 <;> simp [h]
def AtoiD (w : World) : Prop := ∀ (t : By) (W : World), Ext w W → t.data.toList ≠ [] → t.data.toList.all digB = true → t.size ≤ 1000000 → (∃ v : Int, Lib.atoiAll t.data.toList = .ok v ∧ Calls Tryz.prog 150 #[.string t] W fun e W' => e = .returned (.tuple #[.int .i64 v, .nilIface]) ∧ Ext W W') ∨
  (Lib.atoiAll t.data.toList = .range ∧ Calls Tryz.prog 150 #[.string t] W fun e W' => ∃ te q, e = .returned (.tuple #[.int .i64 9223372036854775807, .iface te (.pointer (some q))]) ∧ Ext W W')
theorem AtoiD.ext {w w' : World} (h : AtoiD w) (hw : Ext w w') : AtoiD w' := fun t W hW => h t W (hw.trans hW)
set_option maxRecDepth 100000 in
set_option maxHeartbeats 2000000 in
theorem integer_x (s : By) (w : World) (hA : AtoiD w) (hs : s.size ≤ 1000000) : Calls Tryz.prog 124 #[.string s] w fun e w' => e = .returned (.tuple #[.int .i64 (iP s).1, .bool (iP s).2]) ∧ Ext w w' := by
  have HA := Lib.hid hA
  obtain ⟨R, hR⟩ : ∃ R, iP s = R := ⟨_, rfl⟩
  rw [hR]
  have HR := Lib.hid hR
  clear hA hR
  by_cases h0 : 0 < s.size
  · obtain ⟨z1, z2, z3, z4⟩ := nonempty_t s h0
    by_cases h1 : 1 < s.size
    · have t1 : (1 : Int) < (s.size : Int) := by omega
      have t1' : decide ((1 : Int) < (s.size : Int)) = true := decide_eq_true t1
      have t1'' : decide (1 < s.size) = true := decide_eq_true h1
      obtain ⟨c, hc⟩ : ∃ c : Nat, (s[0]'h0).toNat = c := ⟨_, rfl⟩
      have hc255 : c ≤ 255 := by rw [← hc]; have := (s[0]'h0).toNat_lt; omega
      have hb0 : byt s 0 = c := by unfold byt; rw [at_list s 0 h0]; exact hc
      by_cases h48 : c = 48
      · have HV : Hid (R = (0, false)) := Lib.hid (by rw [← HR.out]; unfold iP; rw [if_pos (.inr ⟨h1, by rw [hb0]; exact h48⟩)])
        have e48 : (c : Int) = 48 := by omega
        have e48' : ((c : Int) == 48) = true := beq_iff_eq.2 e48
        clear hb0 h48 hc255
        go_enter Tryz.func124, Tryz.ntmps124
        go_wp2_with fail
        refine bodyPost_ret (v := .tuple #[.int .i64 0, .bool false]) (by simp [results, Tryz.results124, go_sem]) rfl ?_
        rw [HV.out]
        exact ⟨rfl, Upd.refl _ _⟩
      have HH : Hid (¬ hdI s) := Lib.hid (fun h => h.elim (fun h => by omega) (fun h => h48 (by rw [← hb0]; exact h.2)))
      have e48 : ¬ (c : Int) = 48 := by omega
      have e48' : ((c : Int) == 48) = false := beq_eq_false_iff_ne.2 e48
      clear hb0 h48 hc255
      go_enter Tryz.func124, Tryz.ntmps124
      go_wp2_with fail
      clear e48 e48' hc t1 t1' t1'' h1 z1 z2 z3 z4
      go_loopg [4, 21] s.size (fun gk _ i wr => ∃ j : Nat, i = .int .i64 (j : Int) ∧ gk = s.size - j ∧ j ≤ s.size ∧ Hid ((s.data.toList.take j).all digB = true) ∧ wr = w)
      case atStart => exact ⟨0, rfl, rfl, Nat.zero_le _, rfl, rfl⟩
      case round =>
        obtain ⟨j, rfl, rfl, hj, Hj, rfl⟩ := hrel
        by_cases hlt : j < s.size
        · obtain ⟨d, hd⟩ : ∃ d : Nat, (s[j]'hlt).toNat = d := ⟨_, rfl⟩
          have hd255 : d ≤ 255 := by rw [← hd]; have := (s[j]'hlt).toNat_lt; omega
          have CD := Lib.hid (class_x d wr hd255)
          have hw := cls_dig d
          have i0' : (0 : Int) ≤ (j : Int) := by omega
          have i1' : (j : Int) < (s.size : Int) := by omega
          cases hx : digN d with
          | true =>
            rw [hx] at hw
            have hw2 := of_decide_eq_true hw.symm
            have HJ2 : Hid ((s.data.toList.take (j + 1)).all digB = true) := by
              show _ = _
              rw [all_take s j hlt, Hj.out]; show digN _ = true; rw [hd]; exact hx
            clear hx hw Hj
            rw [hw2] at CD
            go_wp2_with fail
            refine CD.out.mono ?_
            rintro e w' ⟨rfl, rfl⟩
            go_wp2_with fail
            go_roundg (s.size - (j + 1))
            case measure => omega
            case rel => exact ⟨j + 1, by go_num, rfl, by omega, HJ2, rfl⟩
          | false =>
            rw [hx] at hw
            have hw2 := of_decide_eq_false hw.symm
            have HV : Hid (R = (0, false)) := Lib.hid (by rw [← HR.out]; unfold iP; rw [if_neg HH.out, if_pos (all_stop s j hlt _ (by show digN _ = false; rw [hd]; exact hx))])
            have t3 : (((clsN d : Nat) : Int) == 3) = false := beq_eq_false_iff_ne.2 (by omega)
            have t3' : (((clsN d : Nat) : Int) != 3) = true := bne_iff_ne.2 (by omega)
            clear hx hw hw2 Hj HR
            generalize ((clsN d : Nat) : Int) = Y at *
            go_wp2_with fail
            refine CD.out.mono ?_
            rintro e w' ⟨rfl, rfl⟩
            go_wp2_with fail
            refine bodyPost_ret (v := .tuple #[.int .i64 0, .bool false]) (by simp [results, Tryz.results124, go_sem]) rfl ?_
            rw [HV.out]
            exact ⟨rfl, Upd.refl _ _⟩
        · have HALL : s.data.toList.all digB = true := by
            rw [← Hj.out, List.take_of_length_le (by show s.size ≤ j; omega)]
          have HNE : s.data.toList ≠ [] := fun e => by have : s.data.toList.length = s.size := rfl; rw [e] at this; simp at this; omega
          have HV0 : R = atE (Lib.atoiAll s.data.toList) := by
            rw [← HR.out]; unfold iP; rw [if_neg HH.out, if_neg (by rw [HALL]; decide)]
          rcases HA.out s wr (Upd.refl _ _) HNE HALL (by omega) with ⟨v, hv, hcall⟩ | ⟨hv, hcall⟩
          · have HV : Hid (R = (v, decide (v ≤ 1099511627776))) := Lib.hid (by rw [HV0, hv]; rfl)
            have HC := Lib.hid hcall
            obtain ⟨bb, hbb⟩ : ∃ b, decide (v ≤ (1099511627776 : Int)) = b := ⟨_, rfl⟩
            rw [hbb] at HV
            clear Hj HR HV0 hv hcall HALL HNE
            go_wp2_with fail
            refine HC.out.mono ?_
            rintro e w' ⟨rfl, hw'⟩
            have HW := Lib.hid hw'
            clear hw'
            go_wp2_with fail
            refine bodyPost_ret (v := .tuple #[.int .i64 v, .bool bb]) (by simp [results, Tryz.results124, go_sem]) rfl ?_
            rw [HV.out]
            exact ⟨rfl, HW.out⟩
          · have HV : Hid (R = (9223372036854775807, false)) := Lib.hid (by rw [HV0, hv]; rfl)
            have HC := Lib.hid hcall
            clear Hj HR HV0 hv hcall HALL HNE
            go_wp2_with fail
            refine HC.out.mono ?_
            rintro e w' ⟨te, q, rfl, hw'⟩
            have HW := Lib.hid hw'
            clear hw'
            go_wp2_with fail
            refine bodyPost_ret (v := .tuple #[.int .i64 9223372036854775807, .bool false]) (by simp [results, Tryz.results124, go_sem]) rfl ?_
            rw [HV.out]
            exact ⟨rfl, HW.out⟩
    · have t1 : ¬ (1 : Int) < (s.size : Int) := by omega
      have t1' : decide ((1 : Int) < (s.size : Int)) = false := decide_eq_false t1
      have t1'' : decide (1 < s.size) = false := decide_eq_false h1
      have HH : Hid (¬ hdI s) := Lib.hid (fun h => h.elim (fun h => by omega) (fun h => h1 h.1))
      go_enter Tryz.func124, Tryz.ntmps124
      go_wp2_with fail
      clear t1 t1' t1'' h1 z1 z2 z3 z4
      go_loopg [4, 21] s.size (fun gk _ i wr => ∃ j : Nat, i = .int .i64 (j : Int) ∧ gk = s.size - j ∧ j ≤ s.size ∧ Hid ((s.data.toList.take j).all digB = true) ∧ wr = w)
      case atStart => exact ⟨0, rfl, rfl, Nat.zero_le _, rfl, rfl⟩
      case round =>
        obtain ⟨j, rfl, rfl, hj, Hj, rfl⟩ := hrel
        by_cases hlt : j < s.size
        · obtain ⟨d, hd⟩ : ∃ d : Nat, (s[j]'hlt).toNat = d := ⟨_, rfl⟩
          have hd255 : d ≤ 255 := by rw [← hd]; have := (s[j]'hlt).toNat_lt; omega
          have CD := Lib.hid (class_x d wr hd255)
          have hw := cls_dig d
          have i0' : (0 : Int) ≤ (j : Int) := by omega
          have i1' : (j : Int) < (s.size : Int) := by omega
          cases hx : digN d with
          | true =>
            rw [hx] at hw
            have hw2 := of_decide_eq_true hw.symm
            have HJ2 : Hid ((s.data.toList.take (j + 1)).all digB = true) := by
              show _ = _
              rw [all_take s j hlt, Hj.out]; show digN _ = true; rw [hd]; exact hx
            clear hx hw Hj
            rw [hw2] at CD
            go_wp2_with fail
            refine CD.out.mono ?_
            rintro e w' ⟨rfl, rfl⟩
            go_wp2_with fail
            go_roundg (s.size - (j + 1))
            case measure => omega
            case rel => exact ⟨j + 1, by go_num, rfl, by omega, HJ2, rfl⟩
          | false =>
            rw [hx] at hw
            have hw2 := of_decide_eq_false hw.symm
            have HV : Hid (R = (0, false)) := Lib.hid (by rw [← HR.out]; unfold iP; rw [if_neg HH.out, if_pos (all_stop s j hlt _ (by show digN _ = false; rw [hd]; exact hx))])
            have t3 : (((clsN d : Nat) : Int) == 3) = false := beq_eq_false_iff_ne.2 (by omega)
            have t3' : (((clsN d : Nat) : Int) != 3) = true := bne_iff_ne.2 (by omega)
            clear hx hw hw2 Hj HR
            generalize ((clsN d : Nat) : Int) = Y at *
            go_wp2_with fail
            refine CD.out.mono ?_
            rintro e w' ⟨rfl, rfl⟩
            go_wp2_with fail
            refine bodyPost_ret (v := .tuple #[.int .i64 0, .bool false]) (by simp [results, Tryz.results124, go_sem]) rfl ?_
            rw [HV.out]
            exact ⟨rfl, Upd.refl _ _⟩
        · have HALL : s.data.toList.all digB = true := by
            rw [← Hj.out, List.take_of_length_le (by show s.size ≤ j; omega)]
          have HNE : s.data.toList ≠ [] := fun e => by have : s.data.toList.length = s.size := rfl; rw [e] at this; simp at this; omega
          have HV0 : R = atE (Lib.atoiAll s.data.toList) := by
            rw [← HR.out]; unfold iP; rw [if_neg HH.out, if_neg (by rw [HALL]; decide)]
          rcases HA.out s wr (Upd.refl _ _) HNE HALL (by omega) with ⟨v, hv, hcall⟩ | ⟨hv, hcall⟩
          · have HV : Hid (R = (v, decide (v ≤ 1099511627776))) := Lib.hid (by rw [HV0, hv]; rfl)
            have HC := Lib.hid hcall
            obtain ⟨bb, hbb⟩ : ∃ b, decide (v ≤ (1099511627776 : Int)) = b := ⟨_, rfl⟩
            rw [hbb] at HV
            clear Hj HR HV0 hv hcall HALL HNE
            go_wp2_with fail
            refine HC.out.mono ?_
            rintro e w' ⟨rfl, hw'⟩
            have HW := Lib.hid hw'
            clear hw'
            go_wp2_with fail
            refine bodyPost_ret (v := .tuple #[.int .i64 v, .bool bb]) (by simp [results, Tryz.results124, go_sem]) rfl ?_
            rw [HV.out]
            exact ⟨rfl, HW.out⟩
          · have HV : Hid (R = (9223372036854775807, false)) := Lib.hid (by rw [HV0, hv]; rfl)
            have HC := Lib.hid hcall
            clear Hj HR HV0 hv hcall HALL HNE
            go_wp2_with fail
            refine HC.out.mono ?_
            rintro e w' ⟨te, q, rfl, hw'⟩
            have HW := Lib.hid hw'
            clear hw'
            go_wp2_with fail
            refine bodyPost_ret (v := .tuple #[.int .i64 9223372036854775807, .bool false]) (by simp [results, Tryz.results124, go_sem]) rfl ?_
            rw [HV.out]
            exact ⟨rfl, HW.out⟩
  · have HV : Hid (R = (0, false)) := Lib.hid (by rw [← HR.out]; unfold iP; rw [if_pos (.inl (by omega))])
    obtain rfl := empty_is s (by omega)
    go_enter Tryz.func124, Tryz.ntmps124
    go_wp2_with fail
    refine bodyPost_ret (v := .tuple #[.int .i64 0, .bool false]) (by simp [results, Tryz.results124, go_sem]) rfl ?_
    rw [HV.out]
    exact ⟨rfl, Upd.refl _ _⟩
set_option maxRecDepth 100000 in
set_option maxHeartbeats 2000000 in
theorem number_x (s : By) (w : World) (hs : s.size ≤ 1000000) : Calls Tryz.prog 128 #[.string s] w fun e w' => e = .returned (.tuple #[.int .i64 (iR s).1, .bool (iR s).2]) ∧ Ext w w' := by
  obtain ⟨R, hR⟩ : ∃ R, iR s = R := ⟨_, rfl⟩
  rw [hR]
  have HR := Lib.hid hR
  clear hR
  by_cases h0 : 0 < s.size
  · have g1 : ((s.size : Int) == 0) = false := beq_eq_false_iff_ne.2 (by omega)
    have g2 : ¬ (s.size = 0) := by omega
    have g3 : (s.size == 0) = false := beq_eq_false_iff_ne.2 g2
    by_cases h1 : 1 < s.size
    · have t1 : (1 : Int) < (s.size : Int) := by omega
      have t1' : decide ((1 : Int) < (s.size : Int)) = true := decide_eq_true t1
      have t1'' : decide (1 < s.size) = true := decide_eq_true h1
      obtain ⟨c, hc⟩ : ∃ c : Nat, (s[0]'h0).toNat = c := ⟨_, rfl⟩
      have hc255 : c ≤ 255 := by rw [← hc]; have := (s[0]'h0).toNat_lt; omega
      have hb0 : byt s 0 = c := by unfold byt; rw [at_list s 0 h0]; exact hc
      by_cases h48 : c = 48
      · have HV : Hid (R = (0, false)) := Lib.hid (by rw [← HR.out]; unfold iR; rw [if_pos (.inr ⟨h1, by rw [hb0]; exact h48⟩)])
        have e48 : (c : Int) = 48 := by omega
        have e48' : ((c : Int) == 48) = true := beq_iff_eq.2 e48
        clear hb0 h48 hc255
        go_enter Tryz.func128, Tryz.ntmps128
        go_wp2_with fail
        refine bodyPost_ret (v := .tuple #[.int .i64 0, .bool false]) (by simp [results, Tryz.results128, go_sem]) rfl ?_
        rw [HV.out]
        exact ⟨rfl, Upd.refl _ _⟩
      have HH : Hid (¬ hdI s) := Lib.hid (fun h => h.elim (fun h => by omega) (fun h => h48 (by rw [← hb0]; exact h.2)))
      have e48 : ¬ (c : Int) = 48 := by omega
      have e48' : ((c : Int) == 48) = false := beq_eq_false_iff_ne.2 e48
      clear hb0 h48 hc255
      go_enter Tryz.func128, Tryz.ntmps128
      go_wp2_with fail
      clear e48 e48' hc t1 t1' t1'' h1 g1 g2 g3
      go_loopg [4, 5] s.size (fun gk x i wr => ∃ j : Nat, x = .int .i64 (valD (s.data.toList.take j) 0 : Nat) ∧ i = .int .i64 (j : Int) ∧ gk = s.size - j ∧ j ≤ s.size ∧ valD (s.data.toList.take j) 0 ≤ 1099511627776 ∧ Hid ((s.data.toList.take j).all digB = true) ∧ wr = w)
      case atStart => exact ⟨0, rfl, rfl, rfl, Nat.zero_le _, by show 0 ≤ _; omega, rfl, rfl⟩
      case round =>
        obtain ⟨j, rfl, rfl, rfl, hj, hmx, Hj, rfl⟩ := hrel
        by_cases hlt : j < s.size
        · obtain ⟨d, hd⟩ : ∃ d : Nat, (s[j]'hlt).toNat = d := ⟨_, rfl⟩
          have hd255 : d ≤ 255 := by rw [← hd]; have := (s[j]'hlt).toNat_lt; omega
          have CD := Lib.hid (digit_x d wr hd255)
          have i0' : (0 : Int) ≤ (j : Int) := by omega
          have i1' : (j : Int) < (s.size : Int) := by omega
          cases hx : digN d with
          | true =>
            rw [hx] at CD
            have HJ2 : Hid ((s.data.toList.take (j + 1)).all digB = true) := by
              show _ = _
              rw [all_take s j hlt, Hj.out]; show digN _ = true; rw [hd]; exact hx
            have hdd : 48 ≤ d ∧ d ≤ 57 := by
              unfold digN at hx
              rw [Bool.and_eq_true, decide_eq_true_eq, decide_eq_true_eq] at hx
              exact hx
            have hval : valD (s.data.toList.take (j + 1)) 0 = valD (s.data.toList.take j) 0 * 10 + (d - 48) := by
              rw [List.take_succ_eq_append_getElem (by exact hlt), valD_snoc]
              have : (s.data.toList[j]'hlt).toNat = d := hd
              rw [this]
            obtain ⟨V, hV⟩ : ∃ V, valD (s.data.toList.take j) 0 = V := ⟨_, rfl⟩
            rw [hV] at hmx hval
            rw [hV]
            have u0 : IntKind.u8.wrap ((d : Int) - 48) = (d : Int) - 48 := IntWalk.u8_in _ (by omega)
            have u1 : IntKind.i64.wrap ((d : Int) - 48) = (d : Int) - 48 := IntWalk.i64_in _ (by omega)
            have u2 : IntKind.i64.wrap ((V : Int) * 10) = (V : Int) * 10 := IntWalk.i64_in _ (by omega)
            have u3 : IntKind.i64.wrap ((V : Int) * 10 + ((d : Int) - 48)) = (V : Int) * 10 + ((d : Int) - 48) := IntWalk.i64_in _ (by omega)
            have HVN := Lib.hid hval
            clear hx Hj hV hval
            by_cases hgt : 1099511627776 < V * 10 + (d - 48)
            · have HV : Hid (R = (0, false)) := Lib.hid (by
                rw [← HR.out]; unfold iR; rw [if_neg HH.out]
                split
                · rfl
                · rw [if_neg]
                  have h2 : valD s.data.toList 0 = valD (s.data.toList.drop (j + 1)) (valD (s.data.toList.take (j + 1)) 0) := by
                    unfold valD
                    rw [← List.foldl_append, List.take_append_drop]
                  have h3 := valD_ge (s.data.toList.drop (j + 1)) (valD (s.data.toList.take (j + 1)) 0)
                  rw [h2]
                  have := HVN.out
                  omega)
              have t5 : decide ((1099511627776 : Int) < (V : Int) * 10 + ((d : Int) - 48)) = true := decide_eq_true (by omega)
              go_wp2_with fail
              refine CD.out.mono ?_
              rintro e w' ⟨rfl, rfl⟩
              go_wp2_with fail
              refine bodyPost_ret (v := .tuple #[.int .i64 0, .bool false]) (by simp [results, Tryz.results128, go_sem]) rfl ?_
              rw [HV.out]
              exact ⟨rfl, Upd.refl _ _⟩
            · have t5 : decide ((1099511627776 : Int) < (V : Int) * 10 + ((d : Int) - 48)) = false := decide_eq_false (by omega)
              go_wp2_with fail
              refine CD.out.mono ?_
              rintro e w' ⟨rfl, rfl⟩
              go_wp2_with fail
              go_roundg (s.size - (j + 1))
              case measure => omega
              case rel => exact ⟨j + 1, by rw [HVN.out]; congr 1; omega, by go_num, rfl, by omega, by rw [HVN.out]; omega, HJ2, rfl⟩
          | false =>
            rw [hx] at CD
            have HV : Hid (R = (0, false)) := Lib.hid (by rw [← HR.out]; unfold iR; rw [if_neg HH.out, if_pos (all_stop s j hlt _ (by show digN _ = false; rw [hd]; exact hx))])
            clear hx Hj HR
            go_wp2_with fail
            refine CD.out.mono ?_
            rintro e w' ⟨rfl, rfl⟩
            go_wp2_with fail
            refine bodyPost_ret (v := .tuple #[.int .i64 0, .bool false]) (by simp [results, Tryz.results128, go_sem]) rfl ?_
            rw [HV.out]
            exact ⟨rfl, Upd.refl _ _⟩
        · have htk : s.data.toList.take j = s.data.toList := List.take_of_length_le (by show s.size ≤ j; omega)
          rw [htk] at hmx Hj
          rw [htk]
          have HV : Hid (R = (((valD s.data.toList 0 : Nat) : Int), true)) := Lib.hid (by
            rw [← HR.out]; unfold iR; rw [if_neg HH.out, if_neg (by rw [Hj.out]; decide), if_pos hmx])
          clear Hj HR hmx htk
          go_wp2_with fail
          refine bodyPost_ret (v := .tuple #[.int .i64 ((valD s.data.toList 0 : Nat)), .bool true]) (by simp [results, Tryz.results128, go_sem]) rfl ?_
          rw [HV.out]
          exact ⟨rfl, Upd.refl _ _⟩
    · have t1 : ¬ (1 : Int) < (s.size : Int) := by omega
      have t1' : decide ((1 : Int) < (s.size : Int)) = false := decide_eq_false t1
      have t1'' : decide (1 < s.size) = false := decide_eq_false h1
      have HH : Hid (¬ hdI s) := Lib.hid (fun h => h.elim (fun h => by omega) (fun h => h1 h.1))
      go_enter Tryz.func128, Tryz.ntmps128
      go_wp2_with fail
      clear t1 t1' t1'' h1 g1 g2 g3
      go_loopg [4, 5] s.size (fun gk x i wr => ∃ j : Nat, x = .int .i64 (valD (s.data.toList.take j) 0 : Nat) ∧ i = .int .i64 (j : Int) ∧ gk = s.size - j ∧ j ≤ s.size ∧ valD (s.data.toList.take j) 0 ≤ 1099511627776 ∧ Hid ((s.data.toList.take j).all digB = true) ∧ wr = w)
      case atStart => exact ⟨0, rfl, rfl, rfl, Nat.zero_le _, by show 0 ≤ _; omega, rfl, rfl⟩
      case round =>
        obtain ⟨j, rfl, rfl, rfl, hj, hmx, Hj, rfl⟩ := hrel
        by_cases hlt : j < s.size
        · obtain ⟨d, hd⟩ : ∃ d : Nat, (s[j]'hlt).toNat = d := ⟨_, rfl⟩
          have hd255 : d ≤ 255 := by rw [← hd]; have := (s[j]'hlt).toNat_lt; omega
          have CD := Lib.hid (digit_x d wr hd255)
          have i0' : (0 : Int) ≤ (j : Int) := by omega
          have i1' : (j : Int) < (s.size : Int) := by omega
          cases hx : digN d with
          | true =>
            rw [hx] at CD
            have HJ2 : Hid ((s.data.toList.take (j + 1)).all digB = true) := by
              show _ = _
              rw [all_take s j hlt, Hj.out]; show digN _ = true; rw [hd]; exact hx
            have hdd : 48 ≤ d ∧ d ≤ 57 := by
              unfold digN at hx
              rw [Bool.and_eq_true, decide_eq_true_eq, decide_eq_true_eq] at hx
              exact hx
            have hval : valD (s.data.toList.take (j + 1)) 0 = valD (s.data.toList.take j) 0 * 10 + (d - 48) := by
              rw [List.take_succ_eq_append_getElem (by exact hlt), valD_snoc]
              have : (s.data.toList[j]'hlt).toNat = d := hd
              rw [this]
            obtain ⟨V, hV⟩ : ∃ V, valD (s.data.toList.take j) 0 = V := ⟨_, rfl⟩
            rw [hV] at hmx hval
            rw [hV]
            have u0 : IntKind.u8.wrap ((d : Int) - 48) = (d : Int) - 48 := IntWalk.u8_in _ (by omega)
            have u1 : IntKind.i64.wrap ((d : Int) - 48) = (d : Int) - 48 := IntWalk.i64_in _ (by omega)
            have u2 : IntKind.i64.wrap ((V : Int) * 10) = (V : Int) * 10 := IntWalk.i64_in _ (by omega)
            have u3 : IntKind.i64.wrap ((V : Int) * 10 + ((d : Int) - 48)) = (V : Int) * 10 + ((d : Int) - 48) := IntWalk.i64_in _ (by omega)
            have HVN := Lib.hid hval
            clear hx Hj hV hval
            by_cases hgt : 1099511627776 < V * 10 + (d - 48)
            · have HV : Hid (R = (0, false)) := Lib.hid (by
                rw [← HR.out]; unfold iR; rw [if_neg HH.out]
                split
                · rfl
                · rw [if_neg]
                  have h2 : valD s.data.toList 0 = valD (s.data.toList.drop (j + 1)) (valD (s.data.toList.take (j + 1)) 0) := by
                    unfold valD
                    rw [← List.foldl_append, List.take_append_drop]
                  have h3 := valD_ge (s.data.toList.drop (j + 1)) (valD (s.data.toList.take (j + 1)) 0)
                  rw [h2]
                  have := HVN.out
                  omega)
              have t5 : decide ((1099511627776 : Int) < (V : Int) * 10 + ((d : Int) - 48)) = true := decide_eq_true (by omega)
              go_wp2_with fail
              refine CD.out.mono ?_
              rintro e w' ⟨rfl, rfl⟩
              go_wp2_with fail
              refine bodyPost_ret (v := .tuple #[.int .i64 0, .bool false]) (by simp [results, Tryz.results128, go_sem]) rfl ?_
              rw [HV.out]
              exact ⟨rfl, Upd.refl _ _⟩
            · have t5 : decide ((1099511627776 : Int) < (V : Int) * 10 + ((d : Int) - 48)) = false := decide_eq_false (by omega)
              go_wp2_with fail
              refine CD.out.mono ?_
              rintro e w' ⟨rfl, rfl⟩
              go_wp2_with fail
              go_roundg (s.size - (j + 1))
              case measure => omega
              case rel => exact ⟨j + 1, by rw [HVN.out]; congr 1; omega, by go_num, rfl, by omega, by rw [HVN.out]; omega, HJ2, rfl⟩
          | false =>
            rw [hx] at CD
            have HV : Hid (R = (0, false)) := Lib.hid (by rw [← HR.out]; unfold iR; rw [if_neg HH.out, if_pos (all_stop s j hlt _ (by show digN _ = false; rw [hd]; exact hx))])
            clear hx Hj HR
            go_wp2_with fail
            refine CD.out.mono ?_
            rintro e w' ⟨rfl, rfl⟩
            go_wp2_with fail
            refine bodyPost_ret (v := .tuple #[.int .i64 0, .bool false]) (by simp [results, Tryz.results128, go_sem]) rfl ?_
            rw [HV.out]
            exact ⟨rfl, Upd.refl _ _⟩
        · have htk : s.data.toList.take j = s.data.toList := List.take_of_length_le (by show s.size ≤ j; omega)
          rw [htk] at hmx Hj
          rw [htk]
          have HV : Hid (R = (((valD s.data.toList 0 : Nat) : Int), true)) := Lib.hid (by
            rw [← HR.out]; unfold iR; rw [if_neg HH.out, if_neg (by rw [Hj.out]; decide), if_pos hmx])
          clear Hj HR hmx htk
          go_wp2_with fail
          refine bodyPost_ret (v := .tuple #[.int .i64 ((valD s.data.toList 0 : Nat)), .bool true]) (by simp [results, Tryz.results128, go_sem]) rfl ?_
          rw [HV.out]
          exact ⟨rfl, Upd.refl _ _⟩
  · have HV : Hid (R = (0, false)) := Lib.hid (by rw [← HR.out]; unfold iR; rw [if_pos (.inl (by omega))])
    obtain rfl := empty_is s (by omega)
    go_enter Tryz.func128, Tryz.ntmps128
    go_wp2_with fail
    refine bodyPost_ret (v := .tuple #[.int .i64 0, .bool false]) (by simp [results, Tryz.results128, go_sem]) rfl ?_
    rw [HV.out]
    exact ⟨rfl, Upd.refl _ _⟩

end Go.Proofs.YtjjaknmnhhfjeaaGreatDoor

/- Further contracts of the library, laid: what Atoi does. -/
namespace Go.Proofs
open Go.Shelf
def Tryz.laysC172_ren : Go.Shelf.Ren := ⟨fun | 172 => 150 | 244 => 162 | 245 => 163 | 247 => 169 | 279 => 170 | 280 => 171 | 281 => 172 | 282 => 173 | 287 => 175 | 316 => 176 | 171 => 178 | 205 => 177 | 321 => 181 | 322 => 182 | 243 => 183 | 246 => 184 | 283 => 185 | 284 => 186 | 285 => 187 | 286 => 188 | 129 => 148 | 317 => 189 | 318 => 190 | 319 => 191 | 320 => 192 | 337 => 193 | 338 => 194 | n => n, fun | 9 => 9 | 3 => 3 | 75 => 122 | 76 => 123 | 4 => 4 | 5 => 5 | 167 => 210 | 37 => 118 | 0 => 0 | 85 => 211 | 2 => 2 | 168 => 213 | 53 => 195 | 175 => 221 | 46 => 172 | 210 => 224 | 127 => 161 | 145 => 241 | 143 => 239 | 21 => 21 | 171 => 245 | 173 => 247 | 212 => 251 | 51 => 193 | 20 => 20 | 213 => 252 | 232 => 253 | 233 => 254 | 80 => 104 | n => n, fun | 15 => 3 | 16 => 4 | 17 => 5 | 18 => 6 | 19 => 7 | n => n⟩
theorem Tryz.laysC172 : Go.Proofs.LaysC.n172 Tryz.prog Tryz.laysC172_ren := {
  mixed := by kernel_rfl
  f129 := Tryz.func148.trans (congrArg some (by kernel_rfl))
  f171 := Tryz.func178.trans (congrArg some (by kernel_rfl))
  f172 := Tryz.func150.trans (congrArg some (by kernel_rfl))
  f205 := Tryz.func177.trans (congrArg some (by kernel_rfl))
  f243 := Tryz.func183.trans (congrArg some (by kernel_rfl))
  f244 := Tryz.func162.trans (congrArg some (by kernel_rfl))
  f245 := Tryz.func163.trans (congrArg some (by kernel_rfl))
  f246 := Tryz.func184.trans (congrArg some (by kernel_rfl))
  f247 := Tryz.func169.trans (congrArg some (by kernel_rfl))
  f279 := Tryz.func170.trans (congrArg some (by kernel_rfl))
  f280 := Tryz.func171.trans (congrArg some (by kernel_rfl))
  f281 := Tryz.func172.trans (congrArg some (by kernel_rfl))
  f282 := Tryz.func173.trans (congrArg some (by kernel_rfl))
  f283 := Tryz.func185.trans (congrArg some (by kernel_rfl))
  f284 := Tryz.func186.trans (congrArg some (by kernel_rfl))
  f285 := Tryz.func187.trans (congrArg some (by kernel_rfl))
  f286 := Tryz.func188.trans (congrArg some (by kernel_rfl))
  f287 := Tryz.func175.trans (congrArg some (by kernel_rfl))
  f316 := Tryz.func176.trans (congrArg some (by kernel_rfl))
  f317 := Tryz.func189.trans (congrArg some (by kernel_rfl))
  f318 := Tryz.func190.trans (congrArg some (by kernel_rfl))
  f319 := Tryz.func191.trans (congrArg some (by kernel_rfl))
  f320 := Tryz.func192.trans (congrArg some (by kernel_rfl))
  f321 := Tryz.func181.trans (congrArg some (by kernel_rfl))
  f322 := Tryz.func182.trans (congrArg some (by kernel_rfl))
  f337 := Tryz.func193.trans (congrArg some (by kernel_rfl))
  f338 := Tryz.func194.trans (congrArg some (by kernel_rfl))
  t0 := Tryz.underlying0
  a0 := Tryz.isAgg0
  z0 := Tryz.sizeOf0
  v0 := Tryz.zeroValue0
  t2 := Tryz.underlying2
  a2 := Tryz.isAgg2
  z2 := Tryz.sizeOf2
  v2 := Tryz.zeroValue2
  t3 := Tryz.underlying3
  a3 := Tryz.isAgg3
  z3 := Tryz.sizeOf3
  v3 := Tryz.zeroValue3
  t4 := Tryz.underlying4
  a4 := Tryz.isAgg4
  z4 := Tryz.sizeOf4
  v4 := Tryz.zeroValue4
  t5 := Tryz.underlying5
  a5 := Tryz.isAgg5
  z5 := Tryz.sizeOf5
  v5 := Tryz.zeroValue5
  t9 := Tryz.underlying9
  a9 := Tryz.isAgg9
  z9 := Tryz.sizeOf9
  v9 := Tryz.zeroValue9
  t20 := Tryz.underlying20
  a20 := Tryz.isAgg20
  z20 := Tryz.sizeOf20
  v20 := Tryz.zeroValue20
  t21 := Tryz.underlying21
  a21 := Tryz.isAgg21
  z21 := Tryz.sizeOf21
  v21 := Tryz.zeroValue21
  t37 := Tryz.underlying118
  a37 := Tryz.isAgg118
  z37 := Tryz.sizeOf118
  v37 := Tryz.zeroValue118
  t46 := Tryz.underlying172
  a46 := Tryz.isAgg172
  z46 := Tryz.sizeOf172
  v46 := Tryz.zeroValue172
  t51 := Tryz.underlying193
  a51 := Tryz.isAgg193
  z51 := Tryz.sizeOf193
  v51 := Tryz.zeroValue193
  t53 := Tryz.underlying195
  a53 := Tryz.isAgg195
  z53 := Tryz.sizeOf195
  v53 := Tryz.zeroValue195
  t75 := Tryz.underlying122
  a75 := Tryz.isAgg122
  z75 := Tryz.sizeOf122
  v75 := Tryz.zeroValue122
  t76 := Tryz.underlying123
  a76 := Tryz.isAgg123
  z76 := Tryz.sizeOf123
  v76 := Tryz.zeroValue123
  t85 := Tryz.underlying211
  a85 := Tryz.isAgg211
  z85 := Tryz.sizeOf211
  v85 := Tryz.zeroValue211
  t127 := Tryz.underlying161
  a127 := Tryz.isAgg161
  z127 := Tryz.sizeOf161
  v127 := Tryz.zeroValue161
  t143 := Tryz.underlying239
  a143 := Tryz.isAgg239
  z143 := Tryz.sizeOf239
  v143 := Tryz.zeroValue239
  t145 := Tryz.underlying241
  a145 := Tryz.isAgg241
  z145 := Tryz.sizeOf241
  v145 := Tryz.zeroValue241
  t167 := Tryz.underlying210
  a167 := Tryz.isAgg210
  z167 := Tryz.sizeOf210
  v167 := Tryz.zeroValue210
  t168 := Tryz.underlying213
  a168 := Tryz.isAgg213
  z168 := Tryz.sizeOf213
  v168 := Tryz.zeroValue213
  t171 := Tryz.underlying245
  a171 := Tryz.isAgg245
  z171 := Tryz.sizeOf245
  v171 := Tryz.zeroValue245
  t173 := Tryz.underlying247
  a173 := Tryz.isAgg247
  z173 := Tryz.sizeOf247
  v173 := Tryz.zeroValue247
  t175 := Tryz.underlying221
  a175 := Tryz.isAgg221
  z175 := Tryz.sizeOf221
  v175 := Tryz.zeroValue221
  t210 := Tryz.underlying224
  a210 := Tryz.isAgg224
  z210 := Tryz.sizeOf224
  v210 := Tryz.zeroValue224
  t212 := Tryz.underlying251
  a212 := Tryz.isAgg251
  z212 := Tryz.sizeOf251
  v212 := Tryz.zeroValue251
  t213 := Tryz.underlying252
  a213 := Tryz.isAgg252
  z213 := Tryz.sizeOf252
  t232 := Tryz.underlying253
  a232 := Tryz.isAgg253
  z232 := Tryz.sizeOf253
  v232 := Tryz.zeroValue253
  t233 := Tryz.underlying254
  a233 := Tryz.isAgg254
  z233 := Tryz.sizeOf254
  v233 := Tryz.zeroValue254
  g15 := by kernel_rfl
  g16 := by kernel_rfl
  g17 := by kernel_rfl
  g18 := by kernel_rfl
  g19 := by kernel_rfl
  t80 := Tryz.underlying104
  a80 := Tryz.isAgg104
  z80 := Tryz.sizeOf104
  v80 := Tryz.zeroValue104
  i0 := by kernel_rfl
  i2 := by kernel_rfl
  i3 := by kernel_rfl
  i4 := by kernel_rfl
  i5 := by kernel_rfl
  i9 := by kernel_rfl
  i20 := by kernel_rfl
  i21 := by kernel_rfl
  i37 := by kernel_rfl
  i46 := by kernel_rfl
  i51 := by kernel_rfl
  i53 := by kernel_rfl
  i75 := by kernel_rfl
  i76 := by kernel_rfl
  i80 := by kernel_rfl
  i85 := by kernel_rfl
  i127 := by kernel_rfl
  i143 := by kernel_rfl
  i145 := by kernel_rfl
  i167 := by kernel_rfl
  i168 := by kernel_rfl
  i171 := by kernel_rfl
  i173 := by kernel_rfl
  i175 := by kernel_rfl
  i210 := by kernel_rfl
  i212 := by kernel_rfl
  i232 := by kernel_rfl
  i233 := by kernel_rfl
  m15 := by kernel_rfl
  m16 := by kernel_rfl
  m17 := by kernel_rfl
  m18 := by kernel_rfl
  m19 := by kernel_rfl
  c0 := by kernel_rfl
  c2 := by kernel_rfl
  c3 := by kernel_rfl
  c4 := by kernel_rfl
  c5 := by kernel_rfl
  c9 := by kernel_rfl
  c20 := by kernel_rfl
  c21 := by kernel_rfl
  c37 := by kernel_rfl
  c46 := by kernel_rfl
  c51 := by kernel_rfl
  c53 := by kernel_rfl
  c75 := by kernel_rfl
  c76 := by kernel_rfl
  c80 := by kernel_rfl
  c85 := by kernel_rfl
  c127 := by kernel_rfl
  c143 := by kernel_rfl
  c145 := by kernel_rfl
  c167 := by kernel_rfl
  c168 := by kernel_rfl
  c171 := by kernel_rfl
  c173 := by kernel_rfl
  c175 := by kernel_rfl
  c210 := by kernel_rfl
  c212 := by kernel_rfl
  c213 := by kernel_rfl
  c232 := by kernel_rfl
  c233 := by kernel_rfl }
open Go.RowKit in
theorem Tryz.strconv_Atoi_ok (s : ByteArray) (hmax : s.size ≤ 9223372036854775806) (v : Int) (h : Lib.atoiAll s.data.toList = .ok v) (w : World) :
    Calls Tryz.prog 150 #[.string s] w fun e w' => e = .returned (.tuple #[.int .i64 v, .nilIface]) ∧ (w' = w ∨ ∃ t, w' = Lib.bytesWorld w 5 t) := Any.strconv_Atoi_ok Tryz.laysC172 s hmax v h w
open Go.RowKit in
theorem Tryz.strconv_Atoi_range_var (s : ByteArray) (hlim : s.size ≤ 281474976710656) (h : Lib.atoiAll s.data.toList = .range) (tp : TypeId) (p : Value) (w : World) (hvar : w.var? Tryz.prog "strconv.ErrRange" = some #[.iface tp p]) :
    Calls Tryz.prog 150 #[.string s] w fun e w' => ∃ N, e = .returned (.tuple #[.int .i64 (Lib.atoiSat s.data.toList), .iface 213 (.pointer (some ⟨N, 0, none⟩))]) ∧ w.heap.size ≤ N ∧ w'.heap[N]? = some (.cells #[.string ⟨#[65, 116, 111, 105]⟩, .string s, .iface tp p] 224 (0, 0)) ∧ Below w.heap.size w w' := Any.strconv_Atoi_range_var Tryz.laysC172 s hlim h tp p w hvar
end Go.Proofs

/- Texts of terms are read back: pure. -/
namespace Go.Proofs.YtjjaknmnhhfjeaaGreatDoor
open Go.RowKit Go.Hw Go Go.Sort Go.Proofs Go.ChangeMaps
set_option linter.unusedVariables false
set_option linter.unusedSimpArgs false

open Tm
inductive Pc where
  | wd (w : List UInt8)
  | sy (p : List UInt8)
  | bl (c : UInt8)
def Pc.tx : Pc → List UInt8
  | .wd w => w
  | .sy p => p
  | .bl c => [c]
def pTx : List Pc → List UInt8
  | [] => []
  | p :: r => p.tx ++ pTx r
theorem pTx_app : ∀ (a b : List Pc), pTx (a ++ b) = pTx a ++ pTx b
  | [], b => rfl
  | p :: a, b => by rw [List.cons_append, pTx, pTx, pTx_app a b, List.append_assoc]
def hdC : List UInt8 → Nat
  | [] => 0
  | c :: _ => clsN c.toNat
def PcOk (wd : By → Wd) : List Pc → Prop
  | [] => True
  | .wd w :: r => w ≠ [] ∧ (∀ c ∈ w, 2 ≤ clsN c.toNat) ∧ hdC (pTx r) < 2 ∧ (wd (bs w)).ok = true ∧ PcOk wd r
  | .sy p :: r => p ≠ [] ∧ hdC p = 0 ∧ p.head? ≠ some 35 ∧ symF (bs (p ++ pTx r)) = p ∧ PcOk wd r
  | .bl c :: r => clsN c.toNat = 1 ∧ PcOk wd r
def pcK (wd : By → Wd) : List Pc → List (Nat × By)
  | [] => []
  | .wd w :: r => ((wd (bs w)).kind, (wd (bs w)).text) :: pcK wd r
  | .sy p :: r => (4, bs p) :: pcK wd r
  | .bl _ :: r => pcK wd r
theorem pcK_app (wd : By → Wd) : ∀ (a b : List Pc), pcK wd (a ++ b) = pcK wd a ++ pcK wd b
  | [], b => rfl
  | .wd w :: a, b => by rw [List.cons_append, pcK, pcK, pcK_app wd a b]; rfl
  | .sy w :: a, b => by rw [List.cons_append, pcK, pcK, pcK_app wd a b]; rfl
  | .bl w :: a, b => by rw [List.cons_append, pcK, pcK, pcK_app wd a b]
theorem byt_mid {s : By} {pre r : List UInt8} {c : UInt8} (h : s.data.toList = pre ++ c :: r) : byt s pre.length = c.toNat := by
  unfold byt
  rw [h, List.getD_eq_getElem?_getD, List.getElem?_append_right (Nat.le_refl _), Nat.sub_self]
  rfl
theorem size_of {s : By} {l : List UInt8} (h : s.data.toList = l) : s.size = l.length := by rw [← h]; rfl
theorem ext_mid {s : By} {pre w r : List UInt8} (h : s.data.toList = pre ++ (w ++ r)) : s.extract pre.length (pre.length + w.length) = bs w := by
  apply ba_list
  rw [bs_data, ByteArray.data_extract, Array.toList_extract, h]
  simp [List.extract]
theorem ext_end {s : By} {pre r : List UInt8} (h : s.data.toList = pre ++ r) : s.extract pre.length s.size = bs r := by
  have h2 := ext_mid (s := s) (pre := pre) (w := r) (r := []) (by rw [h, List.append_nil])
  rw [← h2]
  congr 1
  rw [size_of h, List.length_append]
theorem wdE_mid {s : By} {r : List UInt8} (hr : hdC r < 2) : ∀ (w pre : List UInt8) (m : Nat), s.data.toList = pre ++ (w ++ r) → (∀ c ∈ w, 2 ≤ clsN c.toNat) → s.size - pre.length ≤ m → wdE s m pre.length = pre.length + w.length
  | [], pre, m, h, _, hm => by
    refine wdE_end hm (fun h2 => ?_)
    cases r with
    | nil => have := size_of h; simp at this; omega
    | cons c r =>
      have := byt_mid (s := s) (pre := pre) (r := r) (c := c) (by rw [h]; rfl)
      rw [this] at h2
      exact absurd h2.2 (by have : hdC (c :: r) = clsN c.toNat := rfl; omega)
  | c :: w, pre, m, h, hw, hm => by
    have hb := byt_mid (s := s) (pre := pre) (r := w ++ r) (c := c) (by rw [h]; rfl)
    have hz := size_of h
    rw [List.length_append, List.cons_append, List.length_cons] at hz
    obtain ⟨m', h1, h2⟩ := wdE_go hm ⟨by omega, by rw [hb]; exact hw c (List.mem_cons_self ..)⟩
    have hl : (pre ++ [c]).length = pre.length + 1 := by simp
    have ih := wdE_mid hr w (pre ++ [c]) m' (by rw [h]; simp) (fun x hx => hw x (List.mem_cons_of_mem _ hx)) (by rw [hl]; exact h2)
    rw [hl] at ih
    rw [h1, ih, List.length_cons]; omega
theorem lex_pcs (wd : By → Wd) (s : By) : ∀ (ps : List Pc) (pre : List UInt8) (n ln bg : Nat) (l : List Tok), PcOk wd ps → s.data.toList = pre ++ pTx ps → (pTx ps).length ≤ n → ∃ l' e, tkF wd s n pre.length ln bg l = .ok (l ++ l' ++ [e]) ∧ e.kind = 5 ∧ l'.map (fun t => (t.kind, t.text)) = pcK wd ps := by
  intro ps
  induction ps with
  | nil =>
    intro pre n ln bg l _ hs _
    have hz : s.size = pre.length := by rw [size_of hs]; simp [pTx]
    refine ⟨[], ⟨5, nul, 0, ln, (s.size : Int) - (bg : Int) + 1⟩, ?_, rfl, rfl⟩
    rw [List.append_nil]
    cases n with
    | zero => rw [tkF]
    | succ n => rw [tkF, if_pos (by omega)]
  | cons p ps ih =>
    intro pre n ln bg l hok hs hn
    cases p with
    | wd w =>
      obtain ⟨h1, h2, h3, h4, h5⟩ := hok
      have hs' : s.data.toList = pre ++ (w ++ pTx ps) := hs
      have hz := size_of hs'
      rw [List.length_append, List.length_append] at hz
      have hX := ext_mid hs'
      have hE := wdE_mid h3 w pre s.size hs' h2 (by omega)
      have hn' : w.length + (pTx ps).length ≤ n := by rw [← List.length_append]; exact hn
      cases w with
      | nil => exact absurd rfl h1
      | cons c w =>
        have hb := byt_mid (s := s) (pre := pre) (r := w ++ pTx ps) (c := c) (by rw [hs']; rfl)
        have hc := h2 c (List.mem_cons_self ..)
        rw [List.length_cons] at hz hn'
        cases n with
        | zero => omega
        | succ n =>
          have h35 : ¬ byt s pre.length = 35 := fun e => by
            rw [hb] at e; rw [e] at hc; exact absurd hc (by decide)
          obtain ⟨l', e, g1, g2, g3⟩ := ih (pre ++ c :: w) n ln bg (l ++ [⟨(wd (bs (c :: w))).kind, (wd (bs (c :: w))).text, (wd (bs (c :: w))).n, ln, (pre.length : Int) - (bg : Int) + 1⟩]) h5 (by rw [hs', List.append_assoc]) (by omega)
          refine ⟨⟨(wd (bs (c :: w))).kind, (wd (bs (c :: w))).text, (wd (bs (c :: w))).n, ln, (pre.length : Int) - (bg : Int) + 1⟩ :: l', e, ?_, g2, ?_⟩
          · rw [tkF, if_neg (by omega), if_neg (by rw [hb]; omega), if_neg h35, if_pos (by rw [hb]; exact hc), hE, hX, if_pos h4, ← List.length_append, g1, List.append_assoc l]
            rfl
          · rw [List.map_cons, g3]; rfl
    | sy p =>
      obtain ⟨h1, h2, h3, h4, h5⟩ := hok
      have hs' : s.data.toList = pre ++ (p ++ pTx ps) := hs
      have hz := size_of hs'
      rw [List.length_append, List.length_append] at hz
      have hX := ext_end hs'
      have hn' : p.length + (pTx ps).length ≤ n := by rw [← List.length_append]; exact hn
      cases p with
      | nil => exact absurd rfl h1
      | cons c w =>
        have hb := byt_mid (s := s) (pre := pre) (r := w ++ pTx ps) (c := c) (by rw [hs']; rfl)
        have hc : clsN c.toNat = 0 := h2
        rw [List.length_cons] at hz hn'
        cases n with
        | zero => omega
        | succ n =>
          have h35 : ¬ byt s pre.length = 35 := fun e => by
            rw [hb] at e
            exact h3 (by rw [List.head?_cons]; congr 1; exact UInt8.toNat_inj.1 e)
          obtain ⟨l', e, g1, g2, g3⟩ := ih (pre ++ c :: w) n ln bg (l ++ [⟨4, bs (c :: w), 0, ln, (pre.length : Int) - (bg : Int) + 1⟩]) h5 (by rw [hs', List.append_assoc]) (by omega)
          refine ⟨⟨4, bs (c :: w), 0, ln, (pre.length : Int) - (bg : Int) + 1⟩ :: l', e, ?_, g2, ?_⟩
          · rw [tkF, if_neg (by omega), if_neg (by rw [hb]; omega), if_neg h35, if_neg (by rw [hb]; omega), hX, h4, if_neg (by simp), ← List.length_append, g1, List.append_assoc l]
            rfl
          · rw [List.map_cons, g3]; rfl
    | bl c =>
      obtain ⟨h1, h5⟩ := hok
      have hs' : s.data.toList = pre ++ c :: pTx ps := hs
      have hz := size_of hs'
      rw [List.length_append, List.length_cons] at hz
      have hb := byt_mid hs'
      have hn' : (pTx ps).length + 1 ≤ n := by
        have : (pTx (.bl c :: ps)).length = (pTx ps).length + 1 := by simp [pTx, Pc.tx]
        omega
      cases n with
      | zero => omega
      | succ n =>
        have hl : (pre ++ [c]).length = pre.length + 1 := by simp
        by_cases h10 : byt s pre.length = 10
        · obtain ⟨l', e, g1, g2, g3⟩ := ih (pre ++ [c]) n (ln + 1) (pre.length + 1) l h5 (by rw [hs', List.append_assoc]; rfl) (by omega)
          refine ⟨l', e, ?_, g2, g3⟩
          rw [hl] at g1
          rw [tkF, if_neg (by omega), if_pos (by rw [hb]; exact h1), if_pos h10, g1]
        · obtain ⟨l', e, g1, g2, g3⟩ := ih (pre ++ [c]) n ln bg l h5 (by rw [hs', List.append_assoc]; rfl) (by omega)
          refine ⟨l', e, ?_, g2, g3⟩
          rw [hl] at g1
          rw [tkF, if_neg (by omega), if_pos (by rw [hb]; exact h1), if_neg h10, g1]
theorem lex_all (wd : By → Wd) (ps : List Pc) (h : PcOk wd ps) (hl : (pTx ps).length ≤ 65536) : ∃ l' e, tokF wd (bs (pTx ps)) = .ok (l' ++ [e]) ∧ e.kind = 5 ∧ l'.map (fun t => (t.kind, t.text)) = pcK wd ps := by
  have hz : (bs (pTx ps)).size = (pTx ps).length := bs_size _
  obtain ⟨l', e, h1, h2, h3⟩ := lex_pcs wd (bs (pTx ps)) ps [] (bs (pTx ps)).size 1 0 [] h (by rw [bs_data]; rfl) (by omega)
  refine ⟨l', e, ?_, h2, h3⟩
  unfold tokF
  rw [if_neg (by omega)]
  exact h1
/-! ### the text of a term -/
mutual
def txT : Tm → List UInt8
  | .mk nm st L => nm.data.toList ++ (if st ≠ nul then 58 :: st.data.toList else 40 :: (txTs true L ++ [41]))
def txTs : Bool → List Tm → List UInt8
  | _, [] => []
  | first, x :: L => (if first = true then [] else [44, 32]) ++ (txT x ++ txTs false L)
end
mutual
def tmP : Tm → List Pc
  | .mk nm st L => .wd nm.data.toList :: (if st ≠ nul then [.sy [58], .wd st.data.toList] else .sy [40] :: (tmPs true L ++ [.sy [41]]))
def tmPs : Bool → List Tm → List Pc
  | _, [] => []
  | first, x :: L => (if first = true then [] else [.sy [44], .bl 32]) ++ (tmP x ++ tmPs false L)
end
mutual
def kts : Tm → List (Nat × By)
  | .mk nm st L => (1, nm) :: (if st ≠ nul then [(4, sCl), (1, st)] else (4, sLp) :: (ktss true L ++ [(4, sRp)]))
def ktss : Bool → List Tm → List (Nat × By)
  | _, [] => []
  | first, x :: L => (if first = true then [] else [(4, sCm)]) ++ (kts x ++ ktss false L)
end
theorem txTs_app : ∀ (L M : List Tm) (f : Bool), txTs f (L ++ M) = txTs f L ++ txTs (f && L.isEmpty) M
  | [], M, f => by simp [txTs]
  | x :: L, M, f => by
    rw [List.cons_append, txTs, txTs, txTs_app L M false]
    simp
theorem pTx_tm : ∀ t : Tm, pTx (tmP t) = txT t := by
  refine ind (fun n st L ih => ?_)
  have hL : ∀ (L : List Tm), (∀ x ∈ L, pTx (tmP x) = txT x) → ∀ f, pTx (tmPs f L) = txTs f L := by
    intro L
    induction L with
    | nil => intro _ f; rfl
    | cons x L ihL =>
      intro h f
      rw [tmPs, txTs, pTx_app, pTx_app, h x (List.mem_cons_self ..), ihL (fun y hy => h y (List.mem_cons_of_mem _ hy))]
      cases f <;> rfl
  rw [tmP, txT]
  by_cases h : st ≠ nul
  · rw [if_pos h, if_pos h]
    show n.data.toList ++ ([58] ++ (st.data.toList ++ [])) = _
    simp
  · rw [if_neg h, if_neg h]
    show n.data.toList ++ ([40] ++ pTx (tmPs true L ++ [.sy [41]])) = _
    rw [pTx_app, hL L ih]
    rfl
theorem hp_ne {c d : UInt8} (h : d ≠ c) (r p : List UInt8) : ¬ hpB (bs (c :: r)) (d :: p) = true := by
  have e : hpB (bs (c :: r)) (d :: p) = (d == c && p.isPrefixOf r) := rfl
  rw [e, beq_eq_false_iff_ne.2 h, Bool.false_and]
  decide
theorem sym_1 (c : UInt8) (r : List UInt8) (h : (c = 40 ∨ c = 41) ∨ c = 44 ∨ c = 58) : symF (bs (c :: r)) = [c] := by
  have hg : (bs (c :: r)).data.toList.getD 0 0 = c := rfl
  have hz : 0 < (bs (c :: r)).size := by rw [bs_size]; simp
  have h1 : 61 ≠ c ∧ 33 ≠ c ∧ 60 ≠ c ∧ 45 ≠ c ∧ 0 ≤ Lib.indexByte symSet c := by rcases h with (rfl | rfl) | rfl | rfl <;> decide
  unfold symF
  rw [if_neg (hp_ne h1.1 _ _), if_neg (hp_ne h1.2.1 _ _), if_neg (hp_ne h1.2.2.1 _ _), if_neg (hp_ne h1.2.2.2.1 _ _), hg, if_pos ⟨hz, h1.2.2.2.2⟩]
theorem nm_chars {n : By} (h : nmB n = true) : n.data.toList ≠ [] ∧ (∀ c ∈ n.data.toList, 2 ≤ clsN c.toNat) ∧ kwB n = false := by
  unfold nmB at h
  simp only [Bool.and_eq_true, decide_eq_true_eq] at h
  obtain ⟨⟨h1, _⟩, _, h3, h4⟩ := h
  refine ⟨fun e => ?_, fun c hc => ?_, by simpa using h4⟩
  · have : n.data.toList.length = n.size := rfl
    rw [e] at this; simp at this; omega
  · have := List.all_eq_true.1 h3 c hc
    rw [cls_wrd] at this
    exact of_decide_eq_true this
theorem nm_wd (iF : By → Int × Bool) {n : By} (h : nmB n = true) : wdF iF n = ⟨1, n, 0, true⟩ := by
  unfold wdF
  rw [if_neg (by rw [(nm_chars h).2.2]; decide), if_pos h]
abbrev NdOk (t : Tm) : Prop := nmB t.name = true ∧ (t.sort = nul ∨ nmB t.sort = true ∧ t.kids = [])
theorem pc_nm (iF : By → Int × Bool) {n : By} (h : nmB n = true) (r : List Pc) (hr : hdC (pTx r) < 2) (hk : PcOk (wdF iF) r) : PcOk (wdF iF) (.wd n.data.toList :: r) := by
  obtain ⟨h1, h2, h3⟩ := nm_chars h
  exact ⟨h1, h2, hr, by rw [bs_of, nm_wd iF h], hk⟩
theorem pc_sy (wd : By → Wd) (c : UInt8) (h : (c = 40 ∨ c = 41) ∨ c = 44 ∨ c = 58) (r : List Pc) (hk : PcOk wd r) : PcOk wd (.sy [c] :: r) :=
  ⟨by simp, by rcases h with (rfl | rfl) | rfl | rfl <;> decide, by rcases h with (rfl | rfl) | rfl | rfl <;> decide, sym_1 c _ h, hk⟩
theorem tm_pc (iF : By → Int × Bool) : ∀ t : Tm, (∀ x ∈ sbts t, NdOk x) → ∀ r, PcOk (wdF iF) r → hdC (pTx r) < 2 → PcOk (wdF iF) (tmP t ++ r) := by
  refine ind (fun n st L ih h r hr h2 => ?_)
  obtain ⟨g1, g2⟩ := h _ (mem_sbts_self _)
  have hL : ∀ (L : List Tm), (∀ x ∈ L, ∀ r, PcOk (wdF iF) r → hdC (pTx r) < 2 → PcOk (wdF iF) (tmP x ++ r)) → ∀ f r, PcOk (wdF iF) r → hdC (pTx r) < 2 → PcOk (wdF iF) (tmPs f L ++ r) ∧ (f = false → hdC (pTx (tmPs f L ++ r)) < 2) := by
    intro L
    induction L with
    | nil => intro _ f r hr h2; exact ⟨hr, fun _ => h2⟩
    | cons x L ihL =>
      intro h f r hr h2
      obtain ⟨k1, k2⟩ := ihL (fun y hy => h y (List.mem_cons_of_mem _ hy)) false r hr h2
      have k3 := h x (List.mem_cons_self ..) _ k1 (k2 rfl)
      rw [← List.append_assoc] at k3
      rw [tmPs, List.append_assoc]
      cases f with
      | true => exact ⟨k3, fun h => (by cases h)⟩
      | false =>
        refine ⟨pc_sy _ 44 (.inr (.inl rfl)) _ ⟨by decide, k3⟩, fun _ => ?_⟩
        show clsN 44 < 2
        decide
  rw [tmP]
  by_cases hs : st ≠ nul
  · rw [if_pos hs]
    have g3 : nmB st = true := (g2.resolve_left hs).1
    exact pc_nm iF g1 _ (by show clsN 58 < 2; decide) (pc_sy _ 58 (.inr (.inr rfl)) _ (pc_nm iF g3 r h2 hr))
  · rw [if_neg hs]
    have k4 : PcOk (wdF iF) (.sy [41] :: r) := pc_sy _ 41 (.inl (.inr rfl)) _ hr
    have k5 := (hL L (fun x hx => ih x hx (fun y hy => h y (mem_sbts_kid (t := .mk n st L) hx hy))) true _ k4 (by show clsN 41 < 2; decide)).1
    refine pc_nm iF g1 _ (by show clsN 40 < 2; decide) ?_
    show PcOk (wdF iF) (.sy [40] :: ((tmPs true L ++ [.sy [41]]) ++ r))
    rw [List.append_assoc]
    exact pc_sy _ 40 (.inl (.inl rfl)) _ k5
theorem tm_kts (iF : By → Int × Bool) : ∀ t : Tm, (∀ x ∈ sbts t, NdOk x) → pcK (wdF iF) (tmP t) = kts t := by
  refine ind (fun n st L ih h => ?_)
  obtain ⟨g1, g2⟩ := h _ (mem_sbts_self _)
  have hL : ∀ (L : List Tm), (∀ x ∈ L, pcK (wdF iF) (tmP x) = kts x) → ∀ f, pcK (wdF iF) (tmPs f L) = ktss f L := by
    intro L
    induction L with
    | nil => intro _ f; rfl
    | cons x L ihL =>
      intro h f
      rw [tmPs, ktss, pcK_app, pcK_app, h x (List.mem_cons_self ..), ihL (fun y hy => h y (List.mem_cons_of_mem _ hy))]
      cases f <;> rfl
  have hn : ∀ m : By, nmB m = true → ((wdF iF (bs m.data.toList)).kind, (wdF iF (bs m.data.toList)).text) = ((1, m) : Nat × By) := fun m hm => by rw [bs_of, nm_wd iF hm]
  rw [tmP, kts, pcK, hn n g1]
  by_cases hs : st ≠ nul
  · rw [if_pos hs, if_pos hs]
    have g3 : nmB st = true := (g2.resolve_left hs).1
    rw [pcK, pcK, hn st g3]
    rfl
  · rw [if_neg hs, if_neg hs, pcK, pcK_app, hL L (fun x hx => ih x hx (fun y hy => h y (mem_sbts_kid (t := .mk n st L) hx hy)))]
    rfl
/-! ### reading tokens of which kinds and texts are known -/
abbrev kt (l : List Tok) (i : Nat) : Nat × By := ((tk l i).kind, (tk l i).text)
def Seg (l : List Tok) (i : Nat) (K : List (Nat × By)) : Prop := i + K.length ≤ l.length ∧ ∀ j, j < K.length → kt l (i + j) = K.getD j (0, nul)
theorem Seg.left {l : List Tok} {i : Nat} {A B : List (Nat × By)} (h : Seg l i (A ++ B)) : Seg l i A := by
  obtain ⟨h1, h2⟩ := h
  rw [List.length_append] at h1 h2
  refine ⟨by omega, fun j hj => ?_⟩
  rw [h2 j (by omega), List.getD_eq_getElem?_getD, List.getElem?_append_left hj, ← List.getD_eq_getElem?_getD]
theorem Seg.right {l : List Tok} {i : Nat} {A B : List (Nat × By)} (h : Seg l i (A ++ B)) : Seg l (i + A.length) B := by
  obtain ⟨h1, h2⟩ := h
  rw [List.length_append] at h1 h2
  refine ⟨by omega, fun j hj => ?_⟩
  rw [Nat.add_assoc, h2 _ (by omega), List.getD_eq_getElem?_getD, List.getElem?_append_right (by omega), Nat.add_sub_cancel_left, ← List.getD_eq_getElem?_getD]
theorem Seg.head {l : List Tok} {i : Nat} {a : Nat × By} {B : List (Nat × By)} (h : Seg l i (a :: B)) : (tk l i).kind = a.1 ∧ (tk l i).text = a.2 ∧ Seg l (i + 1) B := by
  have h1 := h.2 0 (by simp)
  have h2 : kt l i = a := h1
  exact ⟨congrArg Prod.fst h2, congrArg Prod.snd h2, Seg.right (A := [a]) h⟩
theorem isB_of {l : List Tok} {i : Nat} {a s : By} (h1 : (tk l i).kind = 4) (h2 : (tk l i).text = a) : isB (tk l i) s = decide (a = s) := by
  unfold isB; rw [h1, h2]; rfl
theorem isB_nm {l : List Tok} {i : Nat} {s : By} (h1 : (tk l i).kind = 1) : isB (tk l i) s = false := by
  unfold isB; rw [h1]; rfl
theorem kts_pos : ∀ t : Tm, 0 < (kts t).length
  | .mk n st L => by rw [kts]; simp
theorem kts_hd : ∀ t : Tm, ∃ a B, kts t = (1, a) :: B
  | .mk n st L => by rw [kts]; exact ⟨_, _, rfl⟩
def kL {α : Type} (kf : α → List (Nat × By)) : Bool → List α → List (Nat × By)
  | _, [] => []
  | f, x :: L => (if f = true then [] else [(4, sCm)]) ++ (kf x ++ kL kf false L)
theorem ktss_kL : ∀ (L : List Tm) (f : Bool), ktss f L = kL kts f L
  | [], f => by rw [ktss, kL]
  | x :: L, f => by rw [ktss, kL, ktss_kL L false]
theorem pL_back {α : Type} {l : List Tok} {el : Nat → PR α} {kf : α → List (Nat × By)} (hk : ∀ x, ∃ a B, kf x = (1, a) :: B) : ∀ (L : List α) (f : Bool) (xs : List α) (m i : Nat), (∀ x ∈ L, ∀ i, Seg l i (kf x) → el i = .ok x (i + (kf x).length)) → Seg l i (kL kf f L ++ [(4, sRp)]) → L.length < m → pL el l m i f xs = .ok (xs ++ L) (i + (kL kf f L).length + 1)
  | [], f, xs, m + 1, i, _, h, _ => by
    obtain ⟨h1, h2, _⟩ := Seg.head (a := (4, sRp)) (B := []) h
    rw [pL, if_pos (by rw [isB_of h1 h2]; decide), List.append_nil]
    rfl
  | x :: L, f, xs, 0, i, _, _, hm => by cases hm
  | x :: L, f, xs, m + 1, i, he, h, hm => by
    have hx := he x (List.mem_cons_self ..)
    have hm2 : L.length < m := by simpa using hm
    have heL : ∀ y ∈ L, ∀ i, Seg l i (kf y) → el i = .ok y (i + (kf y).length) := fun y hy => he y (List.mem_cons_of_mem _ hy)
    rw [kL, List.append_assoc, List.append_assoc] at h
    obtain ⟨a0, B, hB⟩ := hk x
    cases f with
    | true =>
      have h2 : Seg l i (kf x ++ (kL kf false L ++ [(4, sRp)])) := h
      have h3 := h2.left
      rw [hB] at h3
      obtain ⟨g1, _, _⟩ := h3.head
      have g3 := hx i h2.left
      have g4 := pL_back hk L false (xs ++ [x]) m _ heL h2.right hm2
      rw [pL, if_neg (by rw [isB_nm g1]; decide), if_neg (fun h => by cases h.1), if_pos rfl, g3]
      show pL el l m (i + (kf x).length) false (xs ++ [x]) = _
      rw [g4, kL, List.append_assoc]
      congr 1
      simp only [if_true, List.nil_append, List.length_append]; omega
    | false =>
      have h2 : Seg l i ((4, sCm) :: (kf x ++ (kL kf false L ++ [(4, sRp)]))) := h
      obtain ⟨g1, g2, h5⟩ := h2.head
      have g3 := hx (i + 1) h5.left
      have g4 := pL_back hk L false (xs ++ [x]) m _ heL h5.right hm2
      rw [pL, if_neg (by rw [isB_of g1 g2]; decide), if_neg (fun h => by have := h.2; rw [isB_of g1 g2] at this; exact absurd this (by decide)), if_neg (by decide), g3]
      show pL el l m (i + 1 + (kf x).length) false (xs ++ [x]) = _
      rw [g4, kL, List.append_assoc]
      congr 1
      simp only [Bool.false_eq_true, if_false, List.length_append, List.length_cons, List.length_nil]; omega
theorem ktss_len : ∀ (L : List Tm) (f : Bool), L.length ≤ (ktss f L).length
  | [], f => Nat.zero_le _
  | x :: L, f => by
    have h1 := kts_pos x
    have h2 := ktss_len L false
    rw [ktss, List.length_append, List.length_append, List.length_cons]; omega
theorem ktss_mem : ∀ {L : List Tm} {x : Tm} (f : Bool), x ∈ L → (kts x).length ≤ (ktss f L).length
  | y :: L, x, f, h => by
    rw [ktss, List.length_append, List.length_append]
    rcases List.mem_cons.1 h with rfl | h
    · omega
    · have := ktss_mem (L := L) false h; omega
theorem pT_back {l : List Tok} : ∀ t : Tm, (∀ x ∈ sbts t, NdOk x) → ∀ n i, (kts t).length ≤ n → Seg l i (kts t) → pT l n i = .ok t (i + (kts t).length) := by
  refine ind (fun nm st L ih h n i hn hs => ?_)
  obtain ⟨g1, g2⟩ := h _ (mem_sbts_self _)
  have hp := kts_pos (.mk nm st L)
  cases n with
  | zero => omega
  | succ n =>
    rw [kts] at hs hn ⊢
    obtain ⟨k1, k2, h3⟩ := hs.head
    by_cases hst : st ≠ nul
    · have g3 : L = [] := (g2.resolve_left hst).2
      subst g3
      rw [if_pos hst] at h3 ⊢
      obtain ⟨k3, k4, h4⟩ := h3.head
      obtain ⟨k5, k6, _⟩ := h4.head
      rw [pT, if_neg (fun h => h k1), if_pos (by rw [isB_of k3 k4]; decide), if_neg (fun h => h k5), k2, k6]
      rfl
    · have hst2 : st = nul := Classical.byContradiction hst
      rw [if_neg hst] at h3 hn ⊢
      obtain ⟨k3, k4, h4⟩ := h3.head
      have hlen : ((1, nm) :: (4, sLp) :: (ktss true L ++ [(4, sRp)])).length = (ktss true L).length + 3 := by simp
      rw [hlen] at hn ⊢
      rw [ktss_kL] at h4
      have hb := pL_back (el := pT l n) kts_hd L true [] (l.length - (i + 1)) (i + 1 + 1) (fun x hx j hj => ih x hx (fun y hy => h y (mem_sbts_kid (t := .mk nm st L) hx hy)) n j (by have := ktss_mem true hx; omega) hj) h4 (by
        have := ktss_len L true
        rw [ktss_kL] at this
        have := h4.1
        rw [List.length_append, List.length_singleton] at this
        omega)
      rw [pT, if_neg (fun h => h k1), if_neg (by rw [isB_of k3 k4]; decide), pP, if_pos (by rw [isB_of k3 k4]; decide), hb, k2, hst2, ktss_kL]
      show PR.ok _ _ = PR.ok _ _
      congr 1
      omega
theorem seg_all {l' : List Tok} {e : Tok} {K : List (Nat × By)} (h : l'.map (fun t => (t.kind, t.text)) = K) : Seg (l' ++ [e]) 0 K ∧ tk (l' ++ [e]) K.length = e := by
  have hl : K.length = l'.length := by rw [← h, List.length_map]
  refine ⟨⟨by rw [List.length_append]; omega, fun j hj => ?_⟩, ?_⟩
  · have hj2 : j < l'.length := by omega
    have e1 : tk (l' ++ [e]) (0 + j) = l'[j] := by
      unfold tk
      rw [Nat.zero_add, List.getD_eq_getElem?_getD, List.getElem?_append_left hj2, List.getElem?_eq_getElem hj2]
      rfl
    have e2 : K.getD j (0, nul) = (l'[j].kind, l'[j].text) := by
      rw [← h, List.getD_eq_getElem?_getD, List.getElem?_map, List.getElem?_eq_getElem hj2]
      rfl
    unfold kt
    rw [e1, e2]
  · unfold tk
    rw [hl, List.getD_eq_getElem?_getD, List.getElem?_append_right (Nat.le_refl _), Nat.sub_self]
    rfl
theorem ps_back {t : Tm} (h : wf nmB t = true) (hl : (txT t).length ≤ 65536) : psF (bs (txT t)) = (t, (0, 0), 0) := by
  have hf := wf_formed h
  obtain ⟨_, hn⟩ := formed_nd hf
  have hnd : ∀ x ∈ sbts t, NdOk x := fun x hx => ⟨(hn x hx).1, (hn x hx).2.2⟩
  have hok := tm_pc iR t hnd [] trivial (by decide)
  rw [List.append_nil] at hok
  obtain ⟨l', e, h1, h2, h3⟩ := lex_all (wdF iR) (tmP t) hok (by rw [pTx_tm]; exact hl)
  rw [tm_kts iR t hnd] at h3
  rw [pTx_tm] at h1
  obtain ⟨hs, he⟩ := seg_all (e := e) h3
  have hlen : (kts t).length ≤ (l' ++ [e]).length := by have := hs.1; omega
  have hp := pT_back (l := l' ++ [e]) t hnd (l' ++ [e]).length 0 hlen hs
  rw [Nat.zero_add] at hp
  unfold psF
  rw [h1]
  simp only [hp, he, h2]
  have hso : (sortsT t).isSome = true := by
    unfold wf at h
    rw [Bool.and_eq_true] at h
    exact h.2
  simp [hf, hso]

end Go.Proofs.YtjjaknmnhhfjeaaGreatDoor

/- The builder with its blocks. -/
namespace Go.Proofs.YtjjaknmnhhfjeaaGreatDoor
open Go.RowKit Go.Hw Go Go.Sort Go.Proofs Go.ChangeMaps
set_option linter.unusedVariables false
set_option linter.unusedSimpArgs false

open Tm
section
variable {P : Program} (w : World)
theorem append_block_str (base : Nat) (t u ty e : TypeId) (i : TypeInfo) (ht : P.underlying t = some (.slice e)) (hu : P.underlying u = some .string) (hi : P.info? e = some i) (hz : i.zero = some (.int .u8 0)) (hsize : i.size = 1) (hby : i.bytes = 1)
    (v : Value) (n : Nat) (xs : List Value) (hown : w.ownsRow base e 1 v n xs) (s : ByteArray) (h63 : n + s.size ≤ maxLen) (hbytes : n + s.size ≤ 140737488355328) {v' : Value} {w' : World}
    (hr : (Builtin.append_ #[t, u] ty #[v, .string s]).run P w = .ok v' w') : v'.ownBlock = v.ownBlock ∨ v'.ownBlock = some w.heap.size := by
  have hsmall : n + s.size ≤ 9223372036854775807 := by simp only [maxLen] at h63; omega
  have hxl : xs.length = n := by simpa using hown.1
  rcases hown.2 with ⟨rfl, rfl⟩ | ⟨g, cap, cur, rfl, hbg, hg, hnc, hcm, hcs, htake⟩
  · by_cases hm : s.size = 0
    · have hf := Lib.run_firstCells_string (P := P) w 1 s
      rw [hm] at hf
      simp [Builtin.append_, run_underlying ht, run_underlying hu, sizeOf, typeInfo, hi, hsize, Builtin.lenOf, hm, hf] at hr
      left; rw [← hr.1]
    · rw [run_append_nil_string (P := P) w t u ty e i (.int .u8 0) ht hu hi hz s (by omega) (by omega) (by rw [hby]; omega)] at hr
      injection hr with h2 h3
      right; rw [← h2]; rfl
  · by_cases hroom : n + s.size ≤ cap
    · have hcs' : cur.size = cap := by simpa using hcs
      rw [Lib.run_append_room_string (P := P) w t u ty e i ht hu hi hsize g n cap cur hg s hroom (by omega)] at hr
      injection hr with h2 h3
      left; rw [← h2]; rfl
    · have holds : ∀ j u, xs[j]? = some u → w.cell? ((⟨g, 0, none⟩ : Addr).add j) = some u := hown.cells (g := g) rfl
      rw [Lib.run_append_grow_string (P := P) w t u ty e i (.int .u8 0) ht hu hi hz ⟨g, 0, none⟩ n cap xs (by rw [hsize]; simpa using hxl) holds s (by omega) (by omega) (by rw [hby]; exact growslice_fits (by omega) (by omega))] at hr
      injection hr with h2 h3
      right; rw [← h2]; rfl
end
theorem wpList_append_str_at {P : Program} {w : World} {ops : Array Oper} {rest : List Oper} {o : Oper} {a : Act} {Q : Exit → Act → World → Prop} (hgd : o.guard = none) (sl x : Operand) (t u : TypeId)
    (ho : o.op = .call { callee := .builtin .append, args := #[sl, x], argTypes := #[t, u] })
    (base : Nat) (e : TypeId) (i : TypeInfo) (ht : P.underlying t = some (.slice e)) (hu : P.underlying u = some .string) (hi : P.info? e = some i) (hz : i.zero = some (.int .u8 0))
    (hsize : i.size = 1) (hby : i.bytes = 1)
    (v : Value) (n : Nat) (xs : List Value) (hs : a.eval sl = v) (hown : w.ownsRow base e 1 v n xs) (s : ByteArray) (hx : a.eval x = .string s)
    (h63 : n + s.size ≤ maxLen) (hbytes : n + s.size ≤ 140737488355328) (hbase : base ≤ w.heap.size)
    (h : ∀ v' w', Grew base e 1 v (n + s.size) (xs ++ Lib.strCells s) w w' v' → wpList P ops Q rest (a.put o.dst v') w') : wpList P ops Q (o :: rest) a w := by
  refine wpList_plain hgd fun K hK => ?_
  obtain ⟨v', w', hr, h2, h3, h4⟩ := Lib.run_append_own_string (P := P) w base t u o.type e i ht hu hi hz hsize hby v n xs hown s h63 hbytes hbase
  have h5 := append_block_str (P := P) w base t u o.type e i ht hu hi hz hsize hby v n xs hown s h63 hbytes hr
  unfold Oper.wp execOp
  simp only [ho, resolve, invoke, builtin, Sem.run_bind, Sem.run_pure, Result.andThen_ok, List.map_toArray, List.map_cons, List.map_nil, hs, hx, hr]
  exact hK _ _ (h v' w' ⟨h2, h3, h5⟩)
def BdS (S : Nat → Prop) (b : Nat) (l : List UInt8) (w : World) : Prop := (∀ k, S k → k < w.heap.size) ∧ S b ∧ ∃ p v, (p = .pointer none ∨ p = .pointer (some ⟨b, 0, none⟩)) ∧ w.heap[b]? = some (.cells #[p, v] 120 (0, 0)) ∧ w.ownsRow 0 5 1 v l.length (Lib.byteCells l) ∧ v.ownBlock ≠ some b ∧ ∀ k, v.ownBlock = some k → S k
theorem BdS.ext {S : Nat → Prop} {b : Nat} {l : List UInt8} {w w' : World} (h : BdS S b l w) (hE : Ext w w') : BdS S b l w' := by
  obtain ⟨h1, h2, p, v, h3, h4, h5, h6, h7⟩ := h
  exact ⟨fun k hk => Nat.lt_of_lt_of_le (h1 k hk) hE.size, h2, p, v, h3, hE.heap h4 (fun h => h), own_kept h5 hE (fun _ _ h => h), h6, h7⟩
def BdG (S : Nat → Prop) (b : Nat) (l : List UInt8) (w w' : World) : Prop := ∃ S', BdS S' b l w' ∧ (∀ k, S' k → S k ∨ w.heap.size ≤ k) ∧ Upd S w w'
theorem BdG.trans {S : Nat → Prop} {b : Nat} {l m : List UInt8} {w w1 w2 : World} (h : BdG S b l w w1) (h2 : ∀ S1, BdS S1 b l w1 → BdG S1 b m w1 w2) : BdG S b m w w2 := by
  obtain ⟨S1, h1, hs, hu⟩ := h
  obtain ⟨S2, g1, gs, gu⟩ := h2 S1 h1
  have hz := hu.size
  exact ⟨S2, g1, fun k hk => (gs k hk).elim (fun h => hs k h) (fun h => .inr (by omega)), hu.trans' gu (fun k hk e => (hs k e).elim (fun h => h) (fun h => by omega))⟩
set_option maxRecDepth 100000 in
set_option maxHeartbeats 2000000 in
theorem ccheck_s (b : Nat) (p v : Value) (w : World) (hp : p = .pointer none ∨ p = .pointer (some ⟨b, 0, none⟩)) (hb : w.heap[b]? = some (.cells #[p, v] 120 (0, 0))) :
    Calls Tryz.prog 107 #[.pointer (some ⟨b, 0, none⟩)] w fun e w' => e = .returned (.tuple #[]) ∧ w'.heap[b]? = some (.cells #[.pointer (some ⟨b, 0, none⟩), v] 120 (0, 0)) ∧ Upd (fun k => k = b) w w' := by
  obtain ⟨j, hj, hjs⟩ := Option.map_eq_some_iff.1 infoBd
  rcases hp with rfl | rfl
  · have c0 := cellRow hb 0 _ rfl
    have f0 := frozenRow hb 0
    have HS : Hid (w.shape? b = some (120, 2)) := Lib.hid (by simp [World.shape?, hb])
    have hcv := Lib.run_to_unsafe (P := Tryz.prog) w ⟨b, 0, none⟩ Tryz.underlying117 Tryz.underlying181 hj (by rw [hjs]; decide) HS.out (Nat.zero_lt_succ 1)
    have hb2 := setBlock hb 0 (.pointer (some ⟨b, 0, none⟩))
    have HB2 : Hid ((w.setCell ⟨b, 0, none⟩ (.pointer (some ⟨b, 0, none⟩))).heap[b]? = some (.cells #[.pointer (some ⟨b, 0, none⟩), v] 120 (0, 0))) := Lib.hid (by simpa using hb2)
    clear hb hb2
    go_enter Tryz.func107, Tryz.ntmps107
    go_wp2_with fail
    rw [run_callFunc_extern Tryz.func131 (by kernel_rfl) (by kernel_rfl) (by kernel_rfl) (e := Extern.AbiNoEscape.same) (by kernel_rfl), Lib.run_noEscape]
    simp only [Result.andThen]
    rw [Oper.upon_value]
    go_wp2_with fail
    rw [Lib.run_from_unsafe (P := Tryz.prog) w ⟨b, 0, none⟩ Tryz.underlying181 Tryz.underlying117 hj HS.out (by kernel_rfl)]
    simp only [Result.andThen]
    rw [Oper.upon_value]
    go_wp2_with fail
    go_end0
    exact ⟨rfl, HB2.out, (Upd.refl (fun k => k = b) w).setCell (p := ⟨b, 0, none⟩) (.inl rfl) _⟩
  · have c0 := cellRow hb 0 _ rfl
    have hq := Lib.run_neq_ptr_same (P := Tryz.prog) w ⟨b, 0, none⟩ Tryz.underlying117 hj
    have HX := Lib.hid hb
    clear hb
    go_enter Tryz.func107, Tryz.ntmps107
    go_wp2_with fail
    go_end0
    exact ⟨rfl, HX.out, Upd.refl _ _⟩
theorem bdg_of {S : Nat → Prop} {b : Nat} {m : List UInt8} {w w1 w2 : World} {v v' : Value} (hS : ∀ k, S k → k < w.heap.size) (hSb : S b) (hu : Upd (fun k => k = b) w w1) (hb : w1.heap[b]? = some (.cells #[.pointer (some ⟨b, 0, none⟩), v] 120 (0, 0))) (hne : v.ownBlock ≠ some b) (hvS : ∀ k, v.ownBlock = some k → S k)
    {wA : World} (hA : Ext w1 wA) (hG : Grew 0 5 1 v m.length (Lib.byteCells m) wA w2 v') : BdG S b m w (w2.setCell ⟨b, 1, none⟩ v') := by
  have hb2 : w2.heap[b]? = some (.cells #[.pointer (some ⟨b, 0, none⟩), v] 120 (0, 0)) := hG.upd.heap (hA.heap hb (fun h => h)) hne
  have hb3 := setBlock hb2 1 v'
  have hb3 : (w2.setCell ⟨b, 1, none⟩ v').heap[b]? = some (.cells #[.pointer (some ⟨b, 0, none⟩), v'] 120 (0, 0)) := by simpa using hb3
  have hu3 := (Upd.refl (fun k => k = b) w2).setCell (p := ⟨b, 1, none⟩) (.inl rfl) v'
  have s1 := hu.size
  have sA := hA.size
  have s2 := hG.upd.size
  have s3 := hu3.size
  have hlt : b < w.heap.size := hS b hSb
  have hwh : ∀ k, v'.ownBlock = some k → S k ∨ k = wA.heap.size := fun k e => by
    rcases hG.where_ with h | h
    · rw [h] at e; exact .inl (hvS k e)
    · rw [h] at e; injection e with e; exact .inr e.symm
  have hne2 : v'.ownBlock ≠ some b := fun e => by
    rcases hG.where_ with h | h
    · rw [h] at e; exact hne e
    · rw [h] at e; injection e with e; omega
  have hnl : ∀ k, v'.ownBlock = some k → k < w2.heap.size := fun k e => (hG.own.lt k e).2
  refine ⟨fun k => S k ∨ v'.ownBlock = some k, ⟨fun k hk => ?_, .inl hSb, _, v', .inr rfl, hb3, own_kept hG.own hu3 (fun k hk e => hne2 (by rw [hk, e])), hne2, fun k hk => .inr hk⟩, fun k hk => ?_, ?_⟩
  · rcases hk with hk | hk
    · have := hS k hk; omega
    · have := hnl k hk; omega
  · rcases hk with hk | hk
    · exact .inl hk
    · rcases hwh k hk with h | h
      · exact .inl h
      · exact .inr (by omega)
  · have h1 : Upd S w w1 := hu.mono (fun k hk e => by rw [e]; exact hSb)
    have h2 : Upd S w w2 := (h1.trans (hA.mono (fun _ _ h => h.elim))).trans' hG.upd (fun k hk e => hvS k e)
    exact h2.trans' hu3 (fun k hk e => by rw [e]; exact hSb)
set_option maxRecDepth 100000 in
set_option maxHeartbeats 2000000 in
theorem wstr_s (S : Nat → Prop) (b : Nat) (l m : List UInt8) (w : World) (h : BdS S b l w) (hlen : l.length + m.length ≤ 140737488355328) :
    Calls Tryz.prog 69 #[.pointer (some ⟨b, 0, none⟩), .string (bs m)] w fun e w' => e = .returned (.tuple #[.int .i64 m.length, .nilIface]) ∧ BdG S b (l ++ m) w w' := by
  obtain ⟨i0, hi, hz0, hz1, hz2⟩ := info_parts infoU8
  obtain ⟨hS, hSb, p, v, hp, hb, hown, hne, hvS⟩ := h
  have HCC := Lib.hid (ccheck_s b p v w hp hb)
  have HSS := Lib.hid hS
  have HSB := Lib.hid hSb
  have HVS := Lib.hid hvS
  have HNE := Lib.hid hne
  have HOWN := Lib.hid hown
  have HBL := Lib.hid hb
  clear hS hSb hvS hne hown hp hb
  have hsz := bs_size m
  generalize hm : bs m = s at *
  have HM := Lib.hid hm
  clear hm
  go_enter Tryz.func69, Tryz.ntmps69
  go_wp2_with fail
  refine HCC.out.mono ?_
  rintro e w1 ⟨rfl, hbk, hu1⟩
  have HOW1 := Lib.hid (own_kept HOWN.out hu1 (fun k hk e => HNE.out (by rw [hk, e])))
  obtain ⟨va, vc, hvs⟩ := own_shape HOWN.out
  subst hvs
  have HU1 := Lib.hid hu1
  have HBK := Lib.hid hbk
  have c0 := cellRow hbk 0 _ rfl
  have c1 := cellRow hbk 1 _ rfl
  clear hbk hu1 HCC HBL
  go_wp2_with (at_builtin; refine wpList_append_str_at rfl _ _ 118 9 rfl 0 5 i0 Tryz.underlying118 Tryz.underlying9 hi hz0 hz1 hz2 _ _ _ rfl HOW1.out s rfl ?c3 ?c4 ?c5 ?_)
  case c3 => unfold maxLen; omega
  case c4 => omega
  case c5 => exact Nat.zero_le _
  intro v' w2 hG
  obtain ⟨xa, xc, hxs⟩ := own_shape hG.own
  subst hxs
  have hb2 := hG.upd.heap HBK.out HNE.out
  have HG := Lib.hid hG
  clear hG c0 c1
  have c0 := cellRow hb2 0 _ rfl
  have c1 := cellRow hb2 1 _ rfl
  have f1 := frozenRow hb2 1
  clear hb2
  go_wp2_with fail
  go_ret2
  refine ⟨rfl, ?_⟩
  have hG2 : Grew 0 5 1 (.slice va l.length vc) (l ++ m).length (Lib.byteCells (l ++ m)) w1 w2 (.slice xa (l.length + m.length) xc) := by
    have h8 := HG.out
    rw [← HM.out, Lib.strCells_eq, bs_data] at h8
    rw [show Lib.byteCells (l ++ m) = Lib.byteCells l ++ Lib.byteCells m by simp [Lib.byteCells], List.length_append]
    try rw [bs_size] at h8
    try rw [hsz] at h8
    exact h8
  exact bdg_of HSS.out HSB.out HU1.out HBK.out HNE.out HVS.out (Upd.refl _ _) hG2
set_option maxRecDepth 100000 in
set_option maxHeartbeats 2000000 in
theorem wbyte_s (S : Nat → Prop) (b : Nat) (l : List UInt8) (c : UInt8) (w : World) (h : BdS S b l w) (hlen : l.length + 1 ≤ 140737488355328) :
    Calls Tryz.prog 112 #[.pointer (some ⟨b, 0, none⟩), .int .u8 (c.toNat : Int)] w fun e w' => e = .returned .nilIface ∧ BdG S b (l ++ [c]) w w' := by
  obtain ⟨i0, hi, hz0, hz1, hz2⟩ := info_parts infoU8
  obtain ⟨hS, hSb, p, v, hp, hb, hown, hne, hvS⟩ := h
  have HCC := Lib.hid (ccheck_s b p v w hp hb)
  have HSS := Lib.hid hS
  have HSB := Lib.hid hSb
  have HVS := Lib.hid hvS
  have HNE := Lib.hid hne
  have HOWN := Lib.hid hown
  clear hS hSb hvS hne hown hp hb
  have HM : Hid (Lib.byteCells (l ++ [c]) = Lib.byteCells l ++ [.int .u8 (c.toNat : Int)]) := Lib.hid (by simp [Lib.byteCells])
  obtain ⟨d, hd⟩ : ∃ d : Int, (c.toNat : Int) = d := ⟨_, rfl⟩
  rw [hd] at HM
  rw [hd]
  clear hd
  go_enter Tryz.func112, Tryz.ntmps112
  go_wp2_with fail
  refine HCC.out.mono ?_
  rintro e w1 ⟨rfl, hbk, hu1⟩
  have HOW1 := Lib.hid (own_kept HOWN.out hu1 (fun k hk e => HNE.out (by rw [hk, e])))
  obtain ⟨va, vc, hvs⟩ := own_shape HOWN.out
  subst hvs
  have HU1 := Lib.hid hu1
  have HBK := Lib.hid hbk
  have c0 := cellRow hbk 0 _ rfl
  have c1 := cellRow hbk 1 _ rfl
  clear hbk hu1 HCC
  have HA : Hid (Ext w1 (w1.alloc (.cells #[.int .u8 d] 5))) := Lib.hid ((Upd.refl (fun _ => False) w1).alloc _)
  have HN := Lib.hid (alloc0 w1 (.cells #[.int .u8 d] 5))
  go_wp2_with (at_builtin; refine wpList_append_at _ rfl (.tmp 11) (.tmp 13) 118 rfl 0 5 i0 (.int .u8 0) 1 1 Tryz.underlying118 hi hz0 hz1 hz2 rfl (by decide) _ _ _ rfl (HOW1.out.alloc _) ⟨w1.heap.size, 0, none⟩ 1 1 [.int .u8 d] rfl rfl ?c1 ?c2 ?c3 ?c4 ?c5 ?_)
  case c1 =>
    intro j u hj
    match j, hj with
    | 0, hj => simp at hj; subst hj; simp only [Addr.add]; exact cellRow HN.out 0 _ rfl
  case c2 => intro u hu; simp at hu; subst hu; rfl
  case c3 => unfold maxLen; omega
  case c4 => omega
  case c5 => exact Nat.zero_le _
  intro v' w2 hG
  obtain ⟨xa, xc, hxs⟩ := own_shape hG.own
  subst hxs
  have hb2 := hG.upd.heap (HA.out.heap HBK.out (fun h => h)) HNE.out
  have HG := Lib.hid hG
  clear hG c0 c1
  have c0 := cellRow hb2 0 _ rfl
  have c1 := cellRow hb2 1 _ rfl
  have f1 := frozenRow hb2 1
  clear hb2
  go_wp2_with fail
  go_ret
  refine ⟨rfl, ?_⟩
  have hG2 : Grew 0 5 1 (.slice va l.length vc) (l ++ [c]).length (Lib.byteCells (l ++ [c])) (w1.alloc (.cells #[.int .u8 d] 5)) w2 (.slice xa (l.length + 1) xc) := by
    rw [HM.out, List.length_append]
    exact HG.out
  exact bdg_of HSS.out HSB.out HU1.out HBK.out HNE.out HVS.out HA.out hG2

end Go.Proofs.YtjjaknmnhhfjeaaGreatDoor

/- write and Text of the program. -/
namespace Go.Proofs.YtjjaknmnhhfjeaaGreatDoor
open Go.RowKit Go.Hw Go Go.Sort Go.Proofs Go.ChangeMaps
set_option linter.unusedVariables false
set_option linter.unusedSimpArgs false

open Tm
theorem below_tr' {a b c : World} {B : Nat} (h : Ext a b) (k : Below B b c) (hB : a.heap.size ≤ B) : Ext a c :=
  ⟨k.os.trans h.os, k.tape.trans h.tape, k.output.trans h.output, Nat.le_trans h.size k.size, fun i hi hF => by rw [k.block i (by omega), h.block i hi hF]⟩
theorem BdG.from {S : Nat → Prop} {b : Nat} {l : List UInt8} {w w1 w' : World} (h : BdG S b l w1 w') (hE : Ext w w1) : BdG S b l w w' := by
  obtain ⟨S', h1, h2, h3⟩ := h
  have := hE.size
  exact ⟨S', h1, fun k hk => (h2 k hk).imp id (fun h => by omega), (hE.mono (fun _ _ h => h.elim)).trans h3⟩
theorem txTs_snoc (L : List Tm) (k : Nat) (h : k < L.length) : txTs true (L.take (k + 1)) = txTs true (L.take k) ++ ((if k = 0 then [] else [44, 32]) ++ txT (tg L k)) := by
  have e : L.take (k + 1) = L.take k ++ [tg L k] := by
    rw [List.take_succ_eq_append_getElem h]
    congr 2
    unfold tg
    rw [List.getD_eq_getElem?_getD, List.getElem?_eq_getElem h]; rfl
  rw [e, txTs_app]
  congr 1
  rw [txTs, txTs, List.append_nil]
  cases k with
  | zero => simp
  | succ k =>
    have : (L.take (k + 1)).isEmpty = false := by
      cases L with
      | nil => simp at h
      | cons a L => rfl
    rw [this]; rfl
theorem txTs_le (L : List Tm) (k : Nat) : (txTs true (L.take k)).length ≤ (txTs true L).length := by
  have := txTs_app (L.take k) (L.drop k) true
  rw [List.take_append_drop] at this
  rw [this, List.length_append]; omega
theorem col_app (so : By) : (⟨#[58]⟩ : ByteArray) ++ so = bs (58 :: so.data.toList) := by
  have h := bs_app [58] so.data.toList
  rw [bs_of] at h
  exact h
theorem bdg_two {S S2 : Nat → Prop} {b : Nat} {l m : List UInt8} {w w1 w2 : World} (h : BdS S2 b l w1 ∧ (∀ k, S2 k → S k ∨ w.heap.size ≤ k) ∧ Upd S w w1) (h2 : BdG S2 b m w1 w2) : BdG S b m w w2 := by
  obtain ⟨h1, hs, hu⟩ := h
  obtain ⟨S3, g1, gs, gu⟩ := h2
  have hz := hu.size
  exact ⟨S3, g1, fun k hk => (gs k hk).elim (fun h => hs k h) (fun h => .inr (by omega)), hu.trans' gu (fun k hk e => (hs k e).elim (fun h => h) (fun h => by omega))⟩
set_option maxRecDepth 100000 in
set_option maxHeartbeats 8000000 in
theorem write_t (b : Nat) : ∀ (t : Tm) (u : Value) (T S : Nat → Prop) (l : List UInt8) (w : World), BdS S b l w → TmR T w t u → (∀ k, T k → k < w.heap.size ∧ ¬ S k) → t.size ≤ 100000 → l.length + (txT t).length ≤ 140737488355328 →
    Calls Tryz.prog 79 #[.pointer (some ⟨b, 0, none⟩), u] w fun e w' => e = .returned (.tuple #[]) ∧ BdG S b (l ++ txT t) w w' := by
  refine Tm.ind (fun nm so L ih => ?_)
  intro u T S l w hB hT hTS hsz hlen
  obtain ⟨a, cap, rfl, hT⟩ := hT
  dsimp only [tV, Tm.name, Tm.sort, Tm.kids] at hT ⊢
  have HTL := Lib.hid hT
  have HIH := Lib.hid ih
  have HTS := Lib.hid hTS
  have HB := Lib.hid hB
  have hszL : sizes L + 1 ≤ 100000 := by rw [size_eq] at hsz; simp only [Tm.kids] at hsz; omega
  have HSL := Lib.hid hszL
  have hlL : L.length ≤ 100000 := by have h1 := length_le_sizes L; omega
  have HTX : Hid (txT (.mk nm so L) = nm.data.toList ++ (if so ≠ nul then 58 :: so.data.toList else 40 :: (txTs true L ++ [41]))) := Lib.hid (by rw [txT])
  have HLN := Lib.hid hlen
  have HE1 := Lib.hid ((Upd.refl (fun _ => False) w).alloc (.cells #[.string nm, .string so, .slice a L.length cap] 24))
  have HX1 := Lib.hid (alloc0 w (.cells #[.string nm, .string so, .slice a L.length cap] 24))
  have hz1 := alloc_size w (.cells #[.string nm, .string so, .slice a L.length cap] 24)
  have hln1 : l.length + nm.data.toList.length ≤ 140737488355328 := by rw [HTX.out, List.length_append] at hlen; omega
  have HW1 := Lib.hid (wstr_s S b l nm.data.toList (w.alloc (.cells #[.string nm, .string so, .slice a L.length cap] 24)) (hB.ext HE1.out) hln1)
  rw [bs_of] at HW1
  obtain ⟨x0, hx0⟩ : ∃ x0, w.heap.size = x0 := ⟨_, rfl⟩
  rw [hx0] at HX1
  have HSX : Hid (∀ k, S k → k < x0) := Lib.hid (fun k hk => by have := hB.1 k hk; omega)
  clear ih hB hT hTS hsz hszL hlen hln1
  have c0 := cellRow HX1.out 0 (.string nm) rfl
  have c1 := cellRow HX1.out 1 (.string so) rfl
  have c2 := cellRow HX1.out 2 (.slice a L.length cap) rfl
  go_enter Tryz.func79, Tryz.ntmps79
  go_wp2_with fail
  try rw [hx0]
  generalize w.alloc (.cells #[.string nm, .string so, .slice a L.length cap] 24) = w1 at *
  refine HW1.out.mono ?_
  rintro e w2 ⟨rfl, hg⟩
  obtain ⟨S2, hb2, hs2, hu2⟩ := hg
  have HS2 := Lib.hid hs2
  have HB2 := Lib.hid hb2
  have HU2 := Lib.hid hu2
  have hz2 := hu2.size
  clear hs2 hb2 hu2
  have HX2 := Lib.hid (HU2.out.heap HX1.out (fun h => by have := HSX.out _ h; omega))
  have HN2 : Hid (¬ S2 x0) := Lib.hid (fun h => by
    rcases HS2.out _ h with h | h
    · have := HSX.out _ h; omega
    · omega)
  clear c0 c1 c2 HW1
  have c1 := cellRow HX2.out 1 (.string so) rfl
  have c2 := cellRow HX2.out 2 (.slice a L.length cap) rfl
  by_cases hso : so = nul
  case neg =>
    have hne : 0 < so.size := by
      rcases Nat.eq_zero_or_pos so.size with h | h
      · exact absurd (empty_is so h) hso
      · exact h
    obtain ⟨z1, z2, z3, z4⟩ := nonempty_t so hne
    have HFIN : Hid (txT (.mk nm so L) = nm.data.toList ++ 58 :: so.data.toList) := Lib.hid (by rw [HTX.out, if_pos hso])
    have HW3 := Lib.hid (wstr_s S2 b _ (58 :: so.data.toList) w2 HB2.out (by have h1 := HLN.out; rw [HFIN.out, List.length_append] at h1; rw [List.length_append]; omega))
    rw [← col_app] at HW3
    have n1 : ¬ (9223372036854775807 < 1 + so.size) := by
      have h1 := HLN.out
      rw [HFIN.out] at h1
      have : so.data.toList.length = so.size := rfl
      simp only [List.length_append, List.length_cons] at h1
      omega
    clear hso hne
    go_wp2_with fail
    refine HW3.out.mono ?_
    rintro e w3 ⟨rfl, hg⟩
    have HG3 := Lib.hid hg
    clear hg HW3
    go_wp2_with fail
    refine bodyPost_ret (v := .tuple #[]) (by simp [results, Tryz.results79, go_sem]) rfl ?_
    rw [HFIN.out, ← List.append_assoc]
    exact ⟨rfl, (bdg_two ⟨HB2.out, HS2.out, HU2.out⟩ HG3.out).from HE1.out⟩
  obtain rfl : so = ⟨#[]⟩ := hso
  have HFIN : Hid (txT (.mk nm ⟨#[]⟩ L) = nm.data.toList ++ 40 :: (txTs true L ++ [41])) := Lib.hid (by rw [HTX.out, if_neg (fun h => h rfl)])
  have HLL : Hid (l.length + nm.data.toList.length + (txTs true L).length + 2 ≤ 140737488355328) := Lib.hid (by
    have h1 := HLN.out
    rw [HFIN.out] at h1
    simp only [List.length_append, List.length_cons, List.length_nil] at h1
    omega)
  have HW3 : Hid (Calls Tryz.prog 112 #[.pointer (some ⟨b, 0, none⟩), .int .u8 40] w2 fun e w' => e = .returned .nilIface ∧ BdG S2 b ((l ++ nm.data.toList) ++ [40]) w2 w') := Lib.hid (wbyte_s S2 b _ 40 w2 HB2.out (by have := HLL.out; rw [List.length_append]; omega))
  clear HTX HLN
  go_wp2_with fail
  refine HW3.out.mono ?_
  rintro e w3 ⟨rfl, hg⟩
  obtain ⟨S3, hb3, hs3, hu3⟩ := hg
  have HS3 := Lib.hid hs3
  have HB3 := Lib.hid hb3
  have HU3 := Lib.hid hu3
  have hz3 := hu3.size
  clear hs3 hb3 hu3
  have HX3 := Lib.hid (HU3.out.heap HX2.out HN2.out)
  clear c1 c2 HW3
  have c2 := cellRow HX3.out 2 (.slice a L.length cap) rfl
  have HA0 : Hid (∀ j, S3 j → S j ∨ x0 ≤ j) := Lib.hid (fun j hj => by
    rcases HS3.out j hj with h | h
    · exact (HS2.out j h).imp id (fun h => by omega)
    · exact .inr (by omega))
  have HUU : Hid (Upd S w w3) := Lib.hid (((HE1.out.mono (fun _ _ h => h.elim)).trans HU2.out).trans' HU3.out (fun j hj e => (HS2.out j e).elim (fun h => h) (fun h => by omega)))
  obtain ⟨P, hP⟩ : ∃ P, (l ++ nm.data.toList) ++ [40] = P := ⟨_, rfl⟩
  rw [hP] at HB3
  have HPP := Lib.hid hP
  have HPL : Hid (P.length + (txTs true L).length + 1 ≤ 140737488355328) := Lib.hid (by rw [← hP, List.length_append, List.length_append]; have := HLL.out; simp only [List.length_cons, List.length_nil]; omega)
  have HBL0 : Hid (BdS S3 b (P ++ txTs true (L.take 0)) w3) := Lib.hid (by rw [List.take_zero, txTs, List.append_nil]; exact HB3.out)
  clear hP HLL
  go_wp2_with fail
  clear c2
  go_loopg [4, 5, 23] L.length (fun gk _ _ i wr => ∃ (k : Nat) (A : Nat → Prop), i = .int .i64 (k : Int) ∧ gk = L.length - k ∧ k ≤ L.length ∧ Hid (BdS A b (P ++ txTs true (L.take k)) wr) ∧ Hid (∀ j, A j → S j ∨ x0 ≤ j) ∧ Hid (Upd S w wr))
  case atStart => exact ⟨0, S3, rfl, rfl, Nat.zero_le _, HBL0, HA0, HUU⟩
  case round =>
    clear HBL0 HA0 HUU HB3 HS3 HU3 HX3 HX2 HX1 HB2 HS2 HU2 HN2 hz2 hz3 hz1
    obtain ⟨k, A, rfl, rfl, hk, HBA, HAS, HUA⟩ := hrel
    by_cases hlt : k < L.length
    · obtain ⟨g, off, hga, _, hat⟩ := (HTL.out.kept HUA.out (fun j hj => (HTS.out j hj).2)).at_ (by omega)
      subst hga
      obtain ⟨xa, xc, q0, q1, q2, hkid⟩ := hat k hlt
      rw [← Nat.add_assoc] at q1 q2
      have z0 : (0 : Int) ≤ (k : Int) := by omega
      have z1 : (k : Int) < (L.length : Int) := by omega
      have z2 : decide ((k : Int) < (L.length : Int)) = true := decide_eq_true z1
      have z2' : decide (k < L.length) = true := decide_eq_true hlt
      have HIX := Lib.hid (HIH.out (tg L k) (tg_mem L k hlt))
      have hxs : (tg L k).size ≤ 100000 := by have h1 := HSL.out; have h2 := sizes_take L k hlt; have h3 := sizes_take_le L (k + 1); omega
      have HSN := Lib.hid (txTs_snoc L k hlt)
      have HLE := Lib.hid (txTs_le L (k + 1))
      obtain ⟨x, hx⟩ : ∃ x, tg L k = x := ⟨_, rfl⟩
      rw [hx] at q0 q1 q2 HIX HSN hxs hkid
      have HKID := Lib.hid hkid
      have HQ := Lib.hid ((Upd.refl (fun _ => False) wr).alloc (.cells #[.string x.name, .string x.sort, .slice xa x.kids.length xc] 24))
      have HBX := Lib.hid (alloc0 wr (.cells #[.string x.name, .string x.sort, .slice xa x.kids.length xc] 24))
      have b0 := cellRow HBX.out 0 (.string x.name) rfl
      have b1 := cellRow HBX.out 1 (.string x.sort) rfl
      have b2 := cellRow HBX.out 2 (.slice xa x.kids.length xc) rfl
      have hzq := alloc_size wr (.cells #[.string x.name, .string x.sort, .slice xa x.kids.length xc] 24)
      have HBQ := Lib.hid (HBA.out.ext HQ.out)
      have hAl := HBA.out.1
      have hsw := HUA.out.size
      have HTQ : Hid (∀ j, T j → j < (wr.alloc (.cells #[.string x.name, .string x.sort, .slice xa x.kids.length xc] 24)).heap.size ∧ ¬ A j) := Lib.hid (fun j hj => ⟨by have := (HTS.out j hj).1; omega, fun h => (HAS.out j h).elim (HTS.out j hj).2 (fun h => by have := (HTS.out j hj).1; omega)⟩)
      have HUQ : Hid (Upd S w (wr.alloc (.cells #[.string x.name, .string x.sort, .slice xa x.kids.length xc] 24))) := Lib.hid (HUA.out.trans (HQ.out.mono (fun _ _ h => h.elim)))
      have HAL := Lib.hid hAl
      clear hat hkid hx hAl
      by_cases hk0 : k = 0
      · subst hk0
        simp only [Nat.zero_mul, Nat.add_zero] at q0 q1 q2
        have HC := Lib.hid (HIX.out (.agg #[.string x.name, .string x.sort, .slice xa x.kids.length xc]) T A _ (wr.alloc (.cells #[.string x.name, .string x.sort, .slice xa x.kids.length xc] 24)) HBQ.out ⟨xa, xc, rfl, HKID.out.ext HQ.out⟩ HTQ.out hxs (by
          have h1 := HPL.out; have h2 := HLE.out; have h3 := HSN.out
          rw [h3] at h2
          simp only [List.length_append, if_true, List.nil_append] at h2 ⊢
          omega))
        go_wp2_with fail
        generalize wr.alloc (.cells #[.string x.name, .string x.sort, .slice xa x.kids.length xc] 24) = wq at *
        refine HC.out.mono ?_
        rintro e w4 ⟨rfl, hg⟩
        obtain ⟨S4, hb4, hs4, hu4⟩ := hg
        have HS4 := Lib.hid hs4
        have HB4 := Lib.hid hb4
        have HU4 := Lib.hid hu4
        have hz4 := hu4.size
        clear hs4 hb4 hu4
        clear HC
        go_wp2_with fail
        go_roundg (L.length - (0 + 1))
        case measure => omega
        case rel => exact ⟨0 + 1, S4, by go_num, rfl, by omega, Lib.hid (by have h9 := HSN.out; simp only [if_true, List.nil_append] at h9; rw [h9, ← List.append_assoc]; exact HB4.out), Lib.hid (fun j hj => by
          rcases HS4.out j hj with h | h
          · exact HAS.out j h
          · exact .inr (by omega)), Lib.hid (HUQ.out.trans' HU4.out (fun j hj e => (HAS.out j e).elim (fun h => h) (fun h => by omega)))⟩
      · have hkp : ¬ (k : Int) = 0 := by omega
        have y1 : (0 : Int) < (k : Int) := by omega
        have y2 : decide ((0 : Int) < (k : Int)) = true := decide_eq_true y1
        have y2' : decide (0 < k) = true := decide_eq_true (by omega)
        have HWS := Lib.hid (wstr_s A b _ [44, 32] (wr.alloc (.cells #[.string x.name, .string x.sort, .slice xa x.kids.length xc] 24)) HBQ.out (by
          have h1 := HPL.out; have h2 := HLE.out; have h3 := HSN.out
          rw [h3, if_neg hk0] at h2
          simp only [List.length_append, List.length_cons, List.length_nil] at h2 ⊢
          omega))
        obtain ⟨bx, hbx⟩ : ∃ q, wr.heap.size = q := ⟨_, rfl⟩
        rw [hbx] at HBX b0 b1 b2
        rw [show bs [44, 32] = (⟨#[44, 32]⟩ : ByteArray) from rfl] at HWS
        go_wp2_with fail
        try rw [hbx]
        generalize wr.alloc (.cells #[.string x.name, .string x.sort, .slice xa x.kids.length xc] 24) = wq at *
        refine HWS.out.mono ?_
        rintro e w4 ⟨rfl, hg⟩
        obtain ⟨S4, hb4, hs4, hu4⟩ := hg
        have HS4 := Lib.hid hs4
        have HB4 := Lib.hid hb4
        have HU4 := Lib.hid hu4
        have hz4 := hu4.size
        clear hs4 hb4 hu4
        clear HWS b0 b1 b2
        have HBX4 := Lib.hid (HU4.out.heap HBX.out (fun h => by have := HAL.out _ h; omega))
        have b0 := cellRow HBX4.out 0 (.string x.name) rfl
        have b1 := cellRow HBX4.out 1 (.string x.sort) rfl
        have b2 := cellRow HBX4.out 2 (.slice xa x.kids.length xc) rfl
        have HC := Lib.hid (HIX.out (.agg #[.string x.name, .string x.sort, .slice xa x.kids.length xc]) T S4 _ w4 HB4.out ⟨xa, xc, rfl, (HKID.out.ext HQ.out).kept HU4.out (fun j hj => (HTQ.out j hj).2)⟩ (fun j hj => ⟨by have := (HTQ.out j hj).1; omega, fun h => (HS4.out j h).elim (HTQ.out j hj).2 (fun h => by have := (HTQ.out j hj).1; omega)⟩) hxs (by
          have h1 := HPL.out; have h2 := HLE.out; have h3 := HSN.out
          rw [h3, if_neg hk0] at h2
          simp only [List.length_append, List.length_cons, List.length_nil] at h2 ⊢
          omega))
        go_wp2_with fail
        refine HC.out.mono ?_
        rintro e w5 ⟨rfl, hg⟩
        obtain ⟨S5, hb5, hs5, hu5⟩ := hg
        have HS5 := Lib.hid hs5
        have HB5 := Lib.hid hb5
        have HU5 := Lib.hid hu5
        have hz5 := hu5.size
        clear hs5 hb5 hu5
        clear HC
        go_wp2_with fail
        go_roundg (L.length - (k + 1))
        case measure => omega
        case rel => exact ⟨k + 1, S5, by go_num, rfl, by omega, Lib.hid (by rw [HSN.out, if_neg hk0, ← List.append_assoc, ← List.append_assoc]; exact HB5.out), Lib.hid (fun j hj => by
          rcases HS5.out j hj with h | h
          · rcases HS4.out j h with h | h
            · exact HAS.out j h
            · exact .inr (by omega)
          · exact .inr (by omega)), Lib.hid ((HUQ.out.trans' HU4.out (fun j hj e => (HAS.out j e).elim (fun h => h) (fun h => by omega))).trans' HU5.out (fun j hj e => by
          rcases HS4.out j e with h | h
          · exact (HAS.out j h).elim (fun h => h) (fun h => by omega)
          · omega))⟩
    · obtain rfl : L.length = k := by omega
      have HBE : Hid (BdS A b (P ++ txTs true L) wr) := Lib.hid (by have := HBA.out; rw [List.take_length] at this; exact this)
      have z2 : decide ((L.length : Int) < (L.length : Int)) = false := decide_eq_false (by omega)
      have HC : Hid (Calls Tryz.prog 112 #[.pointer (some ⟨b, 0, none⟩), .int .u8 41] wr fun e w' => e = .returned .nilIface ∧ BdG A b ((P ++ txTs true L) ++ [41]) wr w') := Lib.hid (wbyte_s A b _ 41 wr HBE.out (by have := HPL.out; rw [List.length_append]; omega))
      have hsw := HUA.out.size
      clear hlt HBA
      go_wp2_with fail
      refine HC.out.mono ?_
      rintro e w4 ⟨rfl, hg⟩
      obtain ⟨S4, hb4, hs4, hu4⟩ := hg
      have HS4 := Lib.hid hs4
      have HB4 := Lib.hid hb4
      have HU4 := Lib.hid hu4
      have hz4 := hu4.size
      clear hs4 hb4 hu4
      clear HC
      go_wp2_with fail
      go_end0
      refine ⟨rfl, S4, ?_, fun j hj => ?_, HUA.out.trans' HU4.out (fun j hj e => (HAS.out j e).elim (fun h => h) (fun h => by omega))⟩
      · rw [HFIN.out]
        have h9 := HB4.out
        rw [← HPP.out] at h9
        simpa using h9
      · rcases HS4.out j hj with h | h
        · exact (HAS.out j h).imp id (fun h => by omega)
        · exact .inr (by omega)
set_option maxRecDepth 100000 in
set_option maxHeartbeats 2000000 in
theorem Text_x (t : Tm) (v : Value) (w : World) (htab : AscT w) (hT : TmR (fun k => k < w.heap.size) w t v) (hsz : t.size ≤ 100000) (hl : wf nmB t = true → (txT t).length ≤ 140737488355328) :
    Calls Tryz.prog 27 #[v] w fun e w' => e = .returned (.tuple #[.string (if wf nmB t = false then nul else (fitF (txT t)).1), .int .i64 (if wf nmB t = false then 1 else (fitF (txT t)).2)]) ∧ Ext w w' := by
  obtain ⟨a, cap, rfl, hT⟩ := hT
  dsimp only [tV]
  have HTL := Lib.hid hT
  have HE1 := Lib.hid ((Upd.refl (fun _ => False) w).alloc (.cells #[.string t.name, .string t.sort, .slice a t.kids.length cap] 24))
  have HX1 := Lib.hid (alloc0 w (.cells #[.string t.name, .string t.sort, .slice a t.kids.length cap] 24))
  have hz1 := alloc_size w (.cells #[.string t.name, .string t.sort, .slice a t.kids.length cap] 24)
  have HWF := Lib.hid (wellFormed_x t (.agg #[.string t.name, .string t.sort, .slice a t.kids.length cap]) (w.alloc (.cells #[.string t.name, .string t.sort, .slice a t.kids.length cap] 24)) (asc_ext htab HE1.out) ⟨a, cap, rfl, (hT.ext HE1.out).weaken (fun k hk => by omega)⟩ (by omega))
  obtain ⟨V1, hV1⟩ : ∃ V, (if wf nmB t = false then nul else (fitF (txT t)).1) = V := ⟨_, rfl⟩
  obtain ⟨V2, hV2⟩ : ∃ V, (if wf nmB t = false then (1 : Int) else (fitF (txT t)).2) = V := ⟨_, rfl⟩
  rw [hV1, hV2]
  have HV1 := Lib.hid hV1
  have HV2 := Lib.hid hV2
  clear hV1 hV2 hT htab
  obtain ⟨wb, hwb⟩ : ∃ b, wf nmB t = b := ⟨_, rfl⟩
  rw [hwb] at HWF HV1 HV2 hl
  have HTX := Lib.hid hl
  clear hwb hl
  have c0 := cellRow HX1.out 0 (.string t.name) rfl
  have c1 := cellRow HX1.out 1 (.string t.sort) rfl
  have c2 := cellRow HX1.out 2 (.slice a t.kids.length cap) rfl
  go_enter Tryz.func27, Tryz.ntmps27
  go_wp2_with fail
  obtain ⟨x0, hx0⟩ : ∃ x0, w.heap.size = x0 := ⟨_, rfl⟩
  rw [hx0] at HX1
  try rw [hx0]
  generalize w.alloc (.cells #[.string t.name, .string t.sort, .slice a t.kids.length cap] 24) = w1 at *
  refine HWF.out.mono ?_
  rintro e w2 ⟨rfl, h2⟩
  have HE2 := Lib.hid (HE1.out.trans h2)
  have HX2 := Lib.hid (h2.heap HX1.out (fun h => h))
  have hz2 := h2.size
  clear h2 HWF c0 c1 c2
  cases wb
  · have HR1 : Hid (V1 = nul) := Lib.hid (by rw [← HV1.out, if_pos rfl])
    have HR2 : Hid (V2 = 1) := Lib.hid (by rw [← HV2.out, if_pos rfl])
    clear HV1 HV2
    go_wp2_with fail
    refine bodyPost_ret (v := .tuple #[.string ⟨#[]⟩, .int .i64 1]) (by simp [results, Tryz.results27, go_sem]) rfl ?_
    rw [HR1.out, HR2.out]
    exact ⟨rfl, HE2.out⟩
  have HR1 : Hid (V1 = (fitF (txT t)).1) := Lib.hid (by rw [← HV1.out, if_neg (by decide)])
  have HR2 : Hid (V2 = (fitF (txT t)).2) := Lib.hid (by rw [← HV2.out, if_neg (by decide)])
  clear HV1 HV2
  have HE3 := Lib.hid ((Upd.refl (fun _ => False) w2).alloc (.cells #[.pointer none, .slice none 0 0] 120))
  have HX3 := Lib.hid (allocOld HX2.out (.cells #[.pointer none, .slice none 0 0] 120))
  have HZ3 := Lib.hid (alloc0 w2 (.cells #[.pointer none, .slice none 0 0] 120))
  have hz3 := alloc_size w2 (.cells #[.pointer none, .slice none 0 0] 120)
  obtain ⟨b, hb⟩ : ∃ b, w2.heap.size = b := ⟨_, rfl⟩
  rw [hb] at HZ3
  have HBS : Hid (BdS (fun k => k = b) b [] (w2.alloc (.cells #[.pointer none, .slice none 0 0] 120))) := Lib.hid ⟨fun k hk => by rw [hk]; omega, rfl, _, _, .inl rfl, HZ3.out, ⟨rfl, .inl ⟨rfl, rfl⟩⟩, fun e => (by cases e), fun k e => (by cases e)⟩
  have HWT := Lib.hid (write_t b t (.agg #[.string t.name, .string t.sort, .slice a t.kids.length cap]) (fun k => k < w.heap.size) (fun k => k = b) [] (w2.alloc (.cells #[.pointer none, .slice none 0 0] 120)) HBS.out ⟨a, cap, rfl, HTL.out.ext (HE2.out.trans HE3.out)⟩ (fun k hk => ⟨by omega, fun e => by omega⟩) hsz (by rw [List.length_nil]; have := HTX.out (by simp); omega))
  rw [List.nil_append] at HWT
  have c0 := cellRow HX3.out 0 (.string t.name) rfl
  have c1 := cellRow HX3.out 1 (.string t.sort) rfl
  have c2 := cellRow HX3.out 2 (.slice a t.kids.length cap) rfl
  go_wp2_with fail
  try rw [hb]
  generalize w2.alloc (.cells #[.pointer none, .slice none 0 0] 120) = w3 at *
  refine HWT.out.mono ?_
  rintro e w4 ⟨rfl, S4, hb4, hs4, hu4⟩
  obtain ⟨_, _, p, vv, hp, hbk, hown, hne, hvS⟩ := hb4
  have hz4 := hu4.size
  have hbd : BdR b b (txT t) w4 := by
    have hown2 : w4.ownsRow b 5 1 vv (Lib.byteCells (txT t)).length (Lib.byteCells (txT t)) := by
      rw [Lib.byteCells_length]
      refine ⟨hown.1, hown.2.imp id (fun ⟨g, c, cur, e, _, h2⟩ => ⟨g, c, cur, e, ?_, h2⟩)⟩
      have h7 : vv.ownBlock = some g := by rw [e]; rfl
      rcases hs4 g (hvS g h7) with h | h
      · omega
      · omega
    rcases hp with rfl | rfl
    · exact Or.inl ⟨Nat.le_refl _, vv, hbk, hown2, hne⟩
    · exact Or.inr ⟨Nat.le_refl _, vv, hbk, hown2, hne⟩
  have HST := Lib.hid (bstr_x b b (txT t) w4 hbd (by omega))
  have HE4 : Hid (Ext w w4) := Lib.hid ((HE2.out.trans HE3.out).trans' hu4 (fun j hj e => by omega))
  have HFT := Lib.hid (fun W => fit_x (txT t) W)
  obtain ⟨⟨f1, f2⟩, hf⟩ : ∃ q, fitF (txT t) = q := ⟨_, rfl⟩
  rw [hf] at HFT HR1 HR2
  dsimp only at HFT HR1 HR2
  clear hbk hown hne hvS hp hbd hs4 hu4 HWT c0 c1 c2 hf HBS
  go_wp2_with fail
  refine HST.out.mono ?_
  rintro e w5 ⟨rfl, h5⟩
  have HE5 := Lib.hid (below_tr' HE4.out h5 (by omega))
  clear h5 HST
  go_wp2_with fail
  refine (HFT.out w5).mono ?_
  rintro e w6 ⟨rfl, h6⟩
  have HE6 := Lib.hid (HE5.out.trans h6)
  clear h6 HFT
  go_wp2_with fail
  refine bodyPost_ret (v := .tuple #[.string f1, .int .i64 f2]) (by simp [results, Tryz.results27, go_sem]) rfl ?_
  rw [HR1.out, HR2.out]
  exact ⟨rfl, HE6.out⟩

end Go.Proofs.YtjjaknmnhhfjeaaGreatDoor

/- wide of law02. -/
namespace Go.Proofs.YtjjaknmnhhfjeaaGreatDoor
open Go.RowKit Go.Hw Go Go.Sort Go.Proofs Go.ChangeMaps
set_option linter.unusedVariables false
set_option linter.unusedSimpArgs false

open Tm
end Go.Proofs.YtjjaknmnhhfjeaaGreatDoor

/- What is put is there: pure. -/
namespace Go.Proofs.YtjjaknmnhhfjeaaGreatDoor
open Go.RowKit Go.Hw Go Go.Sort Go.Proofs Go.ChangeMaps
set_option linter.unusedVariables false
set_option linter.unusedSimpArgs false

open Tm
end Go.Proofs.YtjjaknmnhhfjeaaGreatDoor
