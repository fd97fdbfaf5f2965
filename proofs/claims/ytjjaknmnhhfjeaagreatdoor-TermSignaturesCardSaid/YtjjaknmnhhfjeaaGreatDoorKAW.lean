/- The texts Y18 Y33 Y36, one behind the other. -/
import Derived.Test.YtjjaknmnhhfjeaaGreatDoorKAU
import Derived.Test.YtjjaknmnhhfjeaaGreatDoorKAV
import Derived.Lib.AtoiAllCases
/- The law TermPaths. -/
namespace Go.Proofs.YtjjaknmnhhfjeaaGreatDoor
open Go.RowKit Go.Hw Go Go.Sort Go.Proofs Go.ChangeMaps
set_option linter.unusedVariables false
set_option linter.unusedSimpArgs false

open Tm
end Go.Proofs.YtjjaknmnhhfjeaaGreatDoor

/- Integers of the lexer: pure. -/
namespace Go.Proofs.YtjjaknmnhhfjeaaGreatDoor
open Go.RowKit Go.Hw Go Go.Sort Go.Proofs Go.ChangeMaps
set_option linter.unusedVariables false
set_option linter.unusedSimpArgs false

open Tm
def digB (c : UInt8) : Bool := digN c.toNat
def valD (l : List UInt8) (acc : Nat) : Nat := l.foldl (fun a c => a * 10 + (c.toNat - 48)) acc
def hdI (s : By) : Prop := s.size = 0 ∨ (1 < s.size ∧ byt s 0 = 48)
instance (s : By) : Decidable (hdI s) := inferInstanceAs (Decidable (_ ∨ _))
def atE (e : Lib.NumEnd Int) : Int × Bool := match e with
  | .ok v => (v, decide (v ≤ 1099511627776))
  | _ => (9223372036854775807, false)
def iP (s : By) : Int × Bool := if hdI s then (0, false) else if s.data.toList.all digB = false then (0, false) else atE (Lib.atoiAll s.data.toList)
def iR (s : By) : Int × Bool := if hdI s then (0, false) else if s.data.toList.all digB = false then (0, false) else if valD s.data.toList 0 ≤ 1099511627776 then ((valD s.data.toList 0 : Nat), true) else (0, false)
theorem valD_cons (c : UInt8) (l : List UInt8) (a : Nat) : valD (c :: l) a = valD l (a * 10 + (c.toNat - 48)) := by
  unfold valD; rw [List.foldl_cons]
theorem valD_ge : ∀ (l : List UInt8) (a : Nat), a ≤ valD l a
  | [], a => Nat.le_refl _
  | c :: l, a => by
    have := valD_ge l (a * 10 + (c.toNat - 48))
    rw [valD_cons]
    refine Nat.le_trans ?_ this
    generalize c.toNat - 48 = d
    omega
theorem valD_snoc (l : List UInt8) (c : UInt8) (a : Nat) : valD (l ++ [c]) a = valD l a * 10 + (c.toNat - 48) := by
  unfold valD; rw [List.foldl_append]; rfl
theorem parse_digs : ∀ (l : List UInt8) (acc : Nat), l.all digB = true → Lib.parseUint10 acc l = .ok (valD l acc) ∨ (Lib.parseUint10 acc l = .range ∧ 1099511627776 < valD l acc)
  | [], acc, _ => .inl rfl
  | c :: t, acc, hd => by
    rw [List.all_cons, Bool.and_eq_true] at hd
    obtain ⟨h1, h2⟩ := hd
    have h4 : 48 ≤ c.toNat ∧ c.toNat ≤ 57 := by
      unfold digB digN at h1
      rw [Bool.and_eq_true, decide_eq_true_eq, decide_eq_true_eq] at h1
      exact h1
    rw [valD_cons]
    have hg := valD_ge t (acc * 10 + (c.toNat - 48))
    unfold Lib.parseUint10
    rw [if_pos h4]
    by_cases h5 : 1844674407370955162 ≤ acc
    · rw [if_pos h5]
      exact .inr ⟨rfl, by omega⟩
    rw [if_neg h5]
    by_cases h6 : 18446744073709551616 ≤ acc * 10 + (c.toNat - 48)
    · rw [if_pos h6]
      exact .inr ⟨rfl, by omega⟩
    rw [if_neg h6]
    exact parse_digs t _ h2
theorem atoi_digs (l : List UInt8) (hl : l ≠ []) (hd : l.all digB = true) : Lib.atoiAll l = .ok (valD l 0 : Nat) ∨ (Lib.atoiAll l = .range ∧ 1099511627776 < valD l 0) := by
  cases l with
  | nil => exact absurd rfl hl
  | cons c r =>
    have h1 : digB c = true := by rw [List.all_cons, Bool.and_eq_true] at hd; exact hd.1
    have h4 : 48 ≤ c.toNat ∧ c.toNat ≤ 57 := by
      unfold digB digN at h1
      rw [Bool.and_eq_true, decide_eq_true_eq, decide_eq_true_eq] at h1
      exact h1
    rw [Lib.atoiAll_plain c r (by omega) (by omega)]
    unfold Lib.parseMag
    rw [if_neg (by simp)]
    rcases parse_digs (c :: r) 0 hd with h | ⟨h, h2⟩
    · rw [h]
      unfold Lib.signless
      by_cases h5 : 9223372036854775808 ≤ valD (c :: r) 0
      · simp only [if_pos h5]
        exact .inr ⟨trivial, by omega⟩
      · simp only [if_neg h5]
        exact .inl trivial
    · rw [h]
      exact .inr ⟨rfl, h2⟩
theorem iP_iR (s : By) : (iP s).2 = (iR s).2 ∧ ((iR s).2 = true → (iP s).1 = (iR s).1) := by
  unfold iP iR
  by_cases h1 : hdI s
  · rw [if_pos h1, if_pos h1]; exact ⟨rfl, fun _ => rfl⟩
  rw [if_neg h1, if_neg h1]
  cases h2 : s.data.toList.all digB with
  | false => rw [if_pos rfl, if_pos rfl]; exact ⟨rfl, fun _ => rfl⟩
  | true =>
    rw [if_neg (by decide), if_neg (by decide)]
    have hne : s.data.toList ≠ [] := fun e => h1 (.inl (by show s.data.toList.length = 0; rw [e]; rfl))
    rcases atoi_digs _ hne h2 with h | ⟨h, h3⟩
    · rw [h]
      by_cases h4 : valD s.data.toList 0 ≤ 1099511627776
      · rw [if_pos h4]
        exact ⟨decide_eq_true (by omega), fun _ => rfl⟩
      · rw [if_neg h4]
        exact ⟨decide_eq_false (by omega), fun h => (by cases h)⟩
    · rw [h, if_neg (by omega)]
      exact ⟨rfl, fun h => (by cases h)⟩
theorem wd_iP (s : By) : (wdF iP s).ok = (wdF iR s).ok ∧ ((wdF iR s).ok = true → wdF iP s = wdF iR s) := by
  unfold wdF
  by_cases h1 : kwB s = true
  · rw [if_pos h1, if_pos h1]; exact ⟨rfl, fun _ => rfl⟩
  rw [if_neg h1, if_neg h1]
  by_cases h2 : nmB s = true
  · rw [if_pos h2, if_pos h2]; exact ⟨rfl, fun _ => rfl⟩
  rw [if_neg h2, if_neg h2]
  obtain ⟨h3, h4⟩ := iP_iR s
  exact ⟨h3, fun h => by rw [h3, h4 h]⟩
theorem tkF_congr {a b : By → Wd} (h : ∀ x, (a x).ok = (b x).ok ∧ ((b x).ok = true → a x = b x)) (s : By) : ∀ (n i ln bg : Nat) (l : List Tok), tkF a s n i ln bg l = tkF b s n i ln bg l
  | 0, _, _, _, _ => rfl
  | n + 1, i, ln, bg, l => by
    have ih := tkF_congr h s n
    rw [tkF, tkF]
    obtain ⟨h1, h2⟩ := h (s.extract i (wdE s s.size i))
    by_cases c1 : ¬ i < s.size
    · rw [if_pos c1, if_pos c1]
    rw [if_neg c1, if_neg c1]
    by_cases c2 : clsN (byt s i) = 1
    · rw [if_pos c2, if_pos c2, ih, ih]
    rw [if_neg c2, if_neg c2]
    by_cases c3 : byt s i = 35
    · rw [if_pos c3, if_pos c3, ih]
    rw [if_neg c3, if_neg c3]
    by_cases c4 : 2 ≤ clsN (byt s i)
    · rw [if_pos c4, if_pos c4]
      by_cases c5 : (b (s.extract i (wdE s s.size i))).ok = true
      · rw [h2 c5, ih]
      · rw [if_neg c5, if_neg (by rw [h1]; exact c5)]
    · rw [if_neg c4, if_neg c4, ih]
theorem tokF_iP (s : By) : tokF (wdF iP) s = tokF (wdF iR) s := by
  unfold tokF
  rw [tkF_congr wd_iP]
end Go.Proofs.YtjjaknmnhhfjeaaGreatDoor

/- integer and Number. -/
namespace Go.Proofs.YtjjaknmnhhfjeaaGreatDoor
open Go.RowKit Go.Hw Go Go.Sort Go.Proofs Go.ChangeMaps
set_option linter.unusedVariables false
set_option linter.unusedSimpArgs false

open Tm
theorem cls_dig (c : Nat) : digN c = decide (clsN c = 3) := by
  unfold clsN
  by_cases h1 : c = 32 ∨ c = 9 ∨ c = 13 ∨ c = 10
  · rw [if_pos h1]
    rcases h1 with rfl | rfl | rfl | rfl <;> rfl
  · rw [if_neg h1]
    cases h2 : ltrN c with
    | true =>
      have h3 : digN c = false := by
        unfold ltrN at h2
        unfold digN
        simp only [Bool.or_eq_true, Bool.and_eq_true, decide_eq_true_eq] at h2
        rw [Bool.and_eq_false_iff, decide_eq_false_iff_not, decide_eq_false_iff_not]
        omega
      rw [h3]; rfl
    | false =>
      cases digN c with
      | true => rfl
      | false => by_cases h : c = 95 <;> simp [h]
def AtoiD (w : World) : Prop := ∀ (t : By) (W : World), Ext w W → t.data.toList ≠ [] → t.data.toList.all digB = true → t.size ≤ 1000000 → (∃ v : Int, Lib.atoiAll t.data.toList = .ok v ∧ Calls Tryz.prog 150 #[.string t] W fun e W' => e = .returned (.tuple #[.int .i64 v, .nilIface]) ∧ Ext W W') ∨
  (Lib.atoiAll t.data.toList = .range ∧ Calls Tryz.prog 150 #[.string t] W fun e W' => ∃ te q, e = .returned (.tuple #[.int .i64 9223372036854775807, .iface te (.pointer (some q))]) ∧ Ext W W')
theorem AtoiD.ext {w w' : World} (h : AtoiD w) (hw : Ext w w') : AtoiD w' := fun t W hW => h t W (hw.trans hW)
set_option maxRecDepth 100000 in
set_option maxHeartbeats 2000000 in
theorem integer_x (s : By) (w : World) (hA : AtoiD w) (hs : s.size ≤ 1000000) : Calls Tryz.prog 124 #[.string s] w fun e w' => e = .returned (.tuple #[.int .i64 (iP s).1, .bool (iP s).2]) ∧ Ext w w' := by
  have HA := Lib.hid hA
  obtain ⟨R, hR⟩ : ∃ R, iP s = R := ⟨_, rfl⟩
  rw [hR]
  have HR := Lib.hid hR
  clear hA hR
  by_cases h0 : 0 < s.size
  · obtain ⟨z1, z2, z3, z4⟩ := nonempty_t s h0
    by_cases h1 : 1 < s.size
    · have t1 : (1 : Int) < (s.size : Int) := by omega
      have t1' : decide ((1 : Int) < (s.size : Int)) = true := decide_eq_true t1
      have t1'' : decide (1 < s.size) = true := decide_eq_true h1
      obtain ⟨c, hc⟩ : ∃ c : Nat, (s[0]'h0).toNat = c := ⟨_, rfl⟩
      have hc255 : c ≤ 255 := by rw [← hc]; have := (s[0]'h0).toNat_lt; omega
      have hb0 : byt s 0 = c := by unfold byt; rw [at_list s 0 h0]; exact hc
      by_cases h48 : c = 48
      · have HV : Hid (R = (0, false)) := Lib.hid (by rw [← HR.out]; unfold iP; rw [if_pos (.inr ⟨h1, by rw [hb0]; exact h48⟩)])
        have e48 : (c : Int) = 48 := by omega
        have e48' : ((c : Int) == 48) = true := beq_iff_eq.2 e48
        clear hb0 h48 hc255
        go_enter Tryz.func124, Tryz.ntmps124
        go_wp2_with fail
        refine bodyPost_ret (v := .tuple #[.int .i64 0, .bool false]) (by simp [results, Tryz.results124, go_sem]) rfl ?_
        rw [HV.out]
        exact ⟨rfl, Upd.refl _ _⟩
      have HH : Hid (¬ hdI s) := Lib.hid (fun h => h.elim (fun h => by omega) (fun h => h48 (by rw [← hb0]; exact h.2)))
      have e48 : ¬ (c : Int) = 48 := by omega
      have e48' : ((c : Int) == 48) = false := beq_eq_false_iff_ne.2 e48
      clear hb0 h48 hc255
      go_enter Tryz.func124, Tryz.ntmps124
      go_wp2_with fail
      clear e48 e48' hc t1 t1' t1'' h1 z1 z2 z3 z4
      go_loopg [4, 21] s.size (fun gk _ i wr => ∃ j : Nat, i = .int .i64 (j : Int) ∧ gk = s.size - j ∧ j ≤ s.size ∧ Hid ((s.data.toList.take j).all digB = true) ∧ wr = w)
      case atStart => exact ⟨0, rfl, rfl, Nat.zero_le _, rfl, rfl⟩
      case round =>
        obtain ⟨j, rfl, rfl, hj, Hj, rfl⟩ := hrel
        by_cases hlt : j < s.size
        · obtain ⟨d, hd⟩ : ∃ d : Nat, (s[j]'hlt).toNat = d := ⟨_, rfl⟩
          have hd255 : d ≤ 255 := by rw [← hd]; have := (s[j]'hlt).toNat_lt; omega
          have CD := Lib.hid (class_x d wr hd255)
          have hw := cls_dig d
          have i0' : (0 : Int) ≤ (j : Int) := by omega
          have i1' : (j : Int) < (s.size : Int) := by omega
          cases hx : digN d with
          | true =>
            rw [hx] at hw
            have hw2 := of_decide_eq_true hw.symm
            have HJ2 : Hid ((s.data.toList.take (j + 1)).all digB = true) := by
              show _ = _
              rw [all_take s j hlt, Hj.out]; show digN _ = true; rw [hd]; exact hx
            clear hx hw Hj
            rw [hw2] at CD
            go_wp2_with fail
            refine CD.out.mono ?_
            rintro e w' ⟨rfl, rfl⟩
            go_wp2_with fail
            go_roundg (s.size - (j + 1))
            case measure => omega
            case rel => exact ⟨j + 1, by go_num, rfl, by omega, HJ2, rfl⟩
          | false =>
            rw [hx] at hw
            have hw2 := of_decide_eq_false hw.symm
            have HV : Hid (R = (0, false)) := Lib.hid (by rw [← HR.out]; unfold iP; rw [if_neg HH.out, if_pos (all_stop s j hlt _ (by show digN _ = false; rw [hd]; exact hx))])
            have t3 : (((clsN d : Nat) : Int) == 3) = false := beq_eq_false_iff_ne.2 (by omega)
            have t3' : (((clsN d : Nat) : Int) != 3) = true := bne_iff_ne.2 (by omega)
            clear hx hw hw2 Hj HR
            generalize ((clsN d : Nat) : Int) = Y at *
            go_wp2_with fail
            refine CD.out.mono ?_
            rintro e w' ⟨rfl, rfl⟩
            go_wp2_with fail
            refine bodyPost_ret (v := .tuple #[.int .i64 0, .bool false]) (by simp [results, Tryz.results124, go_sem]) rfl ?_
            rw [HV.out]
            exact ⟨rfl, Upd.refl _ _⟩
        · have HALL : s.data.toList.all digB = true := by
            rw [← Hj.out, List.take_of_length_le (by show s.size ≤ j; omega)]
          have HNE : s.data.toList ≠ [] := fun e => by have : s.data.toList.length = s.size := rfl; rw [e] at this; simp at this; omega
          have HV0 : R = atE (Lib.atoiAll s.data.toList) := by
            rw [← HR.out]; unfold iP; rw [if_neg HH.out, if_neg (by rw [HALL]; decide)]
          rcases HA.out s wr (Upd.refl _ _) HNE HALL (by omega) with ⟨v, hv, hcall⟩ | ⟨hv, hcall⟩
          · have HV : Hid (R = (v, decide (v ≤ 1099511627776))) := Lib.hid (by rw [HV0, hv]; rfl)
            have HC := Lib.hid hcall
            obtain ⟨bb, hbb⟩ : ∃ b, decide (v ≤ (1099511627776 : Int)) = b := ⟨_, rfl⟩
            rw [hbb] at HV
            clear Hj HR HV0 hv hcall HALL HNE
            go_wp2_with fail
            refine HC.out.mono ?_
            rintro e w' ⟨rfl, hw'⟩
            have HW := Lib.hid hw'
            clear hw'
            go_wp2_with fail
            refine bodyPost_ret (v := .tuple #[.int .i64 v, .bool bb]) (by simp [results, Tryz.results124, go_sem]) rfl ?_
            rw [HV.out]
            exact ⟨rfl, HW.out⟩
          · have HV : Hid (R = (9223372036854775807, false)) := Lib.hid (by rw [HV0, hv]; rfl)
            have HC := Lib.hid hcall
            clear Hj HR HV0 hv hcall HALL HNE
            go_wp2_with fail
            refine HC.out.mono ?_
            rintro e w' ⟨te, q, rfl, hw'⟩
            have HW := Lib.hid hw'
            clear hw'
            go_wp2_with fail
            refine bodyPost_ret (v := .tuple #[.int .i64 9223372036854775807, .bool false]) (by simp [results, Tryz.results124, go_sem]) rfl ?_
            rw [HV.out]
            exact ⟨rfl, HW.out⟩
    · have t1 : ¬ (1 : Int) < (s.size : Int) := by omega
      have t1' : decide ((1 : Int) < (s.size : Int)) = false := decide_eq_false t1
      have t1'' : decide (1 < s.size) = false := decide_eq_false h1
      have HH : Hid (¬ hdI s) := Lib.hid (fun h => h.elim (fun h => by omega) (fun h => h1 h.1))
      go_enter Tryz.func124, Tryz.ntmps124
      go_wp2_with fail
      clear t1 t1' t1'' h1 z1 z2 z3 z4
      go_loopg [4, 21] s.size (fun gk _ i wr => ∃ j : Nat, i = .int .i64 (j : Int) ∧ gk = s.size - j ∧ j ≤ s.size ∧ Hid ((s.data.toList.take j).all digB = true) ∧ wr = w)
      case atStart => exact ⟨0, rfl, rfl, Nat.zero_le _, rfl, rfl⟩
      case round =>
        obtain ⟨j, rfl, rfl, hj, Hj, rfl⟩ := hrel
        by_cases hlt : j < s.size
        · obtain ⟨d, hd⟩ : ∃ d : Nat, (s[j]'hlt).toNat = d := ⟨_, rfl⟩
          have hd255 : d ≤ 255 := by rw [← hd]; have := (s[j]'hlt).toNat_lt; omega
          have CD := Lib.hid (class_x d wr hd255)
          have hw := cls_dig d
          have i0' : (0 : Int) ≤ (j : Int) := by omega
          have i1' : (j : Int) < (s.size : Int) := by omega
          cases hx : digN d with
          | true =>
            rw [hx] at hw
            have hw2 := of_decide_eq_true hw.symm
            have HJ2 : Hid ((s.data.toList.take (j + 1)).all digB = true) := by
              show _ = _
              rw [all_take s j hlt, Hj.out]; show digN _ = true; rw [hd]; exact hx
            clear hx hw Hj
            rw [hw2] at CD
            go_wp2_with fail
            refine CD.out.mono ?_
            rintro e w' ⟨rfl, rfl⟩
            go_wp2_with fail
            go_roundg (s.size - (j + 1))
            case measure => omega
            case rel => exact ⟨j + 1, by go_num, rfl, by omega, HJ2, rfl⟩
          | false =>
            rw [hx] at hw
            have hw2 := of_decide_eq_false hw.symm
            have HV : Hid (R = (0, false)) := Lib.hid (by rw [← HR.out]; unfold iP; rw [if_neg HH.out, if_pos (all_stop s j hlt _ (by show digN _ = false; rw [hd]; exact hx))])
            have t3 : (((clsN d : Nat) : Int) == 3) = false := beq_eq_false_iff_ne.2 (by omega)
            have t3' : (((clsN d : Nat) : Int) != 3) = true := bne_iff_ne.2 (by omega)
            clear hx hw hw2 Hj HR
            generalize ((clsN d : Nat) : Int) = Y at *
            go_wp2_with fail
            refine CD.out.mono ?_
            rintro e w' ⟨rfl, rfl⟩
            go_wp2_with fail
            refine bodyPost_ret (v := .tuple #[.int .i64 0, .bool false]) (by simp [results, Tryz.results124, go_sem]) rfl ?_
            rw [HV.out]
            exact ⟨rfl, Upd.refl _ _⟩
        · have HALL : s.data.toList.all digB = true := by
            rw [← Hj.out, List.take_of_length_le (by show s.size ≤ j; omega)]
          have HNE : s.data.toList ≠ [] := fun e => by have : s.data.toList.length = s.size := rfl; rw [e] at this; simp at this; omega
          have HV0 : R = atE (Lib.atoiAll s.data.toList) := by
            rw [← HR.out]; unfold iP; rw [if_neg HH.out, if_neg (by rw [HALL]; decide)]
          rcases HA.out s wr (Upd.refl _ _) HNE HALL (by omega) with ⟨v, hv, hcall⟩ | ⟨hv, hcall⟩
          · have HV : Hid (R = (v, decide (v ≤ 1099511627776))) := Lib.hid (by rw [HV0, hv]; rfl)
            have HC := Lib.hid hcall
            obtain ⟨bb, hbb⟩ : ∃ b, decide (v ≤ (1099511627776 : Int)) = b := ⟨_, rfl⟩
            rw [hbb] at HV
            clear Hj HR HV0 hv hcall HALL HNE
            go_wp2_with fail
            refine HC.out.mono ?_
            rintro e w' ⟨rfl, hw'⟩
            have HW := Lib.hid hw'
            clear hw'
            go_wp2_with fail
            refine bodyPost_ret (v := .tuple #[.int .i64 v, .bool bb]) (by simp [results, Tryz.results124, go_sem]) rfl ?_
            rw [HV.out]
            exact ⟨rfl, HW.out⟩
          · have HV : Hid (R = (9223372036854775807, false)) := Lib.hid (by rw [HV0, hv]; rfl)
            have HC := Lib.hid hcall
            clear Hj HR HV0 hv hcall HALL HNE
            go_wp2_with fail
            refine HC.out.mono ?_
            rintro e w' ⟨te, q, rfl, hw'⟩
            have HW := Lib.hid hw'
            clear hw'
            go_wp2_with fail
            refine bodyPost_ret (v := .tuple #[.int .i64 9223372036854775807, .bool false]) (by simp [results, Tryz.results124, go_sem]) rfl ?_
            rw [HV.out]
            exact ⟨rfl, HW.out⟩
  · have HV : Hid (R = (0, false)) := Lib.hid (by rw [← HR.out]; unfold iP; rw [if_pos (.inl (by omega))])
    obtain rfl := empty_is s (by omega)
    go_enter Tryz.func124, Tryz.ntmps124
    go_wp2_with fail
    refine bodyPost_ret (v := .tuple #[.int .i64 0, .bool false]) (by simp [results, Tryz.results124, go_sem]) rfl ?_
    rw [HV.out]
    exact ⟨rfl, Upd.refl _ _⟩
set_option maxRecDepth 100000 in
set_option maxHeartbeats 2000000 in
theorem number_x (s : By) (w : World) (hs : s.size ≤ 1000000) : Calls Tryz.prog 128 #[.string s] w fun e w' => e = .returned (.tuple #[.int .i64 (iR s).1, .bool (iR s).2]) ∧ Ext w w' := by
  obtain ⟨R, hR⟩ : ∃ R, iR s = R := ⟨_, rfl⟩
  rw [hR]
  have HR := Lib.hid hR
  clear hR
  by_cases h0 : 0 < s.size
  · have g1 : ((s.size : Int) == 0) = false := beq_eq_false_iff_ne.2 (by omega)
    have g2 : ¬ (s.size = 0) := by omega
    have g3 : (s.size == 0) = false := beq_eq_false_iff_ne.2 g2
    by_cases h1 : 1 < s.size
    · have t1 : (1 : Int) < (s.size : Int) := by omega
      have t1' : decide ((1 : Int) < (s.size : Int)) = true := decide_eq_true t1
      have t1'' : decide (1 < s.size) = true := decide_eq_true h1
      obtain ⟨c, hc⟩ : ∃ c : Nat, (s[0]'h0).toNat = c := ⟨_, rfl⟩
      have hc255 : c ≤ 255 := by rw [← hc]; have := (s[0]'h0).toNat_lt; omega
      have hb0 : byt s 0 = c := by unfold byt; rw [at_list s 0 h0]; exact hc
      by_cases h48 : c = 48
      · have HV : Hid (R = (0, false)) := Lib.hid (by rw [← HR.out]; unfold iR; rw [if_pos (.inr ⟨h1, by rw [hb0]; exact h48⟩)])
        have e48 : (c : Int) = 48 := by omega
        have e48' : ((c : Int) == 48) = true := beq_iff_eq.2 e48
        clear hb0 h48 hc255
        go_enter Tryz.func128, Tryz.ntmps128
        go_wp2_with fail
        refine bodyPost_ret (v := .tuple #[.int .i64 0, .bool false]) (by simp [results, Tryz.results128, go_sem]) rfl ?_
        rw [HV.out]
        exact ⟨rfl, Upd.refl _ _⟩
      have HH : Hid (¬ hdI s) := Lib.hid (fun h => h.elim (fun h => by omega) (fun h => h48 (by rw [← hb0]; exact h.2)))
      have e48 : ¬ (c : Int) = 48 := by omega
      have e48' : ((c : Int) == 48) = false := beq_eq_false_iff_ne.2 e48
      clear hb0 h48 hc255
      go_enter Tryz.func128, Tryz.ntmps128
      go_wp2_with fail
      clear e48 e48' hc t1 t1' t1'' h1 g1 g2 g3
      go_loopg [4, 5] s.size (fun gk x i wr => ∃ j : Nat, x = .int .i64 (valD (s.data.toList.take j) 0 : Nat) ∧ i = .int .i64 (j : Int) ∧ gk = s.size - j ∧ j ≤ s.size ∧ valD (s.data.toList.take j) 0 ≤ 1099511627776 ∧ Hid ((s.data.toList.take j).all digB = true) ∧ wr = w)
      case atStart => exact ⟨0, rfl, rfl, rfl, Nat.zero_le _, by show 0 ≤ _; omega, rfl, rfl⟩
      case round =>
        obtain ⟨j, rfl, rfl, rfl, hj, hmx, Hj, rfl⟩ := hrel
        by_cases hlt : j < s.size
        · obtain ⟨d, hd⟩ : ∃ d : Nat, (s[j]'hlt).toNat = d := ⟨_, rfl⟩
          have hd255 : d ≤ 255 := by rw [← hd]; have := (s[j]'hlt).toNat_lt; omega
          have CD := Lib.hid (digit_x d wr hd255)
          have i0' : (0 : Int) ≤ (j : Int) := by omega
          have i1' : (j : Int) < (s.size : Int) := by omega
          cases hx : digN d with
          | true =>
            rw [hx] at CD
            have HJ2 : Hid ((s.data.toList.take (j + 1)).all digB = true) := by
              show _ = _
              rw [all_take s j hlt, Hj.out]; show digN _ = true; rw [hd]; exact hx
            have hdd : 48 ≤ d ∧ d ≤ 57 := by
              unfold digN at hx
              rw [Bool.and_eq_true, decide_eq_true_eq, decide_eq_true_eq] at hx
              exact hx
            have hval : valD (s.data.toList.take (j + 1)) 0 = valD (s.data.toList.take j) 0 * 10 + (d - 48) := by
              rw [List.take_succ_eq_append_getElem (by exact hlt), valD_snoc]
              have : (s.data.toList[j]'hlt).toNat = d := hd
              rw [this]
            obtain ⟨V, hV⟩ : ∃ V, valD (s.data.toList.take j) 0 = V := ⟨_, rfl⟩
            rw [hV] at hmx hval
            rw [hV]
            have u0 : IntKind.u8.wrap ((d : Int) - 48) = (d : Int) - 48 := IntWalk.u8_in _ (by omega)
            have u1 : IntKind.i64.wrap ((d : Int) - 48) = (d : Int) - 48 := IntWalk.i64_in _ (by omega)
            have u2 : IntKind.i64.wrap ((V : Int) * 10) = (V : Int) * 10 := IntWalk.i64_in _ (by omega)
            have u3 : IntKind.i64.wrap ((V : Int) * 10 + ((d : Int) - 48)) = (V : Int) * 10 + ((d : Int) - 48) := IntWalk.i64_in _ (by omega)
            have HVN := Lib.hid hval
            clear hx Hj hV hval
            by_cases hgt : 1099511627776 < V * 10 + (d - 48)
            · have HV : Hid (R = (0, false)) := Lib.hid (by
                rw [← HR.out]; unfold iR; rw [if_neg HH.out]
                split
                · rfl
                · rw [if_neg]
                  have h2 : valD s.data.toList 0 = valD (s.data.toList.drop (j + 1)) (valD (s.data.toList.take (j + 1)) 0) := by
                    unfold valD
                    rw [← List.foldl_append, List.take_append_drop]
                  have h3 := valD_ge (s.data.toList.drop (j + 1)) (valD (s.data.toList.take (j + 1)) 0)
                  rw [h2]
                  have := HVN.out
                  omega)
              have t5 : decide ((1099511627776 : Int) < (V : Int) * 10 + ((d : Int) - 48)) = true := decide_eq_true (by omega)
              go_wp2_with fail
              refine CD.out.mono ?_
              rintro e w' ⟨rfl, rfl⟩
              go_wp2_with fail
              refine bodyPost_ret (v := .tuple #[.int .i64 0, .bool false]) (by simp [results, Tryz.results128, go_sem]) rfl ?_
              rw [HV.out]
              exact ⟨rfl, Upd.refl _ _⟩
            · have t5 : decide ((1099511627776 : Int) < (V : Int) * 10 + ((d : Int) - 48)) = false := decide_eq_false (by omega)
              go_wp2_with fail
              refine CD.out.mono ?_
              rintro e w' ⟨rfl, rfl⟩
              go_wp2_with fail
              go_roundg (s.size - (j + 1))
              case measure => omega
              case rel => exact ⟨j + 1, by rw [HVN.out]; congr 1; omega, by go_num, rfl, by omega, by rw [HVN.out]; omega, HJ2, rfl⟩
          | false =>
            rw [hx] at CD
            have HV : Hid (R = (0, false)) := Lib.hid (by rw [← HR.out]; unfold iR; rw [if_neg HH.out, if_pos (all_stop s j hlt _ (by show digN _ = false; rw [hd]; exact hx))])
            clear hx Hj HR
            go_wp2_with fail
            refine CD.out.mono ?_
            rintro e w' ⟨rfl, rfl⟩
            go_wp2_with fail
            refine bodyPost_ret (v := .tuple #[.int .i64 0, .bool false]) (by simp [results, Tryz.results128, go_sem]) rfl ?_
            rw [HV.out]
            exact ⟨rfl, Upd.refl _ _⟩
        · have htk : s.data.toList.take j = s.data.toList := List.take_of_length_le (by show s.size ≤ j; omega)
          rw [htk] at hmx Hj
          rw [htk]
          have HV : Hid (R = (((valD s.data.toList 0 : Nat) : Int), true)) := Lib.hid (by
            rw [← HR.out]; unfold iR; rw [if_neg HH.out, if_neg (by rw [Hj.out]; decide), if_pos hmx])
          clear Hj HR hmx htk
          go_wp2_with fail
          refine bodyPost_ret (v := .tuple #[.int .i64 ((valD s.data.toList 0 : Nat)), .bool true]) (by simp [results, Tryz.results128, go_sem]) rfl ?_
          rw [HV.out]
          exact ⟨rfl, Upd.refl _ _⟩
    · have t1 : ¬ (1 : Int) < (s.size : Int) := by omega
      have t1' : decide ((1 : Int) < (s.size : Int)) = false := decide_eq_false t1
      have t1'' : decide (1 < s.size) = false := decide_eq_false h1
      have HH : Hid (¬ hdI s) := Lib.hid (fun h => h.elim (fun h => by omega) (fun h => h1 h.1))
      go_enter Tryz.func128, Tryz.ntmps128
      go_wp2_with fail
      clear t1 t1' t1'' h1 g1 g2 g3
      go_loopg [4, 5] s.size (fun gk x i wr => ∃ j : Nat, x = .int .i64 (valD (s.data.toList.take j) 0 : Nat) ∧ i = .int .i64 (j : Int) ∧ gk = s.size - j ∧ j ≤ s.size ∧ valD (s.data.toList.take j) 0 ≤ 1099511627776 ∧ Hid ((s.data.toList.take j).all digB = true) ∧ wr = w)
      case atStart => exact ⟨0, rfl, rfl, rfl, Nat.zero_le _, by show 0 ≤ _; omega, rfl, rfl⟩
      case round =>
        obtain ⟨j, rfl, rfl, rfl, hj, hmx, Hj, rfl⟩ := hrel
        by_cases hlt : j < s.size
        · obtain ⟨d, hd⟩ : ∃ d : Nat, (s[j]'hlt).toNat = d := ⟨_, rfl⟩
          have hd255 : d ≤ 255 := by rw [← hd]; have := (s[j]'hlt).toNat_lt; omega
          have CD := Lib.hid (digit_x d wr hd255)
          have i0' : (0 : Int) ≤ (j : Int) := by omega
          have i1' : (j : Int) < (s.size : Int) := by omega
          cases hx : digN d with
          | true =>
            rw [hx] at CD
            have HJ2 : Hid ((s.data.toList.take (j + 1)).all digB = true) := by
              show _ = _
              rw [all_take s j hlt, Hj.out]; show digN _ = true; rw [hd]; exact hx
            have hdd : 48 ≤ d ∧ d ≤ 57 := by
              unfold digN at hx
              rw [Bool.and_eq_true, decide_eq_true_eq, decide_eq_true_eq] at hx
              exact hx
            have hval : valD (s.data.toList.take (j + 1)) 0 = valD (s.data.toList.take j) 0 * 10 + (d - 48) := by
              rw [List.take_succ_eq_append_getElem (by exact hlt), valD_snoc]
              have : (s.data.toList[j]'hlt).toNat = d := hd
              rw [this]
            obtain ⟨V, hV⟩ : ∃ V, valD (s.data.toList.take j) 0 = V := ⟨_, rfl⟩
            rw [hV] at hmx hval
            rw [hV]
            have u0 : IntKind.u8.wrap ((d : Int) - 48) = (d : Int) - 48 := IntWalk.u8_in _ (by omega)
            have u1 : IntKind.i64.wrap ((d : Int) - 48) = (d : Int) - 48 := IntWalk.i64_in _ (by omega)
            have u2 : IntKind.i64.wrap ((V : Int) * 10) = (V : Int) * 10 := IntWalk.i64_in _ (by omega)
            have u3 : IntKind.i64.wrap ((V : Int) * 10 + ((d : Int) - 48)) = (V : Int) * 10 + ((d : Int) - 48) := IntWalk.i64_in _ (by omega)
            have HVN := Lib.hid hval
            clear hx Hj hV hval
            by_cases hgt : 1099511627776 < V * 10 + (d - 48)
            · have HV : Hid (R = (0, false)) := Lib.hid (by
                rw [← HR.out]; unfold iR; rw [if_neg HH.out]
                split
                · rfl
                · rw [if_neg]
                  have h2 : valD s.data.toList 0 = valD (s.data.toList.drop (j + 1)) (valD (s.data.toList.take (j + 1)) 0) := by
                    unfold valD
                    rw [← List.foldl_append, List.take_append_drop]
                  have h3 := valD_ge (s.data.toList.drop (j + 1)) (valD (s.data.toList.take (j + 1)) 0)
                  rw [h2]
                  have := HVN.out
                  omega)
              have t5 : decide ((1099511627776 : Int) < (V : Int) * 10 + ((d : Int) - 48)) = true := decide_eq_true (by omega)
              go_wp2_with fail
              refine CD.out.mono ?_
              rintro e w' ⟨rfl, rfl⟩
              go_wp2_with fail
              refine bodyPost_ret (v := .tuple #[.int .i64 0, .bool false]) (by simp [results, Tryz.results128, go_sem]) rfl ?_
              rw [HV.out]
              exact ⟨rfl, Upd.refl _ _⟩
            · have t5 : decide ((1099511627776 : Int) < (V : Int) * 10 + ((d : Int) - 48)) = false := decide_eq_false (by omega)
              go_wp2_with fail
              refine CD.out.mono ?_
              rintro e w' ⟨rfl, rfl⟩
              go_wp2_with fail
              go_roundg (s.size - (j + 1))
              case measure => omega
              case rel => exact ⟨j + 1, by rw [HVN.out]; congr 1; omega, by go_num, rfl, by omega, by rw [HVN.out]; omega, HJ2, rfl⟩
          | false =>
            rw [hx] at CD
            have HV : Hid (R = (0, false)) := Lib.hid (by rw [← HR.out]; unfold iR; rw [if_neg HH.out, if_pos (all_stop s j hlt _ (by show digN _ = false; rw [hd]; exact hx))])
            clear hx Hj HR
            go_wp2_with fail
            refine CD.out.mono ?_
            rintro e w' ⟨rfl, rfl⟩
            go_wp2_with fail
            refine bodyPost_ret (v := .tuple #[.int .i64 0, .bool false]) (by simp [results, Tryz.results128, go_sem]) rfl ?_
            rw [HV.out]
            exact ⟨rfl, Upd.refl _ _⟩
        · have htk : s.data.toList.take j = s.data.toList := List.take_of_length_le (by show s.size ≤ j; omega)
          rw [htk] at hmx Hj
          rw [htk]
          have HV : Hid (R = (((valD s.data.toList 0 : Nat) : Int), true)) := Lib.hid (by
            rw [← HR.out]; unfold iR; rw [if_neg HH.out, if_neg (by rw [Hj.out]; decide), if_pos hmx])
          clear Hj HR hmx htk
          go_wp2_with fail
          refine bodyPost_ret (v := .tuple #[.int .i64 ((valD s.data.toList 0 : Nat)), .bool true]) (by simp [results, Tryz.results128, go_sem]) rfl ?_
          rw [HV.out]
          exact ⟨rfl, Upd.refl _ _⟩
  · have HV : Hid (R = (0, false)) := Lib.hid (by rw [← HR.out]; unfold iR; rw [if_pos (.inl (by omega))])
    obtain rfl := empty_is s (by omega)
    go_enter Tryz.func128, Tryz.ntmps128
    go_wp2_with fail
    refine bodyPost_ret (v := .tuple #[.int .i64 0, .bool false]) (by simp [results, Tryz.results128, go_sem]) rfl ?_
    rw [HV.out]
    exact ⟨rfl, Upd.refl _ _⟩

end Go.Proofs.YtjjaknmnhhfjeaaGreatDoor
