/- IsName. -/
import Derived.Test.YtlbnilhbfiidmaaDoorLX
import Derived.Lib.SlicesS
namespace Go.Proofs.YtlbnilhbfiidmaaDoor
open Go.RowKit Go.Hw
set_option linter.unusedVariables false
set_option linter.unusedSimpArgs false

theorem nm_parts (s : ByteArray) (h0 : 0 < s.size) : nmB s = (decide (s.size ≤ 40) && (ltrN ((s[0]'h0).toNat) && (s.data.toList.all (fun b => wrdN b.toNat) && !kwB s))) := by
  unfold nmB
  rw [at_list s 0 h0]
  simp [h0]
theorem nm_empty (s : ByteArray) (h0 : s.size = 0) : nmB s = false := by unfold nmB; simp [h0]
theorem empty_is (s : ByteArray) (h0 : s.size = 0) : s = ⟨#[]⟩ := ba_list (List.eq_nil_of_length_eq_zero h0)
theorem nonempty_t (s : ByteArray) (h0 : 0 < s.size) : s.toList.isEmpty = false ∧ ¬ (s.toList = []) ∧ (s.toList == []) = false ∧ (s.toList == (⟨#[]⟩ : ByteArray).toList) = false := by
  have e : s.toList ≠ [] := fun e => by rw [Lib.toList_data] at e; have : s.data.toList.length = s.size := rfl; rw [e] at this; simp at this; omega
  have e2 : (⟨#[]⟩ : ByteArray).toList = [] := by rw [Lib.toList_data]
  refine ⟨by simpa using e, e, by simpa using e, by rw [e2]; simpa using e⟩
set_option maxHeartbeats 4000000 in
/-- lex.IsName -/
theorem isName_x (s : ByteArray) (w : World) (htab : AscT w) : Calls Tryd.prog 25 #[.string s] w fun e w' => e = .returned (.bool (nmB s)) ∧ Ext w w' := by
  by_cases h0 : 0 < s.size
  · rw [nm_parts s h0]
    obtain ⟨z1, z2, z3, z4⟩ := nonempty_t s h0
    by_cases h40 : s.size ≤ 40
    · rw [decide_eq_true h40, Bool.true_and]
      have t1 : decide ((40 : Int) < (s.size : Int)) = false := decide_eq_false (by omega)
      have t1' : decide (40 < s.size) = false := decide_eq_false (by omega)
      obtain ⟨c, hc⟩ : ∃ c : Nat, (s[0]'h0).toNat = c := ⟨_, rfl⟩
      have hc255 : c ≤ 255 := by rw [← hc]; have := (s[0]'h0).toNat_lt; omega
      rw [hc]
      have CL := Lib.hid (class_x c w hc255)
      have KW := Lib.hid (isKeyword_x s w htab)
      cases hl : ltrN c with
      | false =>
        have hl2 : ((clsN c : Nat) : Int) ≠ 2 := by
          rw [cls_ltr] at hl
          have := of_decide_eq_false hl
          omega
        have t2 : (((clsN c : Nat) : Int) != 2) = true := bne_iff_ne.2 hl2
        have t2' : (((clsN c : Nat) : Int) == 2) = false := beq_eq_false_iff_ne.2 hl2
        clear hl hl2 KW
        generalize ((clsN c : Nat) : Int) = Y at *
        go_enter Tryd.func25, Tryd.ntmps25
        go_wp2_with fail
        refine CL.out.mono ?_
        rintro e w' ⟨rfl, rfl⟩
        go_wp2_with fail
        go_ret
        exact ⟨rfl, Upd.refl _ _⟩
      | true =>
        have hl2 : clsN c = 2 := by
          rw [cls_ltr] at hl
          exact of_decide_eq_true hl
        rw [hl2] at CL
        clear hl hl2
        cases hk : kwB s with
        | true =>
          rw [hk] at KW
          clear hk
          go_enter Tryd.func25, Tryd.ntmps25
          go_wp2_with fail
          refine CL.out.mono ?_
          rintro e w' ⟨rfl, rfl⟩
          go_wp2_with fail
          refine KW.out.mono ?_
          rintro e w' ⟨rfl, hE⟩
          have HE := Lib.hid hE
          clear hE
          go_wp2_with fail
          go_ret
          exact ⟨by simp, HE.out⟩
        | false =>
          rw [hk] at KW
          rw [Bool.not_false, Bool.and_true, Bool.true_and]
          obtain ⟨R, hR⟩ : ∃ R, s.data.toList.all (fun b => wrdN b.toNat) = R := ⟨_, rfl⟩
          rw [hR]
          have HR := Lib.hid hR
          clear hk hR
          go_enter Tryd.func25, Tryd.ntmps25
          go_wp2_with fail
          refine CL.out.mono ?_
          rintro e w' ⟨rfl, rfl⟩
          go_wp2_with fail
          refine KW.out.mono ?_
          rintro e w' ⟨rfl, hE⟩
          have HE := Lib.hid hE
          clear hE hc CL KW t1 t1' z1 z2 z3 z4
          go_wp2_with fail
          go_loopg [3, 23] s.size (fun gk _ i wr => ∃ j : Nat, i = .int .i64 j ∧ gk = s.size - j ∧ j ≤ s.size ∧ Hid ((s.data.toList.take j).all (fun b => wrdN b.toNat) = true) ∧ wr = w')
          case atStart => exact ⟨0, rfl, rfl, Nat.zero_le _, rfl, rfl⟩
          case round =>
            obtain ⟨j, rfl, rfl, hj, Hj, rfl⟩ := hrel
            by_cases hlt : j < s.size
            · obtain ⟨d, hd⟩ : ∃ d : Nat, (s[j]'hlt).toNat = d := ⟨_, rfl⟩
              have hd255 : d ≤ 255 := by rw [← hd]; have := (s[j]'hlt).toNat_lt; omega
              have CD := Lib.hid (class_x d wr hd255)
              have hw := cls_wrd d
              have i0' : (0 : Int) ≤ (j : Int) := by omega
              have i1' : (j : Int) < (s.size : Int) := by omega
              cases hx : wrdN d with
              | true =>
                rw [hx] at hw
                have hw2 := of_decide_eq_true hw.symm
                have HJ2 : Hid ((s.data.toList.take (j + 1)).all (fun b => wrdN b.toNat) = true) := by
                  show _ = _
                  rw [all_take s j hlt, hd, Hj.out, hx]; rfl
                have t3 : decide (((clsN d : Nat) : Int) < 2) = false := decide_eq_false (by omega)
                have t3' : decide (clsN d < 2) = false := decide_eq_false (by omega)
                clear hx hw hw2 Hj
                generalize clsN d = Y at *
                go_wp2_with fail
                refine CD.out.mono ?_
                rintro e w' ⟨rfl, rfl⟩
                go_wp2_with fail
                go_roundg (s.size - (j + 1))
                case measure => omega
                case rel => exact ⟨j + 1, by go_num, rfl, by omega, HJ2, rfl⟩
              | false =>
                rw [hx] at hw
                have hw2 := of_decide_eq_false hw.symm
                obtain rfl : R = false := HR.out.symm.trans (all_stop s j hlt _ (by rw [hd]; exact hx))
                have t3 : decide (((clsN d : Nat) : Int) < 2) = true := decide_eq_true (by omega)
                have t3' : decide (clsN d < 2) = true := decide_eq_true (by omega)
                clear hx hw hw2 Hj HR
                generalize clsN d = Y at *
                go_wp2_with fail
                refine CD.out.mono ?_
                rintro e w' ⟨rfl, rfl⟩
                go_wp2_with fail
                go_ret
                exact ⟨rfl, HE.out⟩
            · obtain rfl : R = true := by
                rw [← HR.out, ← Hj.out, List.take_of_length_le (by show s.size ≤ j; omega)]
              clear HR Hj
              go_wp2_with fail
              go_ret
              exact ⟨rfl, HE.out⟩
    · rw [decide_eq_false h40, Bool.false_and]
      have t1 : decide ((40 : Int) < (s.size : Int)) = true := decide_eq_true (by omega)
      have t1' : decide (40 < s.size) = true := decide_eq_true (by omega)
      go_enter Tryd.func25, Tryd.ntmps25
      go_wp2_with fail
      go_ret
      exact ⟨rfl, Upd.refl _ _⟩
  · rw [nm_empty s (by omega)]
    obtain rfl := empty_is s (by omega)
    go_enter Tryd.func25, Tryd.ntmps25
    go_wp2_with fail
    go_ret
    exact ⟨rfl, Upd.refl _ _⟩
set_option maxHeartbeats 4000000 in
/-- ref.IsName -/
theorem rIsName_x (s : ByteArray) (w : World) : Calls Tryd.prog 21 #[.string s] w fun e w' => e = .returned (.bool (nmB s)) ∧ Ext w w' := by
  by_cases h0 : 0 < s.size
  · rw [nm_parts s h0]
    have g1 : ((s.size : Int) == 0) = false := beq_eq_false_iff_ne.2 (by omega)
    have g2 : ¬ (s.size = 0) := by omega
    have g3 : (s.size == 0) = false := beq_eq_false_iff_ne.2 g2
    by_cases h40 : s.size ≤ 40
    · rw [decide_eq_true h40, Bool.true_and]
      have t1 : decide ((40 : Int) < (s.size : Int)) = false := decide_eq_false (by omega)
      have t1' : decide (40 < s.size) = false := decide_eq_false (by omega)
      obtain ⟨c, hc⟩ : ∃ c : Nat, (s[0]'h0).toNat = c := ⟨_, rfl⟩
      have hc255 : c ≤ 255 := by rw [← hc]; have := (s[0]'h0).toNat_lt; omega
      rw [hc]
      have CL := Lib.hid (letter_x c w hc255)
      cases hl : ltrN c with
      | false =>
        rw [hl] at CL
        clear hl
        go_enter Tryd.func21, Tryd.ntmps21
        go_wp2_with fail
        refine CL.out.mono ?_
        rintro e w' ⟨rfl, rfl⟩
        go_wp2_with fail
        go_ret
        exact ⟨rfl, Upd.refl _ _⟩
      | true =>
        rw [hl] at CL
        rw [Bool.true_and]
        have KW := Lib.hid (rIsKeyword_x s w)
        obtain ⟨R, hR⟩ : ∃ R, s.data.toList.all (fun b => wrdN b.toNat) = R := ⟨_, rfl⟩
        rw [hR]
        have HR := Lib.hid hR
        clear hl hR
        go_enter Tryd.func21, Tryd.ntmps21
        go_wp2_with fail
        refine CL.out.mono ?_
        rintro e w' ⟨rfl, rfl⟩
        clear hc CL
        go_wp2_with fail
        go_loopg [3] s.size (fun gk i wr => ∃ j : Nat, i = .int .i64 j ∧ gk = s.size - j ∧ j ≤ s.size ∧ Hid ((s.data.toList.take j).all (fun b => wrdN b.toNat) = true) ∧ wr = w)
        case atStart => exact ⟨0, rfl, rfl, Nat.zero_le _, rfl, rfl⟩
        case round =>
          obtain ⟨j, rfl, rfl, hj, Hj, rfl⟩ := hrel
          by_cases hlt : j < s.size
          · obtain ⟨d, hd⟩ : ∃ d : Nat, (s[j]'hlt).toNat = d := ⟨_, rfl⟩
            have hd255 : d ≤ 255 := by rw [← hd]; have := (s[j]'hlt).toNat_lt; omega
            have CD := Lib.hid (word_x d wr hd255)
            have i0' : (0 : Int) ≤ (j : Int) := by omega
            have i1' : (j : Int) < (s.size : Int) := by omega
            cases hx : wrdN d with
            | true =>
              rw [hx] at CD
              have HJ2 : Hid ((s.data.toList.take (j + 1)).all (fun b => wrdN b.toNat) = true) := by
                show _ = _
                rw [all_take s j hlt, hd, Hj.out, hx]; rfl
              clear hx Hj
              go_wp2_with fail
              refine CD.out.mono ?_
              rintro e w' ⟨rfl, rfl⟩
              go_wp2_with fail
              go_roundg (s.size - (j + 1))
              case measure => omega
              case rel => exact ⟨j + 1, by go_num, rfl, by omega, HJ2, rfl⟩
            | false =>
              rw [hx] at CD
              obtain rfl : R = false := HR.out.symm.trans (all_stop s j hlt _ (by rw [hd]; exact hx))
              clear hx Hj HR
              go_wp2_with fail
              refine CD.out.mono ?_
              rintro e w' ⟨rfl, rfl⟩
              go_wp2_with fail
              go_ret
              exact ⟨rfl, Upd.refl _ _⟩
          · obtain rfl : R = true := by
              rw [← HR.out, ← Hj.out, List.take_of_length_le (by show s.size ≤ j; omega)]
            clear HR Hj
            cases hk : kwB s with
            | true =>
              rw [hk] at KW
              have HKW := Lib.hid hk
              clear hk
              go_wp2_with fail
              refine KW.out.mono ?_
              rintro e w' ⟨rfl, hE⟩
              have HE := Lib.hid hE
              clear hE
              go_wp2_with fail
              go_ret
              exact ⟨by simp [HKW.out], HE.out⟩
            | false =>
              rw [hk] at KW
              have HKW := Lib.hid hk
              clear hk
              go_wp2_with fail
              refine KW.out.mono ?_
              rintro e w' ⟨rfl, hE⟩
              have HE := Lib.hid hE
              clear hE
              go_wp2_with fail
              go_ret
              exact ⟨by simp [HKW.out], HE.out⟩
    · rw [decide_eq_false h40, Bool.false_and]
      have t1 : decide ((40 : Int) < (s.size : Int)) = true := decide_eq_true (by omega)
      have t1' : decide (40 < s.size) = true := decide_eq_true (by omega)
      go_enter Tryd.func21, Tryd.ntmps21
      go_wp2_with fail
      go_ret
      exact ⟨rfl, Upd.refl _ _⟩
  · rw [nm_empty s (by omega)]
    obtain rfl := empty_is s (by omega)
    go_enter Tryd.func21, Tryd.ntmps21
    go_wp2_with fail
    go_ret
    exact ⟨rfl, Upd.refl _ _⟩

end Go.Proofs.YtlbnilhbfiidmaaDoor
