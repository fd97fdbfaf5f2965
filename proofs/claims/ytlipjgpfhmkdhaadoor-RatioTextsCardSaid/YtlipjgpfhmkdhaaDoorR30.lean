/- ref.Text. -/
import Derived.Test.YtlipjgpfhmkdhaaDoorR29
namespace Go.Proofs.YtlipjgpfhmkdhaaDoor
open Go.RowKit Go.Hw
set_option linter.unusedVariables false
set_option linter.unusedSimpArgs false

set_option maxRecDepth 100000 in
set_option maxHeartbeats 1000000 in
theorem rtext_int (a b : Int) (w : World) (ha0 : -9223372036854775808 ≤ a) (ha1 : a ≤ 9223372036854775807) (hb0 : -9223372036854775808 ≤ b) (hb1 : b ≤ 9223372036854775807) (hb : b = 1) : Calls Tryd.prog 41 #[.agg #[.int .i64 a, .int .i64 b]] w fun e w' => e = .returned (.string (textS a b)) ∧ Ext w w' := by
  have HE0 : Hid (Ext w (w.alloc (.cells #[.int .i64 a, .int .i64 b] 24))) := (Upd.refl _ w).alloc _
  have hbA := alloc0 w (.cells #[.int .i64 a, .int .i64 b] 24)
  have HX : Hid (∀ W, Ext (w.alloc (.cells #[.int .i64 a, .int .i64 b] 24)) W → W.heap[w.heap.size]? = some (.cells #[.int .i64 a, .int .i64 b] 24)) := fun W hW => hW.heap hbA (fun h => h)
  have hz := HX.out _ (Upd.refl _ _)
  have k0 := cellRow hz 0 _ rfl
  have k1 := cellRow hz 1 _ rfl
  have m0 := frozenRow hz 0
  have m1 := frozenRow hz 1
  clear hbA hz
  have CA : Hid (∀ W, Calls Tryd.prog 52 #[.int .i64 a] W fun e w' => e = .returned (.string (istr a)) ∧ Ext W w') := fun W => (dec_x a W ha0 ha1).mono fun e w' ⟨h1, h2⟩ => ⟨h1, h2 ▸ Upd.refl _ _⟩
  have CB : Hid (∀ W, Calls Tryd.prog 52 #[.int .i64 b] W fun e w' => e = .returned (.string (istr b)) ∧ Ext W w') := fun W => (dec_x b W hb0 hb1).mono fun e w' ⟨h1, h2⟩ => ⟨h1, h2 ▸ Upd.refl _ _⟩
  have hR : textS a b = istr a := if_pos hb
  rw [hR]
  clear hR CB
  have t1 : (b == 1) = true := beq_iff_eq.2 hb
  have t2 : (b != 1) = false := by simp [hb]
  generalize istr a = A at *
  clear hb
  go_enter Tryd.func41, Tryd.ntmps41
  go_wp2_with fail
  refine (CA.out _).mono ?_
  rintro e w4 ⟨rfl, hw4⟩
  have H4 := Lib.hid (hw4)
  clear hw4 k0 k1 m0 m1
  have hz := HX.out _ H4.out
  have k0 := cellRow hz 0 _ rfl
  have k1 := cellRow hz 1 _ rfl
  have m0 := frozenRow hz 0
  have m1 := frozenRow hz 1
  clear hz
  go_wp2_with fail
  go_ret
  exact ⟨rfl, HE0.out.ext H4.out⟩

set_option maxRecDepth 100000 in
set_option maxHeartbeats 1000000 in
theorem rtext_frac (a b : Int) (w : World) (ha0 : -9223372036854775808 ≤ a) (ha1 : a ≤ 9223372036854775807) (hb0 : -9223372036854775808 ≤ b) (hb1 : b ≤ 9223372036854775807) (hb : b ≠ 1) : Calls Tryd.prog 41 #[.agg #[.int .i64 a, .int .i64 b]] w fun e w' => e = .returned (.string (textS a b)) ∧ Ext w w' := by
  have HE0 : Hid (Ext w (w.alloc (.cells #[.int .i64 a, .int .i64 b] 24))) := (Upd.refl _ w).alloc _
  have hbA := alloc0 w (.cells #[.int .i64 a, .int .i64 b] 24)
  have HX : Hid (∀ W, Ext (w.alloc (.cells #[.int .i64 a, .int .i64 b] 24)) W → W.heap[w.heap.size]? = some (.cells #[.int .i64 a, .int .i64 b] 24)) := fun W hW => hW.heap hbA (fun h => h)
  have hz := HX.out _ (Upd.refl _ _)
  have k0 := cellRow hz 0 _ rfl
  have k1 := cellRow hz 1 _ rfl
  have m0 := frozenRow hz 0
  have m1 := frozenRow hz 1
  clear hbA hz
  have CA : Hid (∀ W, Calls Tryd.prog 52 #[.int .i64 a] W fun e w' => e = .returned (.string (istr a)) ∧ Ext W w') := fun W => (dec_x a W ha0 ha1).mono fun e w' ⟨h1, h2⟩ => ⟨h1, h2 ▸ Upd.refl _ _⟩
  have CB : Hid (∀ W, Calls Tryd.prog 52 #[.int .i64 b] W fun e w' => e = .returned (.string (istr b)) ∧ Ext W w') := fun W => (dec_x b W hb0 hb1).mono fun e w' ⟨h1, h2⟩ => ⟨h1, h2 ▸ Upd.refl _ _⟩
  have hR : textS a b = istr a ++ (slash ++ istr b) := if_neg hb
  have t1 : (b == 1) = false := beq_eq_false_iff_ne.2 hb
  have t2 : (b != 1) = true := bne_iff_ne.2 hb
  have s1 := istr_size a ha0 ha1
  have s2 := istr_size b hb0 hb1
  generalize istr a = A at *
  generalize istr b = B at *
  have s3 : ¬ (9223372036854775807 < A.size + 1) := by omega
  have s4 : ¬ (9223372036854775807 < A.size + 1 + B.size) := by omega
  obtain ⟨R, hR2⟩ : ∃ R, A ++ slash ++ B = R := ⟨_, rfl⟩
  rw [hR, ← ByteArray.append_assoc, hR2]
  unfold slash at hR2
  have HR := Lib.hid hR2
  clear hb hR hR2 s1 s2
  go_enter Tryd.func41, Tryd.ntmps41
  go_wp2_with fail
  refine (CA.out _).mono ?_
  rintro e w4 ⟨rfl, hw4⟩
  have H4 := Lib.hid (hw4)
  clear hw4 k0 k1 m0 m1
  have hz := HX.out _ H4.out
  have k0 := cellRow hz 0 _ rfl
  have k1 := cellRow hz 1 _ rfl
  have m0 := frozenRow hz 0
  have m1 := frozenRow hz 1
  clear hz
  go_wp2_with fail
  refine (CB.out _).mono ?_
  rintro e w5 ⟨rfl, hw5⟩
  have H5 := Lib.hid (H4.out.ext hw5)
  clear hw5 k0 k1 m0 m1
  have hz := HX.out _ H5.out
  have k0 := cellRow hz 0 _ rfl
  have k1 := cellRow hz 1 _ rfl
  have m0 := frozenRow hz 0
  have m1 := frozenRow hz 1
  clear hz
  go_wp2_with fail
  go_ret
  exact ⟨by rw [← HR.out]; rfl, HE0.out.ext H5.out⟩

theorem rtext_ok (a b : Int) (w : World) (ha0 : -9223372036854775808 ≤ a) (ha1 : a ≤ 9223372036854775807) (hb0 : -9223372036854775808 ≤ b) (hb1 : b ≤ 9223372036854775807) : Calls Tryd.prog 41 #[.agg #[.int .i64 a, .int .i64 b]] w fun e w' => e = .returned (.string (textS a b)) ∧ Ext w w' := by
  by_cases hb : b = 1
  · exact rtext_int a b w ha0 ha1 hb0 hb1 hb
  · exact rtext_frac a b w ha0 ha1 hb0 hb1 hb

end Go.Proofs.YtlipjgpfhmkdhaaDoor
