/- Text. -/
import Derived.Test.YtlipjgpfhmkdhaaDoorR9
import Derived.Test.YtlipjgpfhmkdhaaDoorShelf
import Derived.Lib.AppendIntMem
import Derived.Lib.ItoaLen
namespace Go.Proofs.YtlipjgpfhmkdhaaDoor
open Go.RowKit Go.Hw
set_option linter.unusedVariables false
set_option linter.unusedSimpArgs false

def istr (n : Int) : ByteArray := ⟨(Lib.itoa n).toArray⟩
def slash : ByteArray := ⟨#[47]⟩
def textS (a b : Int) : ByteArray := if b = 1 then istr a else istr a ++ (slash ++ istr b)
theorem tab_ext {w w' : World} (h : Lib.TabIs Tryd.prog w "internal/strconv.uint64pow10" .u64 Lib.pow10Tab) (hb : Ext w w') : Lib.TabIs Tryd.prog w' "internal/strconv.uint64pow10" .u64 Lib.pow10Tab := by
  unfold Lib.TabIs World.var? at *
  cases hg : Tryd.prog.globalNamed "internal/strconv.uint64pow10" with
  | none => simp [hg] at h
  | some g =>
    simp only [hg, Option.bind_some] at h ⊢
    have hlt : g < w.heap.size := by
      rcases Nat.lt_or_ge g w.heap.size with h' | h'
      · exact h'
      · rw [Array.getElem?_eq_none h'] at h; simp at h
    rw [hb.block g hlt (fun x => x)]
    exact h
theorem itoa_x (n : Int) (w : World) (h0 : -9223372036854775808 ≤ n) (h1 : n ≤ 9223372036854775807) (htab : Lib.TabIs Tryd.prog w "internal/strconv.uint64pow10" .u64 Lib.pow10Tab) : Calls Tryd.prog 51 #[.int .i64 n] w fun e w' => e = .returned (.string (istr n)) ∧ Ext w w' :=
  (Tryd.strconv_Itoa n h0 h1 w htab).mono fun e w' ⟨h, k, os, h'⟩ => ⟨h, by
    subst h'
    have hb := Lib.below_grow w.heap.size w (Nat.le_refl _) k os
    exact ⟨hb.os, hb.tape, hb.output, hb.size, fun k hk _ => hb.block k hk⟩⟩
set_option maxRecDepth 100000 in
set_option maxHeartbeats 1000000 in
theorem text_bad (a b : Int) (w : World) (ha0 : -9223372036854775808 ≤ a) (ha1 : a ≤ 9223372036854775807) (hb0 : -9223372036854775808 ≤ b) (hb1 : b ≤ 9223372036854775807) (hv : vfB a b = false) : Calls Tryd.prog 40 #[.agg #[.int .i64 a, .int .i64 b]] w fun e w' => e = .returned (.tuple #[.string ⟨#[]⟩, .int .i64 1]) ∧ Ext w w' := by
  have C1 : Hid (∀ W, Calls Tryd.prog 15 #[.agg #[.int .i64 a, .int .i64 b]] W fun e w' => e = .returned (.bool false) ∧ Ext W w') := fun W => by have := valid_x a b W ha0 ha1 hb0 hb1; rw [hv] at this; exact this
  have HE0 : Hid (Ext w (w.alloc (.cells #[.int .i64 a, .int .i64 b] 24))) := (Upd.refl _ w).alloc _
  have hbA := alloc0 w (.cells #[.int .i64 a, .int .i64 b] 24)
  have HX : Hid (∀ W, Ext (w.alloc (.cells #[.int .i64 a, .int .i64 b] 24)) W → W.heap[w.heap.size]? = some (.cells #[.int .i64 a, .int .i64 b] 24)) := fun W hW => hW.heap hbA (fun h => h)
  have hz := HX.out _ (Upd.refl _ _)
  have k0 := cellRow hz 0 _ rfl
  have k1 := cellRow hz 1 _ rfl
  have m0 := frozenRow hz 0
  have m1 := frozenRow hz 1
  clear hbA hz
  clear hv
  go_enter Tryd.func40, Tryd.ntmps40
  go_wp2_with fail
  refine (C1.out _).mono ?_
  rintro e w4 ⟨rfl, hw4⟩
  have H4 := Lib.hid (hw4)
  clear hw4 k0 k1 m0 m1
  have hz := HX.out _ H4.out
  have k0 := cellRow hz 0 _ rfl
  have k1 := cellRow hz 1 _ rfl
  have m0 := frozenRow hz 0
  have m1 := frozenRow hz 1
  clear hz
  go_wp2_with fail
  go_ret2
  exact ⟨rfl, HE0.out.ext H4.out⟩

set_option maxRecDepth 100000 in
set_option maxHeartbeats 1000000 in
theorem text_int (a b : Int) (w : World) (ha0 : -9223372036854775808 ≤ a) (ha1 : a ≤ 9223372036854775807) (hb0 : -9223372036854775808 ≤ b) (hb1 : b ≤ 9223372036854775807) (htab : Lib.TabIs Tryd.prog w "internal/strconv.uint64pow10" .u64 Lib.pow10Tab) (hv : vfB a b = true) (hb : b = 1) : Calls Tryd.prog 40 #[.agg #[.int .i64 a, .int .i64 b]] w fun e w' => e = .returned (.tuple #[.string (textS a b), .int .i64 0]) ∧ Ext w w' := by
  have C1 : Hid (∀ W, Calls Tryd.prog 15 #[.agg #[.int .i64 a, .int .i64 b]] W fun e w' => e = .returned (.bool true) ∧ Ext W w') := fun W => by have := valid_x a b W ha0 ha1 hb0 hb1; rw [hv] at this; exact this
  have HE0 : Hid (Ext w (w.alloc (.cells #[.int .i64 a, .int .i64 b] 24))) := (Upd.refl _ w).alloc _
  have hbA := alloc0 w (.cells #[.int .i64 a, .int .i64 b] 24)
  have HX : Hid (∀ W, Ext (w.alloc (.cells #[.int .i64 a, .int .i64 b] 24)) W → W.heap[w.heap.size]? = some (.cells #[.int .i64 a, .int .i64 b] 24)) := fun W hW => hW.heap hbA (fun h => h)
  have hz := HX.out _ (Upd.refl _ _)
  have k0 := cellRow hz 0 _ rfl
  have k1 := cellRow hz 1 _ rfl
  have m0 := frozenRow hz 0
  have m1 := frozenRow hz 1
  clear hbA hz
  have CA : Hid (∀ W, Ext w W → Calls Tryd.prog 51 #[.int .i64 a] W fun e w' => e = .returned (.string (istr a)) ∧ Ext W w') := fun W hW => itoa_x a W ha0 ha1 (tab_ext htab hW)
  have CB : Hid (∀ W, Ext w W → Calls Tryd.prog 51 #[.int .i64 b] W fun e w' => e = .returned (.string (istr b)) ∧ Ext W w') := fun W hW => itoa_x b W hb0 hb1 (tab_ext htab hW)
  clear hv
  have hR : textS a b = istr a := if_pos hb
  rw [hR]
  clear hR CB
  have t1 : (b == 1) = true := beq_iff_eq.2 hb
  have t2 : (b != 1) = false := by simp [hb]
  generalize istr a = A at *
  clear hb
  go_enter Tryd.func40, Tryd.ntmps40
  go_wp2_with fail
  refine (C1.out _).mono ?_
  rintro e w4 ⟨rfl, hw4⟩
  have H4 := Lib.hid (hw4)
  clear hw4 k0 k1 m0 m1
  have hz := HX.out _ H4.out
  have k0 := cellRow hz 0 _ rfl
  have k1 := cellRow hz 1 _ rfl
  have m0 := frozenRow hz 0
  have m1 := frozenRow hz 1
  clear hz
  go_wp2_with fail
  refine (CA.out _ (HE0.out.ext H4.out)).mono ?_
  rintro e w5 ⟨rfl, hw5⟩
  have H5 := Lib.hid (H4.out.ext hw5)
  clear hw5 k0 k1 m0 m1
  have hz := HX.out _ H5.out
  have k0 := cellRow hz 0 _ rfl
  have k1 := cellRow hz 1 _ rfl
  have m0 := frozenRow hz 0
  have m1 := frozenRow hz 1
  clear hz
  go_wp2_with fail
  go_ret2
  exact ⟨rfl, HE0.out.ext H5.out⟩

set_option maxRecDepth 100000 in
set_option maxHeartbeats 1000000 in
theorem text_frac (a b : Int) (w : World) (ha0 : -9223372036854775808 ≤ a) (ha1 : a ≤ 9223372036854775807) (hb0 : -9223372036854775808 ≤ b) (hb1 : b ≤ 9223372036854775807) (htab : Lib.TabIs Tryd.prog w "internal/strconv.uint64pow10" .u64 Lib.pow10Tab) (hv : vfB a b = true) (hb : b ≠ 1) : Calls Tryd.prog 40 #[.agg #[.int .i64 a, .int .i64 b]] w fun e w' => e = .returned (.tuple #[.string (textS a b), .int .i64 0]) ∧ Ext w w' := by
  have C1 : Hid (∀ W, Calls Tryd.prog 15 #[.agg #[.int .i64 a, .int .i64 b]] W fun e w' => e = .returned (.bool true) ∧ Ext W w') := fun W => by have := valid_x a b W ha0 ha1 hb0 hb1; rw [hv] at this; exact this
  have HE0 : Hid (Ext w (w.alloc (.cells #[.int .i64 a, .int .i64 b] 24))) := (Upd.refl _ w).alloc _
  have hbA := alloc0 w (.cells #[.int .i64 a, .int .i64 b] 24)
  have HX : Hid (∀ W, Ext (w.alloc (.cells #[.int .i64 a, .int .i64 b] 24)) W → W.heap[w.heap.size]? = some (.cells #[.int .i64 a, .int .i64 b] 24)) := fun W hW => hW.heap hbA (fun h => h)
  have hz := HX.out _ (Upd.refl _ _)
  have k0 := cellRow hz 0 _ rfl
  have k1 := cellRow hz 1 _ rfl
  have m0 := frozenRow hz 0
  have m1 := frozenRow hz 1
  clear hbA hz
  have CA : Hid (∀ W, Ext w W → Calls Tryd.prog 51 #[.int .i64 a] W fun e w' => e = .returned (.string (istr a)) ∧ Ext W w') := fun W hW => itoa_x a W ha0 ha1 (tab_ext htab hW)
  have CB : Hid (∀ W, Ext w W → Calls Tryd.prog 51 #[.int .i64 b] W fun e w' => e = .returned (.string (istr b)) ∧ Ext W w') := fun W hW => itoa_x b W hb0 hb1 (tab_ext htab hW)
  clear hv
  have hR : textS a b = istr a ++ (slash ++ istr b) := if_neg hb
  have t1 : (b == 1) = false := beq_eq_false_iff_ne.2 hb
  have t2 : (b != 1) = true := bne_iff_ne.2 hb
  have s1 : (istr a).size ≤ 21 := Lib.itoa_length_le a ha0 ha1
  have s2 : (istr b).size ≤ 21 := Lib.itoa_length_le b hb0 hb1
  generalize istr a = A at *
  generalize istr b = B at *
  have s3 : ¬ (9223372036854775807 < 1 + B.size) := by omega
  have s4 : ¬ (9223372036854775807 < A.size + (1 + B.size)) := by omega
  clear s1 s2
  obtain ⟨R, hR2⟩ : ∃ R, A ++ (slash ++ B) = R := ⟨_, rfl⟩
  rw [hR, hR2]
  unfold slash at hR2
  have HR := Lib.hid hR2
  clear hb hR hR2
  go_enter Tryd.func40, Tryd.ntmps40
  go_wp2_with fail
  refine (C1.out _).mono ?_
  rintro e w4 ⟨rfl, hw4⟩
  have H4 := Lib.hid (hw4)
  clear hw4 k0 k1 m0 m1
  have hz := HX.out _ H4.out
  have k0 := cellRow hz 0 _ rfl
  have k1 := cellRow hz 1 _ rfl
  have m0 := frozenRow hz 0
  have m1 := frozenRow hz 1
  clear hz
  go_wp2_with fail
  refine (CA.out _ (HE0.out.ext H4.out)).mono ?_
  rintro e w5 ⟨rfl, hw5⟩
  have H5 := Lib.hid (H4.out.ext hw5)
  clear hw5 k0 k1 m0 m1
  have hz := HX.out _ H5.out
  have k0 := cellRow hz 0 _ rfl
  have k1 := cellRow hz 1 _ rfl
  have m0 := frozenRow hz 0
  have m1 := frozenRow hz 1
  clear hz
  go_wp2_with fail
  refine (CB.out _ (HE0.out.ext H5.out)).mono ?_
  rintro e w6 ⟨rfl, hw6⟩
  have H6 := Lib.hid (H5.out.ext hw6)
  clear hw6 k0 k1 m0 m1
  have hz := HX.out _ H6.out
  have k0 := cellRow hz 0 _ rfl
  have k1 := cellRow hz 1 _ rfl
  have m0 := frozenRow hz 0
  have m1 := frozenRow hz 1
  clear hz
  go_wp2_with fail
  have hR2 := HR.out
  go_wp2_with fail
  go_ret2

  exact ⟨by rw [← HR.out]; rfl, HE0.out.ext H6.out⟩

theorem text_ok (a b : Int) (w : World) (ha0 : -9223372036854775808 ≤ a) (ha1 : a ≤ 9223372036854775807) (hb0 : -9223372036854775808 ≤ b) (hb1 : b ≤ 9223372036854775807) (htab : Lib.TabIs Tryd.prog w "internal/strconv.uint64pow10" .u64 Lib.pow10Tab) (hv : vfB a b = true) : Calls Tryd.prog 40 #[.agg #[.int .i64 a, .int .i64 b]] w fun e w' => e = .returned (.tuple #[.string (textS a b), .int .i64 0]) ∧ Ext w w' := by
  by_cases hb : b = 1
  · exact text_int a b w ha0 ha1 hb0 hb1 htab hv hb
  · exact text_frac a b w ha0 ha1 hb0 hb1 htab hv hb
theorem textS_32 : textS (-3) 2 = ⟨#[45, 51, 47, 50]⟩ := by decide +kernel

end Go.Proofs.YtlipjgpfhmkdhaaDoor
