/- The examples. -/
import Derived.Test.YtlbnilhbfiidmaaDoorB22
namespace Go.Proofs.YtlbnilhbfiidmaaDoor
open Go.RowKit Go.Hw
set_option linter.unusedVariables false
set_option linter.unusedSimpArgs false

theorem cdr_one (W : World) (B1 B4 n : Nat) (cd : List (Int × Int)) (hn : cd.length = n) (h1 : W.heap[B1]? = some (.cells (insCells cd).toArray 46)) (h4 : W.heap[B4]? = some (.cells #[.string ⟨#[112]⟩, .int .i64 0, .int .i64 0, .bool true, .slice (some ⟨B1, 0, none⟩) n n] 39)) (hn2 : n ≤ 1000) (hb : ∀ p ∈ cd, I64 p.1 ∧ I64 p.2) :
    CdR W (.slice none 0 0) (.slice (some ⟨B4, 0, none⟩) 1 1) ⟨[], 0, [⟨⟨#[112]⟩, 0, 0, true, cd, .slice (some ⟨B1, 0, none⟩) n n⟩]⟩ := by
  refine ⟨SlR.nil _ _ _, ?_, ?_, by simp, by simp, by unfold I64; simp⟩
  · refine SlR.mk' (by rfl) rfl (Nat.le_refl _) (fun _ => trivial) (fun j hj => ?_)
    rw [Nat.zero_add]
    have hj5 : j < 5 := hj
    match j, hj5 with
    | 0, _ => exact cellRow h4 0 _ rfl
    | 1, _ => exact cellRow h4 1 _ rfl
    | 2, _ => exact cellRow h4 2 _ rfl
    | 3, _ => exact cellRow h4 3 _ rfl
    | 4, _ => exact cellRow h4 4 _ rfl
  · intro f hf
    rw [List.mem_singleton] at hf
    subst hf
    refine ⟨?_, by show cd.length ≤ _; omega, by show (1 : Nat) ≤ _; omega, by unfold I64; simp, hb⟩
    show SlR Any1 W 2 (.slice (some ⟨B1, 0, none⟩) n n) cd.length (insCells cd)
    rw [hn]
    refine SlR.mk' (by rw [insCells_len, hn]) rfl (Nat.le_refl _) (fun _ => trivial) (fun j hj => ?_)
    rw [Nat.zero_add]
    have hlt : j < (insCells cd).length := by rw [insCells_len, hn]; exact hj
    rw [List.getElem?_eq_getElem hlt]
    exact cellRow h1 j _ (by simp [hlt])
theorem hg1 (V : Value) : hgP ⟨[], 0, [⟨⟨#[112]⟩, 0, 0, true, [(1, 1), (12, 4), (1, 2), (11, 5), (1, 3), (10, 0)], V⟩]⟩ 0 = ([0, 1, 0, 1, 0, 1], 0) := by kernel_rfl
theorem ck2 (V : Value) : ckP ⟨[], 0, [⟨⟨#[112]⟩, 0, 0, true, [(1, 1), (12, 3), (1, 2), (1, 3), (10, 0)], V⟩]⟩ = (0, 2, 13) := by kernel_rfl
theorem i64s1 : ∀ p ∈ ([(1, 1), (12, 4), (1, 2), (11, 5), (1, 3), (10, 0)] : List (Int × Int)), I64 p.1 ∧ I64 p.2 := by intro p hp; unfold I64; simp at hp; rcases hp with rfl | rfl | rfl | rfl | rfl | rfl <;> simp
theorem i64s2 : ∀ p ∈ ([(1, 1), (12, 3), (1, 2), (1, 3), (10, 0)] : List (Int × Int)), I64 p.1 ∧ I64 p.2 := by intro p hp; unfold I64; simp at hp; rcases hp with rfl | rfl | rfl | rfl | rfl <;> simp
set_option maxRecDepth 100000 in
set_option maxHeartbeats 4000000 in
/-- the examples -/
theorem awake_x (w : World) (htab : AscT w) (hT : ∀ W, Ext w W → TabAt 0 Lib.deBruijn64tab W) : Calls Tryd.prog 5 #[] w fun e w' => e = .returned (.bool true) ∧ Ext w w' := by
  have HE4 : Hid (Ext w ((((w.alloc (.cells #[.int .i64 1, .int .i64 1, .int .i64 12, .int .i64 4, .int .i64 1, .int .i64 2, .int .i64 11, .int .i64 5, .int .i64 1, .int .i64 3, .int .i64 10, .int .i64 0] 46)).alloc (.cells #[.string ⟨#[112]⟩, .int .i64 0, .int .i64 0, .bool true, .slice (some ⟨w.heap.size, 0, none⟩) 6 6] 39)).alloc (.cells #[.int .i64 1, .int .i64 1, .int .i64 12, .int .i64 3, .int .i64 1, .int .i64 2, .int .i64 1, .int .i64 3, .int .i64 10, .int .i64 0] 46)).alloc (.cells #[.string ⟨#[112]⟩, .int .i64 0, .int .i64 0, .bool true, .slice (some ⟨w.heap.size + 1 + 1, 0, none⟩) 5 5] 39))) := ((((Upd.refl _ w).alloc _).alloc _).alloc _).alloc _
  have HE5 : Hid (Ext w (((((w.alloc (.cells #[.int .i64 1, .int .i64 1, .int .i64 12, .int .i64 4, .int .i64 1, .int .i64 2, .int .i64 11, .int .i64 5, .int .i64 1, .int .i64 3, .int .i64 10, .int .i64 0] 46)).alloc (.cells #[.string ⟨#[112]⟩, .int .i64 0, .int .i64 0, .bool true, .slice (some ⟨w.heap.size, 0, none⟩) 6 6] 39)).alloc (.cells #[.int .i64 1, .int .i64 1, .int .i64 12, .int .i64 3, .int .i64 1, .int .i64 2, .int .i64 1, .int .i64 3, .int .i64 10, .int .i64 0] 46)).alloc (.cells #[.string ⟨#[112]⟩, .int .i64 0, .int .i64 0, .bool true, .slice (some ⟨w.heap.size + 1 + 1, 0, none⟩) 5 5] 39)).alloc (.cells #[.string ⟨#[112]⟩, .int .i64 0, .int .i64 0, .bool true, .slice (some ⟨w.heap.size, 0, none⟩) 6 6] 39))) := HE4.out.alloc _
  have HX0 : Hid (∀ W, Ext ((((w.alloc (.cells #[.int .i64 1, .int .i64 1, .int .i64 12, .int .i64 4, .int .i64 1, .int .i64 2, .int .i64 11, .int .i64 5, .int .i64 1, .int .i64 3, .int .i64 10, .int .i64 0] 46)).alloc (.cells #[.string ⟨#[112]⟩, .int .i64 0, .int .i64 0, .bool true, .slice (some ⟨w.heap.size, 0, none⟩) 6 6] 39)).alloc (.cells #[.int .i64 1, .int .i64 1, .int .i64 12, .int .i64 3, .int .i64 1, .int .i64 2, .int .i64 1, .int .i64 3, .int .i64 10, .int .i64 0] 46)).alloc (.cells #[.string ⟨#[112]⟩, .int .i64 0, .int .i64 0, .bool true, .slice (some ⟨w.heap.size + 1 + 1, 0, none⟩) 5 5] 39)) W → W.heap[w.heap.size]? = some (.cells #[.int .i64 1, .int .i64 1, .int .i64 12, .int .i64 4, .int .i64 1, .int .i64 2, .int .i64 11, .int .i64 5, .int .i64 1, .int .i64 3, .int .i64 10, .int .i64 0] 46)) := fun W hW => hW.heap (allocOld (allocOld (allocOld (alloc0 w _) _) _) _) (fun h => h)
  have HX2 : Hid (∀ W, Ext ((((w.alloc (.cells #[.int .i64 1, .int .i64 1, .int .i64 12, .int .i64 4, .int .i64 1, .int .i64 2, .int .i64 11, .int .i64 5, .int .i64 1, .int .i64 3, .int .i64 10, .int .i64 0] 46)).alloc (.cells #[.string ⟨#[112]⟩, .int .i64 0, .int .i64 0, .bool true, .slice (some ⟨w.heap.size, 0, none⟩) 6 6] 39)).alloc (.cells #[.int .i64 1, .int .i64 1, .int .i64 12, .int .i64 3, .int .i64 1, .int .i64 2, .int .i64 1, .int .i64 3, .int .i64 10, .int .i64 0] 46)).alloc (.cells #[.string ⟨#[112]⟩, .int .i64 0, .int .i64 0, .bool true, .slice (some ⟨w.heap.size + 1 + 1, 0, none⟩) 5 5] 39)) W → W.heap[w.heap.size + 1 + 1]? = some (.cells #[.int .i64 1, .int .i64 1, .int .i64 12, .int .i64 3, .int .i64 1, .int .i64 2, .int .i64 1, .int .i64 3, .int .i64 10, .int .i64 0] 46)) := fun W hW => hW.heap (allocOld (alloc_at ((w.alloc (.cells #[.int .i64 1, .int .i64 1, .int .i64 12, .int .i64 4, .int .i64 1, .int .i64 2, .int .i64 11, .int .i64 5, .int .i64 1, .int .i64 3, .int .i64 10, .int .i64 0] 46)).alloc (.cells #[.string ⟨#[112]⟩, .int .i64 0, .int .i64 0, .bool true, .slice (some ⟨w.heap.size, 0, none⟩) 6 6] 39)) _ (n := w.heap.size + 1 + 1) (by simp)) _) (fun h => h)
  have HX3 : Hid (∀ W, Ext ((((w.alloc (.cells #[.int .i64 1, .int .i64 1, .int .i64 12, .int .i64 4, .int .i64 1, .int .i64 2, .int .i64 11, .int .i64 5, .int .i64 1, .int .i64 3, .int .i64 10, .int .i64 0] 46)).alloc (.cells #[.string ⟨#[112]⟩, .int .i64 0, .int .i64 0, .bool true, .slice (some ⟨w.heap.size, 0, none⟩) 6 6] 39)).alloc (.cells #[.int .i64 1, .int .i64 1, .int .i64 12, .int .i64 3, .int .i64 1, .int .i64 2, .int .i64 1, .int .i64 3, .int .i64 10, .int .i64 0] 46)).alloc (.cells #[.string ⟨#[112]⟩, .int .i64 0, .int .i64 0, .bool true, .slice (some ⟨w.heap.size + 1 + 1, 0, none⟩) 5 5] 39)) W → W.heap[w.heap.size + 1 + 1 + 1]? = some (.cells #[.string ⟨#[112]⟩, .int .i64 0, .int .i64 0, .bool true, .slice (some ⟨w.heap.size + 1 + 1, 0, none⟩) 5 5] 39)) := fun W hW => hW.heap (alloc_at (((w.alloc (.cells #[.int .i64 1, .int .i64 1, .int .i64 12, .int .i64 4, .int .i64 1, .int .i64 2, .int .i64 11, .int .i64 5, .int .i64 1, .int .i64 3, .int .i64 10, .int .i64 0] 46)).alloc (.cells #[.string ⟨#[112]⟩, .int .i64 0, .int .i64 0, .bool true, .slice (some ⟨w.heap.size, 0, none⟩) 6 6] 39)).alloc (.cells #[.int .i64 1, .int .i64 1, .int .i64 12, .int .i64 3, .int .i64 1, .int .i64 2, .int .i64 1, .int .i64 3, .int .i64 10, .int .i64 0] 46)) _ (n := w.heap.size + 1 + 1 + 1) (by simp)) (fun h => h)
  have HU5 : Hid (Ext ((((w.alloc (.cells #[.int .i64 1, .int .i64 1, .int .i64 12, .int .i64 4, .int .i64 1, .int .i64 2, .int .i64 11, .int .i64 5, .int .i64 1, .int .i64 3, .int .i64 10, .int .i64 0] 46)).alloc (.cells #[.string ⟨#[112]⟩, .int .i64 0, .int .i64 0, .bool true, .slice (some ⟨w.heap.size, 0, none⟩) 6 6] 39)).alloc (.cells #[.int .i64 1, .int .i64 1, .int .i64 12, .int .i64 3, .int .i64 1, .int .i64 2, .int .i64 1, .int .i64 3, .int .i64 10, .int .i64 0] 46)).alloc (.cells #[.string ⟨#[112]⟩, .int .i64 0, .int .i64 0, .bool true, .slice (some ⟨w.heap.size + 1 + 1, 0, none⟩) 5 5] 39)) (((((w.alloc (.cells #[.int .i64 1, .int .i64 1, .int .i64 12, .int .i64 4, .int .i64 1, .int .i64 2, .int .i64 11, .int .i64 5, .int .i64 1, .int .i64 3, .int .i64 10, .int .i64 0] 46)).alloc (.cells #[.string ⟨#[112]⟩, .int .i64 0, .int .i64 0, .bool true, .slice (some ⟨w.heap.size, 0, none⟩) 6 6] 39)).alloc (.cells #[.int .i64 1, .int .i64 1, .int .i64 12, .int .i64 3, .int .i64 1, .int .i64 2, .int .i64 1, .int .i64 3, .int .i64 10, .int .i64 0] 46)).alloc (.cells #[.string ⟨#[112]⟩, .int .i64 0, .int .i64 0, .bool true, .slice (some ⟨w.heap.size + 1 + 1, 0, none⟩) 5 5] 39)).alloc (.cells #[.string ⟨#[112]⟩, .int .i64 0, .int .i64 0, .bool true, .slice (some ⟨w.heap.size, 0, none⟩) 6 6] 39))) := (Upd.refl _ _).alloc _
  have hc1 : CdR (((((w.alloc (.cells #[.int .i64 1, .int .i64 1, .int .i64 12, .int .i64 4, .int .i64 1, .int .i64 2, .int .i64 11, .int .i64 5, .int .i64 1, .int .i64 3, .int .i64 10, .int .i64 0] 46)).alloc (.cells #[.string ⟨#[112]⟩, .int .i64 0, .int .i64 0, .bool true, .slice (some ⟨w.heap.size, 0, none⟩) 6 6] 39)).alloc (.cells #[.int .i64 1, .int .i64 1, .int .i64 12, .int .i64 3, .int .i64 1, .int .i64 2, .int .i64 1, .int .i64 3, .int .i64 10, .int .i64 0] 46)).alloc (.cells #[.string ⟨#[112]⟩, .int .i64 0, .int .i64 0, .bool true, .slice (some ⟨w.heap.size + 1 + 1, 0, none⟩) 5 5] 39)).alloc (.cells #[.string ⟨#[112]⟩, .int .i64 0, .int .i64 0, .bool true, .slice (some ⟨w.heap.size, 0, none⟩) 6 6] 39)) (.slice none 0 0) (.slice (some ⟨w.heap.size + 1 + 1 + 1 + 1, 0, none⟩) 1 1) (⟨[], 0, [⟨⟨#[112]⟩, 0, 0, true, [(1, 1), (12, 4), (1, 2), (11, 5), (1, 3), (10, 0)], .slice (some ⟨w.heap.size, 0, none⟩) 6 6⟩]⟩ : Cd) := cdr_one (((((w.alloc (.cells #[.int .i64 1, .int .i64 1, .int .i64 12, .int .i64 4, .int .i64 1, .int .i64 2, .int .i64 11, .int .i64 5, .int .i64 1, .int .i64 3, .int .i64 10, .int .i64 0] 46)).alloc (.cells #[.string ⟨#[112]⟩, .int .i64 0, .int .i64 0, .bool true, .slice (some ⟨w.heap.size, 0, none⟩) 6 6] 39)).alloc (.cells #[.int .i64 1, .int .i64 1, .int .i64 12, .int .i64 3, .int .i64 1, .int .i64 2, .int .i64 1, .int .i64 3, .int .i64 10, .int .i64 0] 46)).alloc (.cells #[.string ⟨#[112]⟩, .int .i64 0, .int .i64 0, .bool true, .slice (some ⟨w.heap.size + 1 + 1, 0, none⟩) 5 5] 39)).alloc (.cells #[.string ⟨#[112]⟩, .int .i64 0, .int .i64 0, .bool true, .slice (some ⟨w.heap.size, 0, none⟩) 6 6] 39)) (w.heap.size) (w.heap.size + 1 + 1 + 1 + 1) 6 [(1, 1), (12, 4), (1, 2), (11, 5), (1, 3), (10, 0)] rfl (HX0.out _ HU5.out) (alloc_at ((((w.alloc (.cells #[.int .i64 1, .int .i64 1, .int .i64 12, .int .i64 4, .int .i64 1, .int .i64 2, .int .i64 11, .int .i64 5, .int .i64 1, .int .i64 3, .int .i64 10, .int .i64 0] 46)).alloc (.cells #[.string ⟨#[112]⟩, .int .i64 0, .int .i64 0, .bool true, .slice (some ⟨w.heap.size, 0, none⟩) 6 6] 39)).alloc (.cells #[.int .i64 1, .int .i64 1, .int .i64 12, .int .i64 3, .int .i64 1, .int .i64 2, .int .i64 1, .int .i64 3, .int .i64 10, .int .i64 0] 46)).alloc (.cells #[.string ⟨#[112]⟩, .int .i64 0, .int .i64 0, .bool true, .slice (some ⟨w.heap.size + 1 + 1, 0, none⟩) 5 5] 39)) _ (by simp)) (by decide) i64s1
  have HG := Lib.hid (hgt_x _ _ _ _ hc1 (asc_ext htab HE5.out) (fun V hV => hT V (HE5.out.ext hV)) 0)
  unfold HgtP at HG
  rw [hg1] at HG
  have HCK : Hid (∀ W, Ext ((((w.alloc (.cells #[.int .i64 1, .int .i64 1, .int .i64 12, .int .i64 4, .int .i64 1, .int .i64 2, .int .i64 11, .int .i64 5, .int .i64 1, .int .i64 3, .int .i64 10, .int .i64 0] 46)).alloc (.cells #[.string ⟨#[112]⟩, .int .i64 0, .int .i64 0, .bool true, .slice (some ⟨w.heap.size, 0, none⟩) 6 6] 39)).alloc (.cells #[.int .i64 1, .int .i64 1, .int .i64 12, .int .i64 3, .int .i64 1, .int .i64 2, .int .i64 1, .int .i64 3, .int .i64 10, .int .i64 0] 46)).alloc (.cells #[.string ⟨#[112]⟩, .int .i64 0, .int .i64 0, .bool true, .slice (some ⟨w.heap.size + 1 + 1, 0, none⟩) 5 5] 39)) W → Calls Tryd.prog 7 #[.agg #[.slice none 0 0, .int .i64 0, .slice (some ⟨W.heap.size, 0, none⟩) 1 1]] (W.alloc (.cells #[.string ⟨#[112]⟩, .int .i64 0, .int .i64 0, .bool true, .slice (some ⟨w.heap.size + 1 + 1, 0, none⟩) 5 5] 39)) fun e w' => e = .returned (.tuple #[.int .i64 0, .int .i64 2, .int .i64 13]) ∧ Ext (W.alloc (.cells #[.string ⟨#[112]⟩, .int .i64 0, .int .i64 0, .bool true, .slice (some ⟨w.heap.size + 1 + 1, 0, none⟩) 5 5] 39)) w') := fun W hW => by
    have hu : Ext ((((w.alloc (.cells #[.int .i64 1, .int .i64 1, .int .i64 12, .int .i64 4, .int .i64 1, .int .i64 2, .int .i64 11, .int .i64 5, .int .i64 1, .int .i64 3, .int .i64 10, .int .i64 0] 46)).alloc (.cells #[.string ⟨#[112]⟩, .int .i64 0, .int .i64 0, .bool true, .slice (some ⟨w.heap.size, 0, none⟩) 6 6] 39)).alloc (.cells #[.int .i64 1, .int .i64 1, .int .i64 12, .int .i64 3, .int .i64 1, .int .i64 2, .int .i64 1, .int .i64 3, .int .i64 10, .int .i64 0] 46)).alloc (.cells #[.string ⟨#[112]⟩, .int .i64 0, .int .i64 0, .bool true, .slice (some ⟨w.heap.size + 1 + 1, 0, none⟩) 5 5] 39)) (W.alloc (.cells #[.string ⟨#[112]⟩, .int .i64 0, .int .i64 0, .bool true, .slice (some ⟨w.heap.size + 1 + 1, 0, none⟩) 5 5] 39)) := hW.alloc _
    have hc2 : CdR (W.alloc (.cells #[.string ⟨#[112]⟩, .int .i64 0, .int .i64 0, .bool true, .slice (some ⟨w.heap.size + 1 + 1, 0, none⟩) 5 5] 39)) (.slice none 0 0) (.slice (some ⟨W.heap.size, 0, none⟩) 1 1) (⟨[], 0, [⟨⟨#[112]⟩, 0, 0, true, [(1, 1), (12, 3), (1, 2), (1, 3), (10, 0)], .slice (some ⟨w.heap.size + 1 + 1, 0, none⟩) 5 5⟩]⟩ : Cd) := cdr_one _ (w.heap.size + 1 + 1) W.heap.size 5 [(1, 1), (12, 3), (1, 2), (1, 3), (10, 0)] rfl (HX2.out _ hu) (alloc0 W _) (by decide) i64s2
    have := check_x _ _ _ _ hc2 (asc_ext htab (HE4.out.ext hu)) (fun V hV => hT V ((HE4.out.ext hu).ext hV))
    rw [ck2] at this
    exact this
  clear hc1 htab hT
  go_enter Tryd.func5, Tryd.ntmps5
  go_wp2_with fail
  refine HG.out.mono ?_
  rintro e w5 ⟨v, rfl, hs, h5⟩
  have HS := Lib.hid hs
  have H5 := Lib.hid (HU5.out.ext h5)
  obtain ⟨va, vc, hv⟩ := hs.shape
  subst hv
  have hz := HX3.out _ H5.out
  have k0 := cellRow hz 0 _ rfl
  have k1 := cellRow hz 1 _ rfl
  have k2 := cellRow hz 2 _ rfl
  have k3 := cellRow hz 3 _ rfl
  have k4 := cellRow hz 4 _ rfl
  clear hz hs h5
  go_wp2_with fail
  refine (HCK.out _ H5.out).mono ?_
  rintro e w6 ⟨rfl, h6⟩
  have H6 := Lib.hid ((H5.out.alloc (.cells #[.string ⟨#[112]⟩, .int .i64 0, .int .i64 0, .bool true, .slice (some ⟨w.heap.size + 1 + 1, 0, none⟩) 5 5] 39)).ext h6)
  have HS6 := Lib.hid ((HS.out.kept ((Upd.refl _ _).alloc _) (fun _ _ h => h)).kept h6 (fun _ _ h => h))
  clear h6 k0 k1 k2 k3 k4 HS
  have hq : SlR Any1 (w6.alloc (.cells #[.int .i64 0, .int .i64 1, .int .i64 0, .int .i64 1, .int .i64 0, .int .i64 1] 3)) 1 (.slice (some ⟨w6.heap.size, 0, none⟩) 6 6) ([0, 1, 0, 1, 0, 1] : List Int).length (ints [0, 1, 0, 1, 0, 1]) := (Arr.new w6 3 #[.int .i64 0, .int .i64 1, .int .i64 0, .int .i64 1, .int .i64 0, .int .i64 1]).slR (cap := 6) (by decide) trivial
  have HEQ := Lib.hid (equal_x Any1 Any1 _ _ [0, 1, 0, 1, 0, 1] [0, 1, 0, 1, 0, 1] _ (HS6.out.kept ((Upd.refl _ _).alloc _) (fun _ _ h => h)) hq (by decide) (by decide))
  rw [decide_eq_true rfl] at HEQ
  clear hq
  go_wp2_with fail
  refine HEQ.out.mono ?_
  rintro e w7 ⟨rfl, h7⟩
  have H7 := Lib.hid ((H6.out.alloc _).ext h7)
  clear h7
  go_wp2_with fail
  go_ret
  exact ⟨rfl, HE4.out.ext H7.out⟩

end Go.Proofs.YtlbnilhbfiidmaaDoor
