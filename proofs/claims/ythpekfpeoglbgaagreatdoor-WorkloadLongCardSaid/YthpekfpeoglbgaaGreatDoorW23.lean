/- Workload: the examples of the chapter hold. -/
import Derived.Test.YthpekfpeoglbgaaGreatDoorW22
import Derived.Test.YthpekfpeoglbgaaGreatDoorW17
import Derived.Test.YthpekfpeoglbgaaGreatDoorW18
import Derived.Test.YthpekfpeoglbgaaGreatDoorW15
import Derived.Test.YthpekfpeoglbgaaGreatDoorW9
import Derived.Test.YthpekfpeoglbgaaGreatDoorW10
namespace Go.Proofs.YthpekfpeoglbgaaGreatDoor
open Go.RowKit Go.Hw
set_option linter.unusedVariables false
set_option linter.unusedSimpArgs false

theorem SlR.block {w : World} {b : Nat} {cs : List Value} {t : TypeId} {n size : Nat} (h : w.heap[b]? = some (.cells cs.toArray t (0, 0))) (hl : cs.length = n * size) : SlR (fun k => k = b) w size (.slice (some ⟨b, 0, none⟩) n n) n cs :=
  ⟨hl, .inr ⟨⟨b, 0, none⟩, n, rfl, Nat.le_refl _, fun _ => ⟨rfl, rfl⟩, fun j hj => by rw [Nat.zero_add, cell_of_row w b j _ t _ h]; simp⟩⟩
theorem NumR.block {w : World} {b : Nat} (l : List Int) (h : w.heap[b]? = some (.cells (nums l).toArray 3 (0, 0))) : NumR (fun k => k = b) w (.slice (some ⟨b, 0, none⟩) l.length l.length) l :=
  SlR.block h (by rw [nums_length]; omega)
def pA : Prof := ⟨2, [1, 0, 1, 0], 0, 9⟩
def lA : List OpM := [⟨1, [1]⟩, ⟨1, [1]⟩, ⟨2, []⟩, ⟨2, []⟩]
theorem aw_sq : sq 1 2 = 182605794 := by kernel_rfl
theorem aw_vp : validP pA = true := by kernel_rfl
theorem aw_gens : gens pA 1 2 = [⟨3, []⟩, ⟨1, [6]⟩] := by kernel_rfl
theorem aw_val : validL 2 lA = true := by kernel_rfl
theorem aw_ph : (Ph (UN (nW 2) [1, 1, 2, 2]) 4 2).map (fun i : Nat => (i : Int)) = [0, 2] := by kernel_rfl
theorem NumR.nil (S : Nat → Prop) (w : World) : NumR S w (.slice none 0 0) [] := ⟨rfl, .inl ⟨rfl, rfl⟩⟩
theorem NumR.any {S : Nat → Prop} {w : World} {v : Value} {l : List Int} (h : NumR S w v l) : NumR (fun _ => True) w v l := h.weaken (fun _ _ => trivial)
abbrev sl (b n : Nat) : Value := .slice (some ⟨b, 0, none⟩) n n
def lAV (b : Nat) : List OpV := [⟨⟨1, [1]⟩, sl b 1⟩, ⟨⟨1, [1]⟩, sl (b + 1) 1⟩, ⟨⟨2, []⟩, .slice none 0 0⟩, ⟨⟨2, []⟩, .slice none 0 0⟩]
def lBV (b : Nat) : List OpV := [⟨⟨3, []⟩, .slice none 0 0⟩, ⟨⟨1, [6]⟩, sl b 1⟩]
theorem ops4 (W : World) : OpsR (fun _ => True) (((W.alloc (.cells #[.int .i64 1] 3)).alloc (.cells #[.int .i64 1] 3)).alloc (.cells #[.int .i64 1, sl W.heap.size 1, .int .i64 1, sl (W.heap.size + 1) 1, .int .i64 2, .slice none 0 0, .int .i64 2, .slice none 0 0] 40)) (sl (W.heap.size + 1 + 1) 4) (lAV W.heap.size) := by
  have a0 := allocOld (allocOld (alloc0 W (.cells #[.int .i64 1] 3)) (.cells #[.int .i64 1] 3)) (.cells #[.int .i64 1, sl W.heap.size 1, .int .i64 1, sl (W.heap.size + 1) 1, .int .i64 2, .slice none 0 0, .int .i64 2, .slice none 0 0] 40)
  have a1 := allocOld (alloc0 (W.alloc (.cells #[.int .i64 1] 3)) (.cells #[.int .i64 1] 3)) (.cells #[.int .i64 1, sl W.heap.size 1, .int .i64 1, sl (W.heap.size + 1) 1, .int .i64 2, .slice none 0 0, .int .i64 2, .slice none 0 0] 40)
  have a2 := alloc0 ((W.alloc (.cells #[.int .i64 1] 3)).alloc (.cells #[.int .i64 1] 3)) (.cells #[.int .i64 1, sl W.heap.size 1, .int .i64 1, sl (W.heap.size + 1) 1, .int .i64 2, .slice none 0 0, .int .i64 2, .slice none 0 0] 40)
  rw [alloc_size] at a1
  rw [alloc_size, alloc_size] at a2
  refine ⟨(SlR.block (n := 4) a2 rfl).weaken (fun _ _ => trivial), fun o ho => ?_⟩
  simp only [lAV, List.mem_cons, List.not_mem_nil, or_false] at ho
  rcases ho with rfl | rfl | rfl | rfl
  · exact (NumR.block [1] a0).any
  · exact (NumR.block [1] a1).any
  · exact NumR.nil _ _
  · exact NumR.nil _ _
theorem ops2 (W : World) : OpsR (fun _ => True) ((W.alloc (.cells #[.int .i64 6] 3)).alloc (.cells #[.int .i64 3, .slice none 0 0, .int .i64 1, sl W.heap.size 1] 40)) (sl (W.heap.size + 1) 2) (lBV W.heap.size) := by
  have a0 := allocOld (alloc0 W (.cells #[.int .i64 6] 3)) (.cells #[.int .i64 3, .slice none 0 0, .int .i64 1, sl W.heap.size 1] 40)
  have a1 := alloc0 (W.alloc (.cells #[.int .i64 6] 3)) (.cells #[.int .i64 3, .slice none 0 0, .int .i64 1, sl W.heap.size 1] 40)
  rw [alloc_size] at a1
  refine ⟨(SlR.block (n := 2) a1 rfl).weaken (fun _ _ => trivial), fun o ho => ?_⟩
  simp only [lBV, List.mem_cons, List.not_mem_nil, or_false] at ho
  rcases ho with rfl | rfl
  · exact NumR.nil _ _
  · exact (NumR.block [6] a0).any
set_option maxRecDepth 100000 in
set_option maxHeartbeats 1000000 in
theorem awake_any (w : World) : Calls Tryz.prog 6 #[] w fun e w' => e = .returned (.bool true) ∧ Ext w w' := by
  have HR : Hid (∀ W, Calls Tryz.prog 15 #[.int .i64 1, .int .i64 2] W fun e w' => e = .returned (.tuple #[.int .i64 182605794, .int .i64 0]) ∧ Ext W w') := fun W => by
    have := random_ok 1 2 W (by kernel_rfl) (by decide)
    rw [aw_sq] at this
    exact this
  have HG : Hid (∀ W b, NumR (fun k => k = b) W (.slice (some ⟨b, 0, none⟩) 4 4) [1, 0, 1, 0] → Calls Tryz.prog 16 #[.agg #[.int .i64 2, .slice (some ⟨b, 0, none⟩) 4 4, .int .i64 0, .int .i64 9], .int .i64 1, .int .i64 2] W fun e w' => ∃ v L, e = .returned (.tuple #[v, .int .i64 0]) ∧ OpsR (fun k => k < w'.heap.size) w' v L ∧ opsL L = [⟨3, []⟩, ⟨1, [6]⟩] ∧ Ext W w') := fun W b hN => by
    have := gen_ok _ pA _ W hN (by decide) 1 2 aw_vp (by kernel_rfl) (by decide)
    rw [aw_gens] at this
    exact this
  have HP : Hid (∀ W : World, Calls Tryz.prog 17 #[.int .i64 2, .slice (some ⟨W.heap.size + 1 + 1, 0, none⟩) 4 4, .int .i64 2] (((W.alloc (.cells #[.int .i64 1] 3)).alloc (.cells #[.int .i64 1] 3)).alloc (.cells #[.int .i64 1, sl W.heap.size 1, .int .i64 1, sl (W.heap.size + 1) 1, .int .i64 2, .slice none 0 0, .int .i64 2, .slice none 0 0] 40)) fun e w' => ∃ v, e = .returned (.tuple #[v, .int .i64 0]) ∧ NumR (fun k => k < w'.heap.size) w' v [0, 2] ∧ Ext W w') := fun W => by
    have := ph_ok _ 2 _ (lAV W.heap.size) _ (ops4 W) (by decide : (4 : Nat) ≤ _) (fun o ho => by simp only [lAV, List.mem_cons, List.not_mem_nil, or_false] at ho; rcases ho with rfl | rfl | rfl | rfl <;> simp) 2 aw_val (by decide) (by decide) (by decide : 0 < 4)
    refine this.mono ?_
    rintro e w' ⟨v, rfl, h1, h2⟩
    have e1 : (Ph (UN (nW 2) (csL (lAV W.heap.size))) (lAV W.heap.size).length (Int.toNat 2)).map (fun i : Nat => (i : Int)) = [0, 2] := aw_ph
    rw [e1] at h1
    exact ⟨v, rfl, h1, (((Upd.refl _ W).alloc _).alloc _).alloc _ |>.ext h2⟩
  have HSO : Hid (∀ (W : World) (v : Value) (L : List OpV), OpsR (fun _ => True) W v L → opsL L = [⟨3, []⟩, ⟨1, [6]⟩] → Calls Tryz.prog 9 #[v, .slice (some ⟨W.heap.size + 1, 0, none⟩) 2 2] ((W.alloc (.cells #[.int .i64 6] 3)).alloc (.cells #[.int .i64 3, .slice none 0 0, .int .i64 1, sl W.heap.size 1] 40)) fun e w' => e = .returned (.bool true) ∧ Ext W w') := fun W v L h1 h2 => by
    have h0 : Ext W ((W.alloc (.cells #[.int .i64 6] 3)).alloc (.cells #[.int .i64 3, .slice none 0 0, .int .i64 1, sl W.heap.size 1] 40)) := ((Upd.refl _ W).alloc _).alloc _
    have hlen : L.length = 2 := by have := congrArg List.length h2; rw [opsL_length] at this; exact this
    have hall : ∀ o ∈ L, o.op.args.length ≤ 100000000 := fun o ho => by
      have : o.op ∈ opsL L := List.mem_map_of_mem ho
      rw [h2] at this
      simp only [List.mem_cons, List.not_mem_nil, or_false] at this
      rcases this with h | h <;> rw [h] <;> simp
    have := sameops_any _ _ v _ L (lBV W.heap.size) _ (h1.kept h0 (fun _ _ h => h)) (ops2 W) (by omega) (by decide : (2 : Nat) ≤ _) hall (fun o ho => by simp only [lBV, List.mem_cons, List.not_mem_nil, or_false] at ho; rcases ho with rfl | rfl <;> simp)
    refine this.mono ?_
    rintro e w' ⟨rfl, h3⟩
    have e1 : decide (opsL L = opsL (lBV W.heap.size)) = true := by rw [h2]; simp [opsL, lBV]
    rw [e1]
    exact ⟨rfl, h0.ext h3⟩
  have HEQ : Hid (∀ (W : World) (v : Value), NumR (fun _ => True) W v [0, 2] → Calls Tryz.prog 18 #[v, .slice (some ⟨W.heap.size, 0, none⟩) 2 2] (W.alloc (.cells #[.int .i64 0, .int .i64 2] 3)) fun e w' => e = .returned (.bool true) ∧ Ext W w') := fun W v h => by
    have h0 : Ext W (W.alloc (.cells #[.int .i64 0, .int .i64 2] 3)) := (Upd.refl _ W).alloc _
    have := sequal_any _ _ v _ [0, 2] [0, 2] _ (h.kept h0 (fun _ _ h => h)) (NumR.block [0, 2] (alloc0 W (.cells #[.int .i64 0, .int .i64 2] 3))) (by decide) (by decide)
    refine this.mono ?_
    rintro e w' ⟨rfl, n, rfl⟩
    exact ⟨rfl, h0.drewN' n⟩
  go_enter Tryz.func6, Tryz.ntmps6
  go_wp2_with fail
  refine (HR.out _).mono ?_
  rintro e w2 ⟨rfl, h2⟩
  have H2 := Lib.hid h2
  clear h2
  go_wp2_with fail
  refine (HG.out _ _ (NumR.block [1, 0, 1, 0] (alloc0 _ _))).mono ?_
  rintro e w4 ⟨v1, L1, rfl, g1, g2, g3⟩
  have HL1 := Lib.hid g1
  have HL2 := Lib.hid g2
  have HE4 : Hid (Ext w w4) := (H2.out.alloc _).ext g3
  clear g1 g2 g3
  go_wp2_with fail
  refine (HP.out w4).mono ?_
  rintro e w5 ⟨v2, rfl, p1, p2⟩
  have HN := Lib.hid p1.any
  have HL5 : Hid (OpsR (fun _ => True) w5 v1 L1) := (HL1.out.kept p2 (fun _ _ h => h)).weaken (fun _ _ => trivial)
  have HE5 := Lib.hid (HE4.out.ext p2)
  have HSC := Lib.hid (HSO.out w5 v1 L1 HL5.out HL2.out)
  clear p1 p2 HL1 HL2 HSO HP
  go_wp2_with fail
  refine HSC.out.mono ?_
  rintro e w6 ⟨rfl, h6⟩
  have HE6 := Lib.hid (HE5.out.ext h6)
  have HEC := Lib.hid (HEQ.out w6 v2 (HN.out.kept h6 (fun _ _ h => h)))
  clear h6
  go_wp2_with fail
  refine HEC.out.mono ?_
  rintro e w7 ⟨rfl, h7⟩
  have HE7 := Lib.hid (HE6.out.ext h7)
  clear h7
  go_wp2_with fail
  go_ret
  exact ⟨rfl, HE7.out⟩

end Go.Proofs.YthpekfpeoglbgaaGreatDoor
