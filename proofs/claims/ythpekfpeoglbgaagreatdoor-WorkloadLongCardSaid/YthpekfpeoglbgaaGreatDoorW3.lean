/- What operations there are. -/
import Derived.Test.YthpekfpeoglbgaaGreatDoorW2
import Derived.Outline
namespace Go.Proofs.YthpekfpeoglbgaaGreatDoor
open Go.RowKit Go.Hw
set_option linter.unusedVariables false
set_option linter.unusedSimpArgs false

theorem any_not (p : Int → Bool) (l : List Int) : (!(l.any fun x => !p x)) = l.all p := by
  induction l with
  | nil => rfl
  | cons x r ih => simp at ih ⊢; rw [ih]; simp

set_option maxHeartbeats 400000 in
theorem vop_bad (kind : Int) (o : OpM) (v : Value) (w : World) (S : Nat → Prop) (h : NumR S w v o.args) (hc : ¬ (1 ≤ o.code ∧ o.code ≤ nW kind)) :
    Calls Tryz.prog 37 #[.int .i64 kind, .agg #[.int .i64 o.code, v]] w fun e w' => e = .returned (.bool false) ∧ Ext w w' := by
  obtain ⟨c, xs⟩ := o
  simp only at hc h ⊢
  obtain ⟨a, cap, hv⟩ := h.shape
  subst hv
  clear h
  have hB : (w.alloc (.cells #[.int .i64 c, .slice a xs.length cap] 40)).heap[w.heap.size]? = some (.cells #[.int .i64 c, .slice a xs.length cap] 40) := alloc0 _ _
  have HX : Hid (Ext w (w.alloc (.cells #[.int .i64 c, .slice a xs.length cap] 40))) := (Upd.refl _ w).alloc _
  by_cases hk : 1 ≤ kind ∧ kind ≤ 6
  · have HW := Lib.hid (words_known kind (w.alloc (.cells #[.int .i64 c, .slice a xs.length cap] 40)) hk)
    have HB := Lib.hid hB
    clear hB
    by_cases h1 : c < 1
    · clear hc
      go_enter Tryz.func37, Tryz.ntmps37
      go_wp2_with fail
      refine HW.out.mono ?_
      rintro e w1 ⟨v, rfl, hE, g, rfl, _⟩
      have c0 : w1.cell? ⟨w.heap.size, 0, none⟩ = some (.int .i64 c) := by rw [cell_of_row w1 _ 0 _ _ _ (hE.heap HB.out (fun h => h))]; rfl
      have H1 := Lib.hid (HX.out.ext hE)
      clear hE
      go_wp2_with fail
      go_ret
      exact ⟨rfl, H1.out⟩
    · have h2 : (nW kind : Int) < c := by omega
      clear hc
      go_enter Tryz.func37, Tryz.ntmps37
      go_wp2_with fail
      refine HW.out.mono ?_
      rintro e w1 ⟨v, rfl, hE, g, rfl, _⟩
      have c0 : w1.cell? ⟨w.heap.size, 0, none⟩ = some (.int .i64 c) := by rw [cell_of_row w1 _ 0 _ _ _ (hE.heap HB.out (fun h => h))]; rfl
      have H1 := Lib.hid (HX.out.ext hE)
      clear hE
      go_wp2_with fail
      go_ret
      exact ⟨rfl, H1.out⟩
  · have HW := Lib.hid (words_none kind (w.alloc (.cells #[.int .i64 c, .slice a xs.length cap] 40)) hk)
    have HB := Lib.hid hB
    clear hB hc
    by_cases h1 : c < 1
    · go_enter Tryz.func37, Tryz.ntmps37
      go_wp2_with fail
      refine HW.out.mono ?_
      rintro e w1 ⟨rfl, rfl⟩
      go_wp2_with fail
      go_ret
      exact ⟨rfl, HX.out⟩
    · go_enter Tryz.func37, Tryz.ntmps37
      go_wp2_with fail
      refine HW.out.mono ?_
      rintro e w1 ⟨rfl, rfl⟩
      have h3 : 0 < c := by omega
      go_wp2_with fail
      go_ret
      exact ⟨rfl, HX.out⟩

set_option maxHeartbeats 1000000 in
theorem vop_ok (kind : Int) (o : OpM) (v : Value) (w : World) (S : Nat → Prop) (h : NumR S w v o.args) (hl : o.args.length ≤ 100000000) (hc : 1 ≤ o.code ∧ o.code ≤ nW kind) :
    Calls Tryz.prog 37 #[.int .i64 kind, .agg #[.int .i64 o.code, v]] w fun e w' => e = .returned (.bool (validOp kind o)) ∧ Ext w w' := by
  obtain ⟨c, xs⟩ := o
  simp only at hc h hl ⊢
  have hk := (nW_known kind).1 (by omega)
  obtain ⟨a, cap, hv⟩ := h.shape
  subst hv
  have HN := Lib.hid h
  clear h
  obtain ⟨R, hR⟩ : ∃ R, R = validOp kind ⟨c, xs⟩ := ⟨_, rfl⟩
  rw [← hR]
  obtain ⟨j, hj⟩ := Int.eq_ofNat_of_zero_le (show 0 ≤ c - 1 by omega)
  obtain rfl : c = (j : Int) + 1 := by omega
  have har : ar kind ((j : Int) + 1) = (arL kind).getD j 0 := by unfold ar; simp
  have hR2 : R = (if (arL kind).getD j 0 < 0 then decide (1 ≤ xs.length ∧ xs.length ≤ 64) && xs.all chrB else decide ((xs.length : Int) = (arL kind).getD j 0) && xs.all keyB) := by
    rw [hR]; unfold validOp; simp only [har]; rw [decide_eq_true hc]; rfl
  clear hR har hj
  have hjn : j < nW kind := by omega
  have HB : Hid ((w.alloc (.cells #[.int .i64 ((j : Int) + 1), .slice a xs.length cap] 40)).heap[w.heap.size]? = some (.cells #[.int .i64 ((j : Int) + 1), .slice a xs.length cap] 40)) := alloc0 _ _
  have HX : Hid (Ext w (w.alloc (.cells #[.int .i64 ((j : Int) + 1), .slice a xs.length cap] 40))) := (Upd.refl _ w).alloc _
  have HW := Lib.hid (words_known kind (w.alloc (.cells #[.int .i64 ((j : Int) + 1), .slice a xs.length cap] 40)) hk)
  have HL := Lib.hid (arL_bd kind)
  have HR := Lib.hid hR2
  clear hR2 hc
  have C59 : Hid (∀ W, Ext w W → Calls Tryz.prog 63 #[.slice a xs.length cap, .func (.func 64) #[] #[]] W fun e w' => e = .returned (.bool (xs.any fun x => !chrB x)) ∧ Ext W w') := fun W hW =>
    con_int 64 _ S _ xs W (HN.out.kept hW (fun _ _ h => h)) hl Tryz.call64 (fun x _ W' _ => (clo59_any x W').mono fun e w' ⟨h1, h2⟩ => ⟨h1, h2 ▸ Upd.refl _ _⟩)
  have C61 : Hid (∀ W, Ext w W → Calls Tryz.prog 63 #[.slice a xs.length cap, .func (.func 66) #[] #[]] W fun e w' => e = .returned (.bool (xs.any fun x => !keyB x)) ∧ Ext W w') := fun W hW =>
    con_int 66 _ S _ xs W (HN.out.kept hW (fun _ _ h => h)) hl Tryz.call66 (fun x _ W' _ => (clo61_any x W').mono fun e w' ⟨h1, h2⟩ => ⟨h1, h2 ▸ Upd.refl _ _⟩)
  have HA1 := Lib.hid (any_not chrB xs)
  have HA2 := Lib.hid (any_not keyB xs)
  generalize (xs.any fun x => !chrB x) = A1 at *
  generalize (xs.any fun x => !keyB x) = A2 at *
  generalize hm : xs.length = m at *
  have HM := Lib.hid hm
  clear hm
  have htn : (((j : Int) + 1) - 1).toNat = j := by omega
  generalize hq : (arL kind).getD j 0 = q at *
  have HJ : ((j : Int) + 1) ≤ nW kind := by omega
  have HJ2 : ¬ ((nW kind : Int) < (j : Int) + 1) := by omega
  have hj8 : j < 8 := Nat.lt_of_lt_of_le hjn (nW_le _)
  by_cases hneg : q < 0
  · by_cases h1 : 1 ≤ m
    · by_cases h2 : m ≤ 64
      · go_enter Tryz.func37, Tryz.ntmps37
        go_wp2_with fail
        refine HW.out.mono ?_
        rintro e w1 ⟨v, rfl, hE, g, rfl, hrow⟩
        obtain ⟨sx, bx, d0, d1, d2⟩ := hrow j (by omega)
        rw [hq] at d1
        have c0 : w1.cell? ⟨w.heap.size, 0, none⟩ = some (.int .i64 ((j : Int) + 1)) := by rw [cell_of_row w1 _ 0 _ _ _ (hE.heap HB.out (fun h => h))]; rfl
        have c1 : w1.cell? ⟨w.heap.size, 1, none⟩ = some (.slice a m cap) := by rw [cell_of_row w1 _ 1 _ _ _ (hE.heap HB.out (fun h => h))]; rfl
        have H1 := Lib.hid (HX.out.ext hE)
        have hlt : w.heap.size < w1.heap.size := by have := hE.size; simp at this; omega
        have HQ := Lib.hid hq
        clear hE hrow htn hq
        go_wp2_with fail
        refine (C59.out _ (H1.out.alloc _)).mono ?_
        rintro e w2 ⟨rfl, h2⟩
        have H2 := Lib.hid ((H1.out.alloc _).ext h2)
        clear h2
        go_wp2_with fail
        go_ret
        exact ⟨by rw [HR.out, if_pos hneg, ← HA1.out]; simp [h1, h2], H2.out⟩
      · go_enter Tryz.func37, Tryz.ntmps37
        go_wp2_with fail
        refine HW.out.mono ?_
        rintro e w1 ⟨v, rfl, hE, g, rfl, hrow⟩
        obtain ⟨sx, bx, d0, d1, d2⟩ := hrow j (by omega)
        rw [hq] at d1
        have c0 : w1.cell? ⟨w.heap.size, 0, none⟩ = some (.int .i64 ((j : Int) + 1)) := by rw [cell_of_row w1 _ 0 _ _ _ (hE.heap HB.out (fun h => h))]; rfl
        have c1 : w1.cell? ⟨w.heap.size, 1, none⟩ = some (.slice a m cap) := by rw [cell_of_row w1 _ 1 _ _ _ (hE.heap HB.out (fun h => h))]; rfl
        have H1 := Lib.hid (HX.out.ext hE)
        have hlt : w.heap.size < w1.heap.size := by have := hE.size; simp at this; omega
        have HQ := Lib.hid hq
        clear hE hrow htn hq
        go_wp2_with fail
        go_ret
        exact ⟨by rw [HR.out, if_pos hneg]; simp [h1, h2], H1.out.alloc _⟩
    · go_enter Tryz.func37, Tryz.ntmps37
      go_wp2_with fail
      refine HW.out.mono ?_
      rintro e w1 ⟨v, rfl, hE, g, rfl, hrow⟩
      obtain ⟨sx, bx, d0, d1, d2⟩ := hrow j (by omega)
      rw [hq] at d1
      have c0 : w1.cell? ⟨w.heap.size, 0, none⟩ = some (.int .i64 ((j : Int) + 1)) := by rw [cell_of_row w1 _ 0 _ _ _ (hE.heap HB.out (fun h => h))]; rfl
      have c1 : w1.cell? ⟨w.heap.size, 1, none⟩ = some (.slice a m cap) := by rw [cell_of_row w1 _ 1 _ _ _ (hE.heap HB.out (fun h => h))]; rfl
      have H1 := Lib.hid (HX.out.ext hE)
      have hlt : w.heap.size < w1.heap.size := by have := hE.size; simp at this; omega
      have HQ := Lib.hid hq
      clear hE hrow htn hq
      go_wp2_with fail
      go_ret
      exact ⟨by rw [HR.out, if_pos hneg]; simp [h1], H1.out.alloc _⟩
  · by_cases h1 : (m : Int) = q
    · have HH1 := Lib.hid h1
      subst h1
      go_enter Tryz.func37, Tryz.ntmps37
      go_wp2_with fail
      refine HW.out.mono ?_
      rintro e w1 ⟨v, rfl, hE, g, rfl, hrow⟩
      obtain ⟨sx, bx, d0, d1, d2⟩ := hrow j (by omega)
      rw [hq] at d1
      have c0 : w1.cell? ⟨w.heap.size, 0, none⟩ = some (.int .i64 ((j : Int) + 1)) := by rw [cell_of_row w1 _ 0 _ _ _ (hE.heap HB.out (fun h => h))]; rfl
      have c1 : w1.cell? ⟨w.heap.size, 1, none⟩ = some (.slice a m cap) := by rw [cell_of_row w1 _ 1 _ _ _ (hE.heap HB.out (fun h => h))]; rfl
      have H1 := Lib.hid (HX.out.ext hE)
      have hlt : w.heap.size < w1.heap.size := by have := hE.size; simp at this; omega
      have HQ := Lib.hid hq
      clear hE hrow htn hq
      go_wp2_with fail
      refine (C61.out _ (H1.out.alloc _)).mono ?_
      rintro e w2 ⟨rfl, h2⟩
      have H2 := Lib.hid ((H1.out.alloc _).ext h2)
      clear h2
      go_wp2_with fail
      go_ret
      exact ⟨by rw [HR.out, if_neg (by omega), ← HA2.out]; simp, H2.out⟩
    · have ht : ((m : Int) == q) = false := by simpa using h1
      have HH1 := Lib.hid h1
      clear h1
      go_enter Tryz.func37, Tryz.ntmps37
      go_wp2_with fail
      refine HW.out.mono ?_
      rintro e w1 ⟨v, rfl, hE, g, rfl, hrow⟩
      obtain ⟨sx, bx, d0, d1, d2⟩ := hrow j (by omega)
      rw [hq] at d1
      have c0 : w1.cell? ⟨w.heap.size, 0, none⟩ = some (.int .i64 ((j : Int) + 1)) := by rw [cell_of_row w1 _ 0 _ _ _ (hE.heap HB.out (fun h => h))]; rfl
      have c1 : w1.cell? ⟨w.heap.size, 1, none⟩ = some (.slice a m cap) := by rw [cell_of_row w1 _ 1 _ _ _ (hE.heap HB.out (fun h => h))]; rfl
      have H1 := Lib.hid (HX.out.ext hE)
      have hlt : w.heap.size < w1.heap.size := by have := hE.size; simp at this; omega
      have HQ := Lib.hid hq
      clear hE hrow htn hq
      go_wp2_with fail
      go_ret
      exact ⟨by rw [HR.out, if_neg (by omega)]; simp [HH1.out], H1.out.alloc _⟩

/-- model.ValidOp -/
theorem vop_any (kind : Int) (o : OpM) (v : Value) (w : World) (S : Nat → Prop) (h : NumR S w v o.args) (hl : o.args.length ≤ 100000000) :
    Calls Tryz.prog 37 #[.int .i64 kind, .agg #[.int .i64 o.code, v]] w fun e w' => e = .returned (.bool (validOp kind o)) ∧ Ext w w' := by
  by_cases hc : 1 ≤ o.code ∧ o.code ≤ nW kind
  · exact vop_ok kind o v w S h hl hc
  · have e : validOp kind o = false := by unfold validOp; rw [decide_eq_false hc]; rfl
    rw [e]
    exact vop_bad kind o v w S h hc

end Go.Proofs.YthpekfpeoglbgaaGreatDoor
