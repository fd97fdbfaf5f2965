/- The walks of the reference's InsertAfter and Delete. -/
import Derived.Test.YtnlminaanccejaaW7
import Derived.Deep.RegionLaw
import Derived.Deep.RegionHeld3
namespace Go.Proofs.Ytnlminaanccejaa
open Go.RowKit Go.Hw
set_option linter.unusedVariables false
set_option linter.unusedSimpArgs false

theorem size25 (w : World) : (sizeOf (Try.prog.elem 25)).run Try.prog w = .ok 1 w := by kernel_rfl

/-- a list of the reference as a value, in w' -/
def LsV (S : Nat → Prop) (w w' : World) (v : Value) (xs : List Nat) (made : Int) : Prop :=
  ∃ sl, v = .agg #[sl, .int .i64 made] ∧ LsR (fun k => S k ∨ (w.heap.size ≤ k ∧ k < w'.heap.size)) w' sl xs

/-- what the reference's insertion leaves -/
def ripost (S : Nat → Prop) (xs : List Nat) (made n er : Int) (w : World) (e : Ending) (w' : World) : Prop :=
  ∃ v, e = .returned (.tuple #[v, .int .i64 n, .int .i64 er]) ∧ LsV S w w' v xs made ∧ Ext w w'

theorem own_fresh {w0 w w' : World} {base : Nat} {v v' : Value} {n : Nat} {xs : List Value} (h : Grew base 3 1 v n xs w w' v') (hb : w0.heap.size ≤ base)
    (S : Nat → Prop) : SlR (fun k => S k ∨ (w0.heap.size ≤ k ∧ k < w'.heap.size)) w' 1 v' n xs :=
  (SlR.of_own h.own).weaken fun k hk => .inr (by have := h.own.lt k hk; omega)

set_option maxRecDepth 100000 in
set_option maxHeartbeats 400000 in
theorem rins_no (S : Nat → Prop) (sl : Value) (xs : List Nat) (made x : Int) (w : World) (h : LsR S w sl xs) (hS : ∀ k, S k → k < w.heap.size) (hl : xs.length ≤ 4000)
    (hx1 : x ≠ -1) (hx : pos xs x = -1) :
    Calls Try.prog 27 #[.agg #[sl, .int .i64 made], .int .i64 x] w (ripost S xs made 0 12 w) := by
  obtain ⟨a, cap, hv⟩ := h.shape
  subst hv
  have t1 : (x != -1) = true := by simpa using hx1
  have hk := Lib.hid h
  have HS := Lib.hid hS
  have hxx := Lib.hid hx
  clear h hS hx hx1
  go_enter Try.func27, Try.ntmps27
  go_wp2_with fail
  refine (at_any S _ xs made x _ (hk.out.kept (((Upd.refl (fun _ => False) w).alloc _).alloc _) (fun _ _ h => h)) (fun k hk => by have := HS.out k hk; simp; omega) hl).mono ?_
  rintro e w1 ⟨rfl, u1⟩
  rw [hxx.out]
  have hB : w1.heap[w.heap.size]? = some (.cells #[.slice a xs.length cap, .int .i64 made] 27) := u1.heap (allocOld (alloc0 _ _) _) (fun x => x)
  have hB1 : w1.heap[w.heap.size + 1]? = some (.cells #[.slice none 0 0, .int .i64 0] 27) := u1.heap (alloc_at _ _ (by simp)) (fun x => x)
  have b0 : w1.cell? ⟨w.heap.size, 0, none⟩ = some (.slice a xs.length cap) := by rw [cell_of_row w1 _ 0 _ _ _ hB]; rfl
  have b1 : w1.cell? ⟨w.heap.size, 1, none⟩ = some (.int .i64 made) := by rw [cell_of_row w1 _ 1 _ _ _ hB]; rfl
  have d0 : w1.cell? ⟨w.heap.size + 1, 0, none⟩ = some (.slice none 0 0) := by rw [cell_of_row w1 _ 0 _ _ _ hB1]; rfl
  have d1 : w1.cell? ⟨w.heap.size + 1, 1, none⟩ = some (.int .i64 0) := by rw [cell_of_row w1 _ 1 _ _ _ hB1]; rfl
  have f0 : w1.frozen? ⟨w.heap.size + 1, 0, none⟩ = false := frozen_of_row w1 _ 0 _ _ hB1
  have f1 : w1.frozen? ⟨w.heap.size + 1, 1, none⟩ = false := frozen_of_row w1 _ 1 _ _ hB1
  have U1 := Lib.hid u1
  clear u1 hB hB1
  go_wp2_with fail
  refine bodyPost_ret (v := .tuple #[.agg #[.slice a xs.length cap, .int .i64 made], .int .i64 0, .int .i64 12]) (by simp [results, Try.results27, go_sem, d0, d1]) rfl ?_
  refine ⟨_, rfl, ⟨_, rfl, ?_⟩, ?_⟩
  · exact (hk.out.weaken (fun k h => .inl h)).kept (F := fun _ => False) (((((Upd.refl _ w).alloc _).alloc _).ext U1.out).setCell (.inr (by simp)) _ |>.setCell (.inr (by simp)) _) (fun _ _ h => h)
  · exact (((((Upd.refl _ w).alloc _).alloc _).ext U1.out).setCell (.inr (by simp)) _).setCell (.inr (by simp)) _

set_option maxRecDepth 100000 in
set_option maxHeartbeats 1000000 in
theorem rins_of (S : Nat → Prop) (sl : Value) (xs : List Nat) (made x : Int) (w : World) (h : LsR S w sl xs) (hS : ∀ k, S k → k < w.heap.size) (hl : xs.length ≤ 4000)
    (hx : x = -1) (hm : 2000 ≤ made) :
    Calls Try.prog 27 #[.agg #[sl, .int .i64 made], .int .i64 x] w (ripost S xs made 0 4 w) := by
  obtain ⟨a, cap, hv⟩ := h.shape
  subst hv
  subst hx
  have hk := Lib.hid h
  have HS := Lib.hid hS
  clear h hS
  go_enter Try.func27, Try.ntmps27
  have hB : ((w.alloc (.cells #[.slice a xs.length cap, .int .i64 made] 27)).alloc (.cells #[.slice none 0 0, .int .i64 0] 27)).heap[w.heap.size]? = some (.cells #[.slice a xs.length cap, .int .i64 made] 27) := allocOld (alloc0 _ _) _
  have hB1 : ((w.alloc (.cells #[.slice a xs.length cap, .int .i64 made] 27)).alloc (.cells #[.slice none 0 0, .int .i64 0] 27)).heap[w.heap.size + 1]? = some (.cells #[.slice none 0 0, .int .i64 0] 27) := alloc_at _ _ (by simp)
  have u1 : Ext ((w.alloc (.cells #[.slice a xs.length cap, .int .i64 made] 27)).alloc (.cells #[.slice none 0 0, .int .i64 0] 27)) ((w.alloc (.cells #[.slice a xs.length cap, .int .i64 made] 27)).alloc (.cells #[.slice none 0 0, .int .i64 0] 27)) := Upd.refl _ _
  have hu0 : Ext w ((w.alloc (.cells #[.slice a xs.length cap, .int .i64 made] 27)).alloc (.cells #[.slice none 0 0, .int .i64 0] 27)) := ((Upd.refl _ w).alloc _).alloc _
  have hz0s : ((w.alloc (.cells #[.slice a xs.length cap, .int .i64 made] 27)).alloc (.cells #[.slice none 0 0, .int .i64 0] 27)).heap.size = w.heap.size + 2 := by simp
  have hx0 : Hid (((w.alloc (.cells #[.slice a xs.length cap, .int .i64 made] 27)).alloc (.cells #[.slice none 0 0, .int .i64 0] 27)).heap[w.heap.size]? = some (.cells #[.slice a xs.length cap, .int .i64 made] 27) ∧ ((w.alloc (.cells #[.slice a xs.length cap, .int .i64 made] 27)).alloc (.cells #[.slice none 0 0, .int .i64 0] 27)).heap[w.heap.size + 1]? = some (.cells #[.slice none 0 0, .int .i64 0] 27) ∧ Ext w ((w.alloc (.cells #[.slice a xs.length cap, .int .i64 made] 27)).alloc (.cells #[.slice none 0 0, .int .i64 0] 27)) ∧ ((w.alloc (.cells #[.slice a xs.length cap, .int .i64 made] 27)).alloc (.cells #[.slice none 0 0, .int .i64 0] 27)).heap.size = w.heap.size + 2) := ⟨hB, hB1, hu0, hz0s⟩
  clear hB hB1 u1 hu0 hz0s
  go_wp2_with (with_reducible (refine stop_at (o := ⟨some 18, _, _, _, _, _⟩) ?_))
  refine Stop.go ?_
  generalize ((w.alloc (.cells #[.slice a xs.length cap, .int .i64 made] 27)).alloc (.cells #[.slice none 0 0, .int .i64 0] 27)) = w1 at *
  obtain ⟨hB, hB1, hu0, hz0s⟩ := hx0.out
  have b0 : w1.cell? ⟨w.heap.size, 0, none⟩ = some (.slice a xs.length cap) := by rw [cell_of_row w1 _ 0 _ _ _ hB]; rfl
  have b1 : w1.cell? ⟨w.heap.size, 1, none⟩ = some (.int .i64 made) := by rw [cell_of_row w1 _ 1 _ _ _ hB]; rfl
  have d0 : w1.cell? ⟨w.heap.size + 1, 0, none⟩ = some (.slice none 0 0) := by rw [cell_of_row w1 _ 0 _ _ _ hB1]; rfl
  have d1 : w1.cell? ⟨w.heap.size + 1, 1, none⟩ = some (.int .i64 0) := by rw [cell_of_row w1 _ 1 _ _ _ hB1]; rfl
  have f0 : w1.frozen? ⟨w.heap.size + 1, 0, none⟩ = false := frozen_of_row w1 _ 0 _ _ hB1
  have f1 : w1.frozen? ⟨w.heap.size + 1, 1, none⟩ = false := frozen_of_row w1 _ 1 _ _ hB1
  have HB := Lib.hid hB
  have HB1 := Lib.hid hB1
  have HU0 := Lib.hid hu0
  have HZ := Lib.hid hz0s
  clear hB hB1 hu0 hz0s hx0
  go_wp2_with fail
  refine bodyPost_ret (v := .tuple #[.agg #[.slice a xs.length cap, .int .i64 made], .int .i64 0, .int .i64 4]) (by simp [results, Try.results27, go_sem, d0, d1]) rfl ?_
  refine ⟨_, rfl, ⟨_, rfl, ?_⟩, ?_⟩
  · exact (hk.out.weaken (fun k h => .inl h)).kept (F := fun _ => False) ((HU0.out.setCell (.inr (by simp)) _).setCell (.inr (by simp)) _) (fun _ _ h => h)
  · exact (HU0.out.setCell (.inr (by simp)) _).setCell (.inr (by simp)) _

set_option maxRecDepth 100000 in
set_option maxHeartbeats 1000000 in
theorem rins_ok (S : Nat → Prop) (sl : Value) (xs : List Nat) (made x : Int) (w : World) (h : LsR S w sl xs) (hS : ∀ k, S k → k < w.heap.size) (hl : xs.length ≤ 4000)
    (hx : x = -1) (M K : Nat) (hM : made = M) (hm : made < 2000) (hK : K = 0) :
    Calls Try.prog 27 #[.agg #[sl, .int .i64 made], .int .i64 x] w (ripost S (xs.take K ++ M :: xs.drop K) (M + 1) M 0 w) := by
  obtain ⟨a, cap, hv⟩ := h.shape
  subst hv
  subst hx
  subst hM
  subst hK
  have hk := Lib.hid h
  have HS := Lib.hid hS
  clear h hS
  obtain ⟨i0, hi, hz0, hz1, hz2⟩ := info_parts info3
  go_enter Try.func27, Try.ntmps27
  have hB : ((w.alloc (.cells #[.slice a xs.length cap, .int .i64 ↑M] 27)).alloc (.cells #[.slice none 0 0, .int .i64 0] 27)).heap[w.heap.size]? = some (.cells #[.slice a xs.length cap, .int .i64 ↑M] 27) := allocOld (alloc0 _ _) _
  have hB1 : ((w.alloc (.cells #[.slice a xs.length cap, .int .i64 ↑M] 27)).alloc (.cells #[.slice none 0 0, .int .i64 0] 27)).heap[w.heap.size + 1]? = some (.cells #[.slice none 0 0, .int .i64 0] 27) := alloc_at _ _ (by simp)
  have u1 : Ext ((w.alloc (.cells #[.slice a xs.length cap, .int .i64 ↑M] 27)).alloc (.cells #[.slice none 0 0, .int .i64 0] 27)) ((w.alloc (.cells #[.slice a xs.length cap, .int .i64 ↑M] 27)).alloc (.cells #[.slice none 0 0, .int .i64 0] 27)) := Upd.refl _ _
  have hu0 : Ext w ((w.alloc (.cells #[.slice a xs.length cap, .int .i64 ↑M] 27)).alloc (.cells #[.slice none 0 0, .int .i64 0] 27)) := ((Upd.refl _ w).alloc _).alloc _
  have hz0s : ((w.alloc (.cells #[.slice a xs.length cap, .int .i64 ↑M] 27)).alloc (.cells #[.slice none 0 0, .int .i64 0] 27)).heap.size = w.heap.size + 2 := by simp
  have hx0 : Hid (((w.alloc (.cells #[.slice a xs.length cap, .int .i64 ↑M] 27)).alloc (.cells #[.slice none 0 0, .int .i64 0] 27)).heap[w.heap.size]? = some (.cells #[.slice a xs.length cap, .int .i64 ↑M] 27) ∧ ((w.alloc (.cells #[.slice a xs.length cap, .int .i64 ↑M] 27)).alloc (.cells #[.slice none 0 0, .int .i64 0] 27)).heap[w.heap.size + 1]? = some (.cells #[.slice none 0 0, .int .i64 0] 27) ∧ Ext w ((w.alloc (.cells #[.slice a xs.length cap, .int .i64 ↑M] 27)).alloc (.cells #[.slice none 0 0, .int .i64 0] 27)) ∧ ((w.alloc (.cells #[.slice a xs.length cap, .int .i64 ↑M] 27)).alloc (.cells #[.slice none 0 0, .int .i64 0] 27)).heap.size = w.heap.size + 2) := ⟨hB, hB1, hu0, hz0s⟩
  clear hB hB1 u1 hu0 hz0s
  go_wp2_with (with_reducible (refine stop_at (o := ⟨some 18, _, _, _, _, _⟩) ?_))
  refine Stop.go ?_
  generalize ((w.alloc (.cells #[.slice a xs.length cap, .int .i64 ↑M] 27)).alloc (.cells #[.slice none 0 0, .int .i64 0] 27)) = w1 at *
  obtain ⟨hB, hB1, hu0, hz0s⟩ := hx0.out
  have b0 : w1.cell? ⟨w.heap.size, 0, none⟩ = some (.slice a xs.length cap) := by rw [cell_of_row w1 _ 0 _ _ _ hB]; rfl
  have b1 : w1.cell? ⟨w.heap.size, 1, none⟩ = some (.int .i64 ↑M) := by rw [cell_of_row w1 _ 1 _ _ _ hB]; rfl
  have d0 : w1.cell? ⟨w.heap.size + 1, 0, none⟩ = some (.slice none 0 0) := by rw [cell_of_row w1 _ 0 _ _ _ hB1]; rfl
  have d1 : w1.cell? ⟨w.heap.size + 1, 1, none⟩ = some (.int .i64 0) := by rw [cell_of_row w1 _ 1 _ _ _ hB1]; rfl
  have f0 : w1.frozen? ⟨w.heap.size + 1, 0, none⟩ = false := frozen_of_row w1 _ 0 _ _ hB1
  have f1 : w1.frozen? ⟨w.heap.size + 1, 1, none⟩ = false := frozen_of_row w1 _ 1 _ _ hB1
  have HB := Lib.hid hB
  have HB1 := Lib.hid hB1
  have HU0 := Lib.hid hu0
  have HZ := Lib.hid hz0s
  clear hB hB1 hu0 hz0s hx0
  have E1 : Hid (Ext w (w1)) := HU0.out
  have HBx : Hid ((w1).heap[w.heap.size]? = some (.cells #[.slice a xs.length cap, .int .i64 ↑M] 27) ∧ (w1).heap[w.heap.size + 1]? = some (.cells #[.slice none 0 0, .int .i64 0] 27)) := ⟨HB.out, HB1.out⟩
  have hz1s : w.heap.size + 2 ≤ (w1).heap.size := by have := HZ.out; omega
  have Hz1s := Lib.hid hz1s
  have hq1 : w.heap.size < (w1).heap.size := by omega
  have hq2 : w.heap.size + 1 < (w1).heap.size := by omega
  clear  hz1s
  go_wp2_with (with_reducible (refine stop_at (o := ⟨some 26, _, _, _, _, _⟩) ?_))
  refine Stop.go ?_
  refine wpList_slice_to _ rfl 25 (.tmp 24) (.tmp 25) rfl 1 Try.underlying25 size25 S _ xs.length (ints xs) rfl (hk.out.kept (E1.out.alloc _) (fun _ _ h => h)) 0 .i64 _ (by rfl) (by rfl) (by omega) ?_
  intro sv1 hsv1
  have Hsv1 := Lib.hid hsv1
  clear hsv1
  go_wp2_with (with_reducible (refine stop_at (o := ⟨some 27, _, _, _, _, _⟩) ?_))
  refine Stop.go ?_
  refine wpList_append_sl _ rfl (.tmp 22) (.tmp 26) 25 rfl w.heap.size 3 i0 (.int .i64 0) 1 8 Try.underlying25 hi hz0 hz1 hz2 rfl (by decide) (.slice (some ⟨(w1).heap.size, 0, none⟩) 0 0) 0 [] rfl (World.ownsRow_made (base := w.heap.size) (e := 3) (size := 1) (w1) #[] 0 (by have := Hz1s.out; omega) (by decide) (by simp)) S sv1 0 _ rfl Hsv1.out (fun u hu => ints_one xs u (List.mem_of_mem_take hu)) (by unfold maxLen; omega) (by omega) (by have := Hz1s.out; simp; omega) ?_
  intro v1 w2 G1
  have E2 : Hid (Ext w w2) := (E1.out.alloc _).grown G1.grown (fun k hk => .inr (by have := Hz1s.out; simp [Value.ownBlock] at hk; omega))
  have hB2 : Hid (w2.heap[w.heap.size]? = some (.cells #[.slice a xs.length cap, .int .i64 ↑M] 27) ∧ w2.heap[w.heap.size + 1]? = some (.cells #[.slice none 0 0, .int .i64 0] 27)) :=
    ⟨G1.upd.heap (allocOld HBx.out.1 _) (by have := Hz1s.out; simp [Value.ownBlock]; omega), G1.upd.heap (allocOld HBx.out.2 _) (by have := Hz1s.out; simp [Value.ownBlock]; omega)⟩
  have b1 : w2.cell? ⟨w.heap.size, 1, none⟩ = some (.int .i64 ↑M) := by rw [cell_of_row w2 _ 1 _ _ _ hB2.out.1]; rfl
  have G1x := Lib.hid G1
  have hq3 : w.heap.size < w2.heap.size := (Array.getElem?_eq_some_iff.1 hB2.out.1).1
  clear G1 b0 d0 d1 f0 f1
  go_wp2_with (with_reducible (refine stop_at (o := ⟨some 32, _, _, _, _, _⟩) ?_))
  refine Stop.go ?_
  refine wpList_append_at _ rfl (.tmp 28) (.tmp 31) 25 rfl w.heap.size 3 i0 (.int .i64 0) 1 8 Try.underlying25 hi hz0 hz1 hz2 rfl (by decide) v1 _ _ rfl (G1x.out.own.alloc _) ⟨w2.heap.size, 0, none⟩ 1 1 [.int .i64 M] rfl rfl ?_ ?_ (by unfold maxLen; omega) (by omega) (by have := E2.out.size; simp; omega) ?_
  · intro j u hj
    match j, hj with
    | 0, hj => simp at hj; subst hj; simp [Addr.add]
  · intro u hu; simp at hu; subst hu; rfl
  intro v2 w3 G2
  have hv1 : ∀ k, v1.ownBlock = some k → w.heap.size + 2 ≤ k := by
    intro k hk
    rcases G1x.out.where_ with e | e
    · rw [e] at hk; simp [Value.ownBlock] at hk; have := Hz1s.out; omega
    · rw [e] at hk; simp at hk; have := Hz1s.out; omega
  have E3 : Hid (Ext w w3) := (E2.out.alloc _).grown G2.grown (fun k hk => .inr (by have := hv1 k hk; omega))
  have hB3 : Hid (w3.heap[w.heap.size]? = some (.cells #[.slice a xs.length cap, .int .i64 ↑M] 27) ∧ w3.heap[w.heap.size + 1]? = some (.cells #[.slice none 0 0, .int .i64 0] 27)) :=
    ⟨G2.upd.heap (allocOld hB2.out.1 _) (by intro e; have := hv1 _ e; omega), G2.upd.heap (allocOld hB2.out.2 _) (by intro e; have := hv1 _ e; omega)⟩
  have hv2 : ∀ k, v2.ownBlock = some k → w.heap.size + 2 ≤ k := by
    intro k hk
    rcases G2.where_ with e | e
    · rw [e] at hk; exact hv1 k hk
    · rw [e] at hk; simp at hk; have := E2.out.size; have := (Array.getElem?_eq_some_iff.1 hB2.out.2).1; omega
  have Hv2 := Lib.hid hv2
  have b0 : w3.cell? ⟨w.heap.size, 0, none⟩ = some (.slice a xs.length cap) := by rw [cell_of_row w3 _ 0 _ _ _ hB3.out.1]; rfl
  have G2x := Lib.hid G2
  clear G2 b1 hv1 hv2 G1x hB2 E2
  go_wp2_with (with_reducible (refine stop_at (o := ⟨some 37, _, _, _, _, _⟩) ?_))
  refine Stop.go ?_
  refine wpList_slice_from _ rfl 25 (.tmp 35) (.tmp 36) rfl 1 Try.underlying25 size25 S _ xs.length (ints xs) rfl (hk.out.kept E3.out (fun _ _ h => h)) 0 .i64 _ (by rfl) (by rfl) (by omega) ?_
  intro sv2 hsv2
  have Hsv2 := Lib.hid hsv2
  clear hsv2
  go_wp2_with (with_reducible (refine stop_at (o := ⟨some 38, _, _, _, _, _⟩) ?_))
  refine Stop.go ?_
  refine wpList_append_sl _ rfl (.tmp 33) (.tmp 37) 25 rfl w.heap.size 3 i0 (.int .i64 0) 1 8 Try.underlying25 hi hz0 hz1 hz2 rfl (by decide) v2 _ _ rfl G2x.out.own S sv2 (xs.length - 0) _ rfl Hsv2.out (fun u hu => ints_one xs u (List.mem_of_mem_drop hu)) (by unfold maxLen; omega) (by omega) (by have := E3.out.size; omega) ?_
  intro v3 w4 G3
  generalize hN : 0 + 0 + 1 + (xs.length - 0) = N at *
  obtain ⟨g, cp, hv3⟩ := own_some G3.own (by omega)
  subst hv3
  have HN := Lib.hid hN
  clear hN
  have E4 : Ext w w4 := E3.out.grown G3.grown (fun k hk => .inr (by have := Hv2.out k hk; omega))
  have hB4 : w4.heap[w.heap.size]? = some (.cells #[.slice a xs.length cap, .int .i64 ↑M] 27) := G3.upd.heap hB3.out.1 (by intro e; have := Hv2.out _ e; omega)
  have hC4 : w4.heap[w.heap.size + 1]? = some (.cells #[.slice none 0 0, .int .i64 0] 27) := G3.upd.heap hB3.out.2 (by intro e; have := Hv2.out _ e; omega)
  have b1 : w4.cell? ⟨w.heap.size, 1, none⟩ = some (.int .i64 ↑M) := by rw [cell_of_row w4 _ 1 _ _ _ hB4]; rfl
  have d0 : w4.cell? ⟨w.heap.size + 1, 0, none⟩ = some (.slice none 0 0) := by rw [cell_of_row w4 _ 0 _ _ _ hC4]; rfl
  have d1 : w4.cell? ⟨w.heap.size + 1, 1, none⟩ = some (.int .i64 0) := by rw [cell_of_row w4 _ 1 _ _ _ hC4]; rfl
  have f0 : w4.frozen? ⟨w.heap.size + 1, 0, none⟩ = false := frozen_of_row w4 _ 0 _ _ hC4
  have f1 : w4.frozen? ⟨w.heap.size + 1, 1, none⟩ = false := frozen_of_row w4 _ 1 _ _ hC4
  have hg3 : w.heap.size + 2 ≤ g := by
    rcases G3.where_ with e | e
    · exact Hv2.out g e.symm
    · simp [Value.ownBlock] at e; have := (Array.getElem?_eq_some_iff.1 hB3.out.2).1; omega
  have G3x := Lib.hid G3
  have E4x := Lib.hid E4
  clear G3 E4 hB4 hC4 G2x hB3 E3 b0 E1 HBx Hsv1 Hsv2
  have hM3 : (M : Int) + 1 ≤ 3000 := by omega
  have hM4 : (0 : Int) ≤ (M : Int) := by omega
  go_wp2_with fail
  go_region
  all_goals
    go_wp2_with fail
    refine bodyPost_ret (v := .tuple #[.agg #[.slice (some ⟨g, 0, none⟩) N cp, .int .i64 (M + 1)], .int .i64 M, .int .i64 0]) (by simp [results, Try.results27, go_sem, d0, d1]) rfl ?_
    refine ⟨_, rfl, ⟨_, rfl, ?_⟩, ?_⟩
    · have e : ints (xs.take 0 ++ M :: xs.drop 0) = [] ++ (ints xs).take (0 * 1) ++ [.int .i64 M] ++ (ints xs).drop (0 * 1) := by
        rw [Nat.mul_one, ← ints_take, ← ints_drop]; simp [ints]
      have e2 : (xs.take 0 ++ M :: xs.drop 0).length = N := by rw [← HN.out]; simp; omega
      unfold LsR
      rw [e, e2]
      have q := SlR.of_own G3x.out.own
      have hlt := G3x.out.own.lt g rfl
      have q2 := (q.kept (w' := (w4.drew.setCell ⟨w.heap.size + 1, 0, none⟩ (.slice (some ⟨g, 0, none⟩) N cp)).setCell ⟨w.heap.size + 1, 1, none⟩ (.int .i64 (M + 1))) (F := fun k => k = w.heap.size + 1) (by exact ((((Upd.refl (fun k => k = w.heap.size + 1) w4).drew).setCell (.inl (by rfl)) _).setCell (.inl (by rfl)) _)) (by intro k hk; simp [Value.ownBlock] at hk; omega))
      refine q2.weaken (fun k hk => .inr ?_)
      simp [Value.ownBlock] at hk
      simp [World.setCell]
      omega
    · exact ((E4x.out.drew).setCell (.inr (by simp)) _).setCell (.inr (by simp)) _

set_option maxRecDepth 100000 in
set_option maxHeartbeats 1000000 in
theorem rins_hf (S : Nat → Prop) (sl : Value) (xs : List Nat) (made x : Int) (w : World) (h : LsR S w sl xs) (hS : ∀ k, S k → k < w.heap.size) (hl : xs.length ≤ 4000)
    (hx : 0 ≤ pos xs x) (hm : 2000 ≤ made) :
    Calls Try.prog 27 #[.agg #[sl, .int .i64 made], .int .i64 x] w (ripost S xs made 0 4 w) := by
  obtain ⟨a, cap, hv⟩ := h.shape
  subst hv
  have hp := pos_bd xs x
  have hx1 : x ≠ -1 := by
    rintro rfl
    have : ∀ (l : List Nat) i, posFrom l (-1) i = -1 := by
      intro l
      induction l with
      | nil => intro i; rfl
      | cons a r ih => intro i; unfold posFrom; rw [if_neg (by omega)]; exact ih _
    have h2 := this xs 0
    unfold pos at hx
    omega
  have t1 : (x != -1) = true := by simpa using hx1
  have t2 : (pos xs x + 1 == 0) = false := by simp; omega
  have hp2 : pos xs x < xs.length := by omega
  have hk := Lib.hid h
  have HS := Lib.hid hS
  clear h hS hx1
  generalize hP : pos xs x = Pp at *
  have HP := Lib.hid hP
  clear hP
  go_enter Try.func27, Try.ntmps27
  go_wp2_with fail
  refine (at_any S _ xs _ x _ (hk.out.kept (((Upd.refl (fun _ => False) w).alloc _).alloc _) (fun _ _ h => h)) (fun k hk => by have := HS.out k hk; simp; omega) hl).mono ?_
  rintro e w1 ⟨rfl, u1⟩
  rw [HP.out]
  have hB : w1.heap[w.heap.size]? = some (.cells #[.slice a xs.length cap, .int .i64 made] 27) := u1.heap (allocOld (alloc0 _ _) _) (fun x => x)
  have hB1 : w1.heap[w.heap.size + 1]? = some (.cells #[.slice none 0 0, .int .i64 0] 27) := u1.heap (alloc_at _ _ (by simp)) (fun x => x)
  have b0 : w1.cell? ⟨w.heap.size, 0, none⟩ = some (.slice a xs.length cap) := by rw [cell_of_row w1 _ 0 _ _ _ hB]; rfl
  have b1 : w1.cell? ⟨w.heap.size, 1, none⟩ = some (.int .i64 made) := by rw [cell_of_row w1 _ 1 _ _ _ hB]; rfl
  have d0 : w1.cell? ⟨w.heap.size + 1, 0, none⟩ = some (.slice none 0 0) := by rw [cell_of_row w1 _ 0 _ _ _ hB1]; rfl
  have d1 : w1.cell? ⟨w.heap.size + 1, 1, none⟩ = some (.int .i64 0) := by rw [cell_of_row w1 _ 1 _ _ _ hB1]; rfl
  have f0 : w1.frozen? ⟨w.heap.size + 1, 0, none⟩ = false := frozen_of_row w1 _ 0 _ _ hB1
  have f1 : w1.frozen? ⟨w.heap.size + 1, 1, none⟩ = false := frozen_of_row w1 _ 1 _ _ hB1
  have U1 := Lib.hid u1
  have HB := Lib.hid hB
  have HB1 := Lib.hid hB1
  clear u1 hB hB1
  go_wp2_with fail
  refine bodyPost_ret (v := .tuple #[.agg #[.slice a xs.length cap, .int .i64 made], .int .i64 0, .int .i64 4]) (by simp [results, Try.results27, go_sem, d0, d1]) rfl ?_
  refine ⟨_, rfl, ⟨_, rfl, ?_⟩, ?_⟩
  · exact (hk.out.weaken (fun k h => .inl h)).kept (F := fun _ => False) (((((Upd.refl _ w).alloc _).alloc _).ext U1.out).setCell (.inr (by simp)) _ |>.setCell (.inr (by simp)) _) (fun _ _ h => h)
  · exact (((((Upd.refl _ w).alloc _).alloc _).ext U1.out).setCell (.inr (by simp)) _).setCell (.inr (by simp)) _

set_option maxRecDepth 100000 in
set_option maxHeartbeats 1000000 in
theorem rins_hk (S : Nat → Prop) (sl : Value) (xs : List Nat) (made x : Int) (w : World) (h : LsR S w sl xs) (hS : ∀ k, S k → k < w.heap.size) (hl : xs.length ≤ 4000)
    (hx : 0 ≤ pos xs x) (M K : Nat) (hM : made = M) (hm : made < 2000) (hK : pos xs x + 1 = K) :
    Calls Try.prog 27 #[.agg #[sl, .int .i64 made], .int .i64 x] w (ripost S (xs.take K ++ M :: xs.drop K) (M + 1) M 0 w) := by
  obtain ⟨a, cap, hv⟩ := h.shape
  subst hv
  have hp := pos_bd xs x
  have hx1 : x ≠ -1 := by
    rintro rfl
    have : ∀ (l : List Nat) i, posFrom l (-1) i = -1 := by
      intro l
      induction l with
      | nil => intro i; rfl
      | cons a r ih => intro i; unfold posFrom; rw [if_neg (by omega)]; exact ih _
    have h2 := this xs 0
    unfold pos at hx
    omega
  have t1 : (x != -1) = true := by simpa using hx1
  have t2 : (pos xs x + 1 == 0) = false := by simp; omega
  have hp2 : pos xs x < xs.length := by omega
  subst hM
  have hKl : K ≤ xs.length := by omega
  have hk := Lib.hid h
  have HS := Lib.hid hS
  clear h hS hx1
  generalize hP : pos xs x = Pp at *
  have HP := Lib.hid hP
  clear hP
  have HK := Lib.hid hK
  clear hK
  obtain ⟨i0, hi, hz0, hz1, hz2⟩ := info_parts info3
  go_enter Try.func27, Try.ntmps27
  go_wp2_with fail
  refine (at_any S _ xs _ x _ (hk.out.kept (((Upd.refl (fun _ => False) w).alloc _).alloc _) (fun _ _ h => h)) (fun k hk => by have := HS.out k hk; simp; omega) hl).mono ?_
  rintro e w1 ⟨rfl, u1⟩
  rw [HP.out]
  have hB : w1.heap[w.heap.size]? = some (.cells #[.slice a xs.length cap, .int .i64 ↑M] 27) := u1.heap (allocOld (alloc0 _ _) _) (fun x => x)
  have hB1 : w1.heap[w.heap.size + 1]? = some (.cells #[.slice none 0 0, .int .i64 0] 27) := u1.heap (alloc_at _ _ (by simp)) (fun x => x)
  have b0 : w1.cell? ⟨w.heap.size, 0, none⟩ = some (.slice a xs.length cap) := by rw [cell_of_row w1 _ 0 _ _ _ hB]; rfl
  have b1 : w1.cell? ⟨w.heap.size, 1, none⟩ = some (.int .i64 ↑M) := by rw [cell_of_row w1 _ 1 _ _ _ hB]; rfl
  have d0 : w1.cell? ⟨w.heap.size + 1, 0, none⟩ = some (.slice none 0 0) := by rw [cell_of_row w1 _ 0 _ _ _ hB1]; rfl
  have d1 : w1.cell? ⟨w.heap.size + 1, 1, none⟩ = some (.int .i64 0) := by rw [cell_of_row w1 _ 1 _ _ _ hB1]; rfl
  have f0 : w1.frozen? ⟨w.heap.size + 1, 0, none⟩ = false := frozen_of_row w1 _ 0 _ _ hB1
  have f1 : w1.frozen? ⟨w.heap.size + 1, 1, none⟩ = false := frozen_of_row w1 _ 1 _ _ hB1
  have U1 := Lib.hid u1
  have HB := Lib.hid hB
  have HB1 := Lib.hid hB1
  clear u1 hB hB1
  have E1 : Hid (Ext w (w1)) := ((((Upd.refl _ w).alloc _).alloc _)).ext U1.out
  have HBx : Hid ((w1).heap[w.heap.size]? = some (.cells #[.slice a xs.length cap, .int .i64 ↑M] 27) ∧ (w1).heap[w.heap.size + 1]? = some (.cells #[.slice none 0 0, .int .i64 0] 27)) := ⟨HB.out, HB1.out⟩
  have hz1s : w.heap.size + 2 ≤ (w1).heap.size := by have := U1.out.size; simp at this; omega
  have Hz1s := Lib.hid hz1s
  have hq1 : w.heap.size < (w1).heap.size := by omega
  have hq2 : w.heap.size + 1 < (w1).heap.size := by omega
  clear U1 hz1s
  go_wp2_with (with_reducible (refine stop_at (o := ⟨some 26, _, _, _, _, _⟩) ?_))
  refine Stop.go ?_
  refine wpList_slice_to _ rfl 25 (.tmp 24) (.tmp 25) rfl 1 Try.underlying25 size25 S _ xs.length (ints xs) rfl (hk.out.kept (E1.out.alloc _) (fun _ _ h => h)) K .i64 _ (by rfl) (by exact HK.out) (by omega) ?_
  intro sv1 hsv1
  have Hsv1 := Lib.hid hsv1
  clear hsv1
  go_wp2_with (with_reducible (refine stop_at (o := ⟨some 27, _, _, _, _, _⟩) ?_))
  refine Stop.go ?_
  refine wpList_append_sl _ rfl (.tmp 22) (.tmp 26) 25 rfl w.heap.size 3 i0 (.int .i64 0) 1 8 Try.underlying25 hi hz0 hz1 hz2 rfl (by decide) (.slice (some ⟨(w1).heap.size, 0, none⟩) 0 0) 0 [] rfl (World.ownsRow_made (base := w.heap.size) (e := 3) (size := 1) (w1) #[] 0 (by have := Hz1s.out; omega) (by decide) (by simp)) S sv1 K _ rfl Hsv1.out (fun u hu => ints_one xs u (List.mem_of_mem_take hu)) (by unfold maxLen; omega) (by omega) (by have := Hz1s.out; simp; omega) ?_
  intro v1 w2 G1
  have E2 : Hid (Ext w w2) := (E1.out.alloc _).grown G1.grown (fun k hk => .inr (by have := Hz1s.out; simp [Value.ownBlock] at hk; omega))
  have hB2 : Hid (w2.heap[w.heap.size]? = some (.cells #[.slice a xs.length cap, .int .i64 ↑M] 27) ∧ w2.heap[w.heap.size + 1]? = some (.cells #[.slice none 0 0, .int .i64 0] 27)) :=
    ⟨G1.upd.heap (allocOld HBx.out.1 _) (by have := Hz1s.out; simp [Value.ownBlock]; omega), G1.upd.heap (allocOld HBx.out.2 _) (by have := Hz1s.out; simp [Value.ownBlock]; omega)⟩
  have b1 : w2.cell? ⟨w.heap.size, 1, none⟩ = some (.int .i64 ↑M) := by rw [cell_of_row w2 _ 1 _ _ _ hB2.out.1]; rfl
  have G1x := Lib.hid G1
  have hq3 : w.heap.size < w2.heap.size := (Array.getElem?_eq_some_iff.1 hB2.out.1).1
  clear G1 b0 d0 d1 f0 f1
  go_wp2_with (with_reducible (refine stop_at (o := ⟨some 32, _, _, _, _, _⟩) ?_))
  refine Stop.go ?_
  refine wpList_append_at _ rfl (.tmp 28) (.tmp 31) 25 rfl w.heap.size 3 i0 (.int .i64 0) 1 8 Try.underlying25 hi hz0 hz1 hz2 rfl (by decide) v1 _ _ rfl (G1x.out.own.alloc _) ⟨w2.heap.size, 0, none⟩ 1 1 [.int .i64 M] rfl rfl ?_ ?_ (by unfold maxLen; omega) (by omega) (by have := E2.out.size; simp; omega) ?_
  · intro j u hj
    match j, hj with
    | 0, hj => simp at hj; subst hj; simp [Addr.add]
  · intro u hu; simp at hu; subst hu; rfl
  intro v2 w3 G2
  have hv1 : ∀ k, v1.ownBlock = some k → w.heap.size + 2 ≤ k := by
    intro k hk
    rcases G1x.out.where_ with e | e
    · rw [e] at hk; simp [Value.ownBlock] at hk; have := Hz1s.out; omega
    · rw [e] at hk; simp at hk; have := Hz1s.out; omega
  have E3 : Hid (Ext w w3) := (E2.out.alloc _).grown G2.grown (fun k hk => .inr (by have := hv1 k hk; omega))
  have hB3 : Hid (w3.heap[w.heap.size]? = some (.cells #[.slice a xs.length cap, .int .i64 ↑M] 27) ∧ w3.heap[w.heap.size + 1]? = some (.cells #[.slice none 0 0, .int .i64 0] 27)) :=
    ⟨G2.upd.heap (allocOld hB2.out.1 _) (by intro e; have := hv1 _ e; omega), G2.upd.heap (allocOld hB2.out.2 _) (by intro e; have := hv1 _ e; omega)⟩
  have hv2 : ∀ k, v2.ownBlock = some k → w.heap.size + 2 ≤ k := by
    intro k hk
    rcases G2.where_ with e | e
    · rw [e] at hk; exact hv1 k hk
    · rw [e] at hk; simp at hk; have := E2.out.size; have := (Array.getElem?_eq_some_iff.1 hB2.out.2).1; omega
  have Hv2 := Lib.hid hv2
  have b0 : w3.cell? ⟨w.heap.size, 0, none⟩ = some (.slice a xs.length cap) := by rw [cell_of_row w3 _ 0 _ _ _ hB3.out.1]; rfl
  have G2x := Lib.hid G2
  clear G2 b1 hv1 hv2 G1x hB2 E2
  go_wp2_with (with_reducible (refine stop_at (o := ⟨some 37, _, _, _, _, _⟩) ?_))
  refine Stop.go ?_
  refine wpList_slice_from _ rfl 25 (.tmp 35) (.tmp 36) rfl 1 Try.underlying25 size25 S _ xs.length (ints xs) rfl (hk.out.kept E3.out (fun _ _ h => h)) K .i64 _ (by rfl) (by exact HK.out) (by omega) ?_
  intro sv2 hsv2
  have Hsv2 := Lib.hid hsv2
  clear hsv2
  go_wp2_with (with_reducible (refine stop_at (o := ⟨some 38, _, _, _, _, _⟩) ?_))
  refine Stop.go ?_
  refine wpList_append_sl _ rfl (.tmp 33) (.tmp 37) 25 rfl w.heap.size 3 i0 (.int .i64 0) 1 8 Try.underlying25 hi hz0 hz1 hz2 rfl (by decide) v2 _ _ rfl G2x.out.own S sv2 (xs.length - K) _ rfl Hsv2.out (fun u hu => ints_one xs u (List.mem_of_mem_drop hu)) (by unfold maxLen; omega) (by omega) (by have := E3.out.size; omega) ?_
  intro v3 w4 G3
  generalize hN : 0 + K + 1 + (xs.length - K) = N at *
  obtain ⟨g, cp, hv3⟩ := own_some G3.own (by omega)
  subst hv3
  have HN := Lib.hid hN
  clear hN
  have E4 : Ext w w4 := E3.out.grown G3.grown (fun k hk => .inr (by have := Hv2.out k hk; omega))
  have hB4 : w4.heap[w.heap.size]? = some (.cells #[.slice a xs.length cap, .int .i64 ↑M] 27) := G3.upd.heap hB3.out.1 (by intro e; have := Hv2.out _ e; omega)
  have hC4 : w4.heap[w.heap.size + 1]? = some (.cells #[.slice none 0 0, .int .i64 0] 27) := G3.upd.heap hB3.out.2 (by intro e; have := Hv2.out _ e; omega)
  have b1 : w4.cell? ⟨w.heap.size, 1, none⟩ = some (.int .i64 ↑M) := by rw [cell_of_row w4 _ 1 _ _ _ hB4]; rfl
  have d0 : w4.cell? ⟨w.heap.size + 1, 0, none⟩ = some (.slice none 0 0) := by rw [cell_of_row w4 _ 0 _ _ _ hC4]; rfl
  have d1 : w4.cell? ⟨w.heap.size + 1, 1, none⟩ = some (.int .i64 0) := by rw [cell_of_row w4 _ 1 _ _ _ hC4]; rfl
  have f0 : w4.frozen? ⟨w.heap.size + 1, 0, none⟩ = false := frozen_of_row w4 _ 0 _ _ hC4
  have f1 : w4.frozen? ⟨w.heap.size + 1, 1, none⟩ = false := frozen_of_row w4 _ 1 _ _ hC4
  have hg3 : w.heap.size + 2 ≤ g := by
    rcases G3.where_ with e | e
    · exact Hv2.out g e.symm
    · simp [Value.ownBlock] at e; have := (Array.getElem?_eq_some_iff.1 hB3.out.2).1; omega
  have G3x := Lib.hid G3
  have E4x := Lib.hid E4
  clear G3 E4 hB4 hC4 G2x hB3 E3 b0 E1 HBx Hsv1 Hsv2
  have hM3 : (M : Int) + 1 ≤ 3000 := by omega
  have hM4 : (0 : Int) ≤ (M : Int) := by omega
  go_wp2_with fail
  go_region
  all_goals
    go_wp2_with fail
    refine bodyPost_ret (v := .tuple #[.agg #[.slice (some ⟨g, 0, none⟩) N cp, .int .i64 (M + 1)], .int .i64 M, .int .i64 0]) (by simp [results, Try.results27, go_sem, d0, d1]) rfl ?_
    refine ⟨_, rfl, ⟨_, rfl, ?_⟩, ?_⟩
    · have e : ints (xs.take K ++ M :: xs.drop K) = [] ++ (ints xs).take (K * 1) ++ [.int .i64 M] ++ (ints xs).drop (K * 1) := by
        rw [Nat.mul_one, ← ints_take, ← ints_drop]; simp [ints]
      have e2 : (xs.take K ++ M :: xs.drop K).length = N := by rw [← HN.out]; simp; omega
      unfold LsR
      rw [e, e2]
      have q := SlR.of_own G3x.out.own
      have hlt := G3x.out.own.lt g rfl
      have q2 := (q.kept (w' := (w4.drew.setCell ⟨w.heap.size + 1, 0, none⟩ (.slice (some ⟨g, 0, none⟩) N cp)).setCell ⟨w.heap.size + 1, 1, none⟩ (.int .i64 (M + 1))) (F := fun k => k = w.heap.size + 1) (by exact ((((Upd.refl (fun k => k = w.heap.size + 1) w4).drew).setCell (.inl (by rfl)) _).setCell (.inl (by rfl)) _)) (by intro k hk; simp [Value.ownBlock] at hk; omega))
      refine q2.weaken (fun k hk => .inr ?_)
      simp [Value.ownBlock] at hk
      simp [World.setCell]
      omega
    · exact ((E4x.out.drew).setCell (.inr (by simp)) _).setCell (.inr (by simp)) _

end Go.Proofs.Ytnlminaanccejaa
