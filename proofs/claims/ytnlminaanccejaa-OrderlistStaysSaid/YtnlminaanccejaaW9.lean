/- The walks of the reference's Delete, Compare and Next. -/
import Derived.Test.YtnlminaanccejaaW8
namespace Go.Proofs.Ytnlminaanccejaa
open Go.RowKit Go.Hw
set_option linter.unusedVariables false
set_option linter.unusedSimpArgs false

/-- what the reference's deletion leaves -/
def rdpost (S : Nat → Prop) (xs : List Nat) (made er : Int) (w : World) (e : Ending) (w' : World) : Prop :=
  ∃ v, e = .returned (.tuple #[v, .int .i64 er]) ∧ LsV S w w' v xs made ∧ Ext w w'

set_option maxRecDepth 100000 in
set_option maxHeartbeats 400000 in
theorem rdel_no (S : Nat → Prop) (sl : Value) (xs : List Nat) (made x : Int) (w : World) (h : LsR S w sl xs) (hS : ∀ k, S k → k < w.heap.size) (hl : xs.length ≤ 4000)
    (hx : pos xs x = -1) :
    Calls Try.prog 26 #[.agg #[sl, .int .i64 made], .int .i64 x] w (rdpost S xs made 12 w) := by
  obtain ⟨a, cap, hv⟩ := h.shape
  subst hv
  have hk := Lib.hid h
  have HS := Lib.hid hS
  clear h hS
  have hxx := Lib.hid hx
  clear hx
  go_enter Try.func26, Try.ntmps26
  go_wp2_with fail
  refine (at_any S _ xs _ x _ (hk.out.kept (((Upd.refl (fun _ => False) w).alloc _).alloc _) (fun _ _ h => h)) (fun k hk => by have := HS.out k hk; simp; omega) hl).mono ?_
  rintro e w1 ⟨rfl, u1⟩
  have hB : w1.heap[w.heap.size]? = some (.cells #[.slice a xs.length cap, .int .i64 made] 27) := u1.heap (allocOld (alloc0 _ _) _) (fun x => x)
  have hB1 : w1.heap[w.heap.size + 1]? = some (.cells #[.slice none 0 0, .int .i64 0] 27) := u1.heap (alloc_at _ _ (by simp)) (fun x => x)
  have b0 : w1.cell? ⟨w.heap.size, 0, none⟩ = some (.slice a xs.length cap) := by rw [cell_of_row w1 _ 0 _ _ _ hB]; rfl
  have b1 : w1.cell? ⟨w.heap.size, 1, none⟩ = some (.int .i64 made) := by rw [cell_of_row w1 _ 1 _ _ _ hB]; rfl
  have d0 : w1.cell? ⟨w.heap.size + 1, 0, none⟩ = some (.slice none 0 0) := by rw [cell_of_row w1 _ 0 _ _ _ hB1]; rfl
  have d1 : w1.cell? ⟨w.heap.size + 1, 1, none⟩ = some (.int .i64 0) := by rw [cell_of_row w1 _ 1 _ _ _ hB1]; rfl
  have f0 : w1.frozen? ⟨w.heap.size + 1, 0, none⟩ = false := frozen_of_row w1 _ 0 _ _ hB1
  have f1 : w1.frozen? ⟨w.heap.size + 1, 1, none⟩ = false := frozen_of_row w1 _ 1 _ _ hB1
  have hq1 : w.heap.size < w1.heap.size := (Array.getElem?_eq_some_iff.1 hB).1
  have hq2 : w.heap.size + 1 < w1.heap.size := (Array.getElem?_eq_some_iff.1 hB1).1
  have U1 := Lib.hid u1
  have HB := Lib.hid hB
  have HB1 := Lib.hid hB1
  clear u1 hB hB1
  rw [hxx.out]
  go_wp2_with fail
  refine bodyPost_ret (v := .tuple #[.agg #[.slice a xs.length cap, .int .i64 made], .int .i64 12]) (by simp [results, Try.results26, go_sem, d0, d1]) rfl ?_
  refine ⟨_, rfl, ⟨_, rfl, ?_⟩, ?_⟩
  · exact (hk.out.weaken (fun k h => .inl h)).kept (F := fun _ => False) (((((Upd.refl _ w).alloc _).alloc _).ext U1.out).setCell (.inr (by simp)) _ |>.setCell (.inr (by simp)) _) (fun _ _ h => h)
  · exact (((((Upd.refl _ w).alloc _).alloc _).ext U1.out).setCell (.inr (by simp)) _).setCell (.inr (by simp)) _

set_option maxRecDepth 100000 in
set_option maxHeartbeats 2000000 in
theorem rdel_ok (S : Nat → Prop) (sl : Value) (xs : List Nat) (made x : Int) (w : World) (h : LsR S w sl xs) (hS : ∀ k, S k → k < w.heap.size) (hl : xs.length ≤ 4000)
    (K : Nat) (hx : pos xs x = K) :
    Calls Try.prog 26 #[.agg #[sl, .int .i64 made], .int .i64 x] w (rdpost S (xs.take K ++ xs.drop (K + 1)) made 0 w) := by
  have hp := pos_bd xs x
  have hKl : K < xs.length := by omega
  obtain ⟨i0, hi, hz0, hz1, hz2⟩ := info_parts info3
  obtain ⟨a, cap, hv⟩ := h.shape
  subst hv
  have hk := Lib.hid h
  have HS := Lib.hid hS
  clear h hS
  have hxx := Lib.hid hx
  clear hx hp
  go_enter Try.func26, Try.ntmps26
  go_wp2_with fail
  refine (at_any S _ xs _ x _ (hk.out.kept (((Upd.refl (fun _ => False) w).alloc _).alloc _) (fun _ _ h => h)) (fun k hk => by have := HS.out k hk; simp; omega) hl).mono ?_
  rintro e w1 ⟨rfl, u1⟩
  have hB : w1.heap[w.heap.size]? = some (.cells #[.slice a xs.length cap, .int .i64 made] 27) := u1.heap (allocOld (alloc0 _ _) _) (fun x => x)
  have hB1 : w1.heap[w.heap.size + 1]? = some (.cells #[.slice none 0 0, .int .i64 0] 27) := u1.heap (alloc_at _ _ (by simp)) (fun x => x)
  have b0 : w1.cell? ⟨w.heap.size, 0, none⟩ = some (.slice a xs.length cap) := by rw [cell_of_row w1 _ 0 _ _ _ hB]; rfl
  have b1 : w1.cell? ⟨w.heap.size, 1, none⟩ = some (.int .i64 made) := by rw [cell_of_row w1 _ 1 _ _ _ hB]; rfl
  have d0 : w1.cell? ⟨w.heap.size + 1, 0, none⟩ = some (.slice none 0 0) := by rw [cell_of_row w1 _ 0 _ _ _ hB1]; rfl
  have d1 : w1.cell? ⟨w.heap.size + 1, 1, none⟩ = some (.int .i64 0) := by rw [cell_of_row w1 _ 1 _ _ _ hB1]; rfl
  have f0 : w1.frozen? ⟨w.heap.size + 1, 0, none⟩ = false := frozen_of_row w1 _ 0 _ _ hB1
  have f1 : w1.frozen? ⟨w.heap.size + 1, 1, none⟩ = false := frozen_of_row w1 _ 1 _ _ hB1
  have hq1 : w.heap.size < w1.heap.size := (Array.getElem?_eq_some_iff.1 hB).1
  have hq2 : w.heap.size + 1 < w1.heap.size := (Array.getElem?_eq_some_iff.1 hB1).1
  have U1 := Lib.hid u1
  have HB := Lib.hid hB
  have HB1 := Lib.hid hB1
  clear u1 hB hB1
  rw [hxx.out]
  have E1 : Hid (Ext w w1) := ((((Upd.refl _ w).alloc _).alloc _)).ext U1.out
  go_wp2_with (with_reducible (refine stop_at (o := ⟨some 18, _, _, _, _, _⟩) ?_))
  refine Stop.go ?_
  refine wpList_slice_to _ rfl 25 (.tmp 16) (.tmp 17) rfl 1 Try.underlying25 size25 S _ xs.length (ints xs) rfl (hk.out.kept (E1.out.alloc _) (fun _ _ h => h)) K .i64 _ (by rfl) (by rfl) (by omega) ?_
  intro sv1 hsv1
  have Hsv1 := Lib.hid hsv1
  clear hsv1
  go_wp2_with (with_reducible (refine stop_at (o := ⟨some 19, _, _, _, _, _⟩) ?_))
  refine Stop.go ?_
  refine wpList_append_sl _ rfl (.tmp 14) (.tmp 18) 25 rfl w.heap.size 3 i0 (.int .i64 0) 1 8 Try.underlying25 hi hz0 hz1 hz2 rfl (by decide) (.slice (some ⟨w1.heap.size, 0, none⟩) 0 0) 0 [] rfl (World.ownsRow_made (base := w.heap.size) (e := 3) (size := 1) w1 #[] 0 (by omega) (by decide) (by simp)) S sv1 K _ rfl Hsv1.out (fun u hu => ints_one xs u (List.mem_of_mem_take hu)) (by unfold maxLen; omega) (by omega) (by simp; omega) ?_
  intro v1 w2 G1
  generalize hN : 0 + K = N1 at *
  have HN1 := Lib.hid hN
  clear hN
  have E2 : Hid (Ext w w2) := (E1.out.alloc _).grown G1.grown (fun k hk => .inr (by simp [Value.ownBlock] at hk; omega))
  have hB2 : Hid (w2.heap[w.heap.size]? = some (.cells #[.slice a xs.length cap, .int .i64 made] 27) ∧ w2.heap[w.heap.size + 1]? = some (.cells #[.slice none 0 0, .int .i64 0] 27)) :=
    ⟨G1.upd.heap (allocOld HB.out _) (by simp [Value.ownBlock]; omega), G1.upd.heap (allocOld HB1.out _) (by simp [Value.ownBlock]; omega)⟩
  have hv1 : ∀ k, v1.ownBlock = some k → w.heap.size + 2 ≤ k := by
    intro k hk
    rcases G1.where_ with e | e
    · rw [e] at hk; simp [Value.ownBlock] at hk; omega
    · rw [e] at hk; simp at hk; omega
  have Hv1 := Lib.hid hv1
  have c0 : w2.cell? ⟨w.heap.size, 0, none⟩ = some (.slice a xs.length cap) := by rw [cell_of_row w2 _ 0 _ _ _ hB2.out.1]; rfl
  have c1 : w2.cell? ⟨w.heap.size, 1, none⟩ = some (.int .i64 made) := by rw [cell_of_row w2 _ 1 _ _ _ hB2.out.1]; rfl
  obtain ⟨av1, cv1, hv1s⟩ := own_shape G1.own
  subst hv1s
  have G1x := Lib.hid G1
  have s1 : (0 : Int) ≤ (K : Int) + 1 := by omega
  have s2 : (K : Int) + 1 ≤ xs.length := by omega
  have s3 : IntKind.i64.wrap ((K : Int) + 1) = (K : Int) + 1 := IntWalk.i64_in _ (by omega)
  have s4 : ((K : Int) + 1).toNat = K + 1 := by omega
  clear G1 hv1 b0 b1 d0 d1 f0 f1 U1 HB HB1
  go_wp2_with fail
  have h5 : SlR S w2.drew 1 (.slice (if cap = K + 1 then a else Option.map (fun x => (⟨x.block, x.off + (K + 1), none⟩ : Addr)) a) (xs.length - (K + 1)) (cap - (K + 1))) (xs.length - (K + 1)) ((ints xs).drop ((K + 1) * 1)) := by
    have q := (hk.out.kept (E2.out.drew) (fun _ _ h => h)).from rfl (K + 1) (by omega)
    simpa [sliced, Addr.add] using q
  have H5 := Lib.hid h5
  have H6 : Hid (∀ u ∈ (ints xs).drop ((K + 1) * 1), u.oneCell' = true) := fun u hu => ints_one xs u (List.mem_of_mem_drop hu)
  have H7 : Hid (N1 + (xs.length - (K + 1)) ≤ maxLen ∧ (N1 + (xs.length - (K + 1))) * 8 ≤ 140737488355328 ∧ w.heap.size ≤ w2.drew.heap.size) := by have hn1 := HN1.out; exact ⟨by unfold maxLen; omega, by omega, E2.out.size⟩
  have H8 : Hid (∀ k, (Value.slice av1 N1 cv1).ownBlock = some k → ¬ k = w.heap.size ∧ ¬ k = w.heap.size + 1) := fun k hk => by have := Hv1.out k hk; omega
  clear h5
  go_region_law (refine step_append_sl _ (.tmp 20) (.tmp 25) 25 rfl w.heap.size 3 i0 (.int .i64 0) 1 8 Try.underlying25 hi hz0 hz1 hz2 rfl (Nat.lt_succ_self 0) (.slice av1 N1 cv1) _ _ rfl G1x.out.own S _ (xs.length - (K + 1)) _ rfl H5.out H6.out H7.out.1 H7.out.2.1 H7.out.2.2 ?_; intro v3 w3 G3; obtain ⟨a3, c3, rfl⟩ := own_shape G3.own; have hC3 : w3.heap[w.heap.size + 1]? = some (.cells #[.slice none 0 0, .int .i64 0] 27) := G3.upd.heap hB2.out.2 (fun e => (H8.out _ e).2 rfl); have d0 : w3.cell? ⟨w.heap.size + 1, 0, none⟩ = some (.slice none 0 0) := (by rw [cell_of_row w3 _ 0 _ _ _ hC3]; rfl); have d1 : w3.cell? ⟨w.heap.size + 1, 1, none⟩ = some (.int .i64 0) := (by rw [cell_of_row w3 _ 1 _ _ _ hC3]; rfl); have f0 : w3.frozen? ⟨w.heap.size + 1, 0, none⟩ = false := frozen_of_row w3 _ 0 _ _ hC3; have f1 : w3.frozen? ⟨w.heap.size + 1, 1, none⟩ = false := frozen_of_row w3 _ 1 _ _ hC3; have hB3 : w3.heap[w.heap.size]? = some (.cells #[.slice a xs.length cap, .int .i64 made] 27) := G3.upd.heap hB2.out.1 (fun e => (H8.out _ e).1 rfl); have e0 : w3.cell? ⟨w.heap.size, 0, none⟩ = some (.slice a xs.length cap) := (by rw [cell_of_row w3 _ 0 _ _ _ hB3]; rfl); have e1 : w3.cell? ⟨w.heap.size, 1, none⟩ = some (.int .i64 made) := (by rw [cell_of_row w3 _ 1 _ _ _ hB3]; rfl); have G3x := Lib.hid G3; clear G3 hC3 hB3)
  all_goals go_wp2_with fail
  all_goals
    have n1 := HN1.out
    refine bodyPost_ret (v := .tuple #[.agg #[.slice a3 (N1 + (xs.length - (K + 1))) c3, .int .i64 made], .int .i64 0]) (by simp [results, Try.results26, go_sem, d0, d1]) rfl ?_
    refine ⟨_, rfl, ⟨_, rfl, ?_⟩, ?_⟩
    · have e : ints (xs.take K ++ xs.drop (K + 1)) = [] ++ (ints xs).take (K * 1) ++ (ints xs).drop ((K + 1) * 1) := by
        rw [Nat.mul_one, Nat.mul_one, ← ints_take, ← ints_drop]; simp [ints]
      have e2 : (xs.take K ++ xs.drop (K + 1)).length = N1 + (xs.length - (K + 1)) := by simp; omega
      unfold LsR
      rw [e, e2]
      have q := SlR.of_own G3x.out.own
      have hlt := fun k hk => G3x.out.own.lt k hk
      have hne : ∀ k, (Value.slice a3 (N1 + (xs.length - (K + 1))) c3).ownBlock = some k → ¬ k = w.heap.size + 1 := by
        intro k hk
        rcases G3x.out.where_ with e | e
        · rw [e] at hk; exact (H8.out k hk).2
        · rw [e] at hk; simp at hk; have := (Array.getElem?_eq_some_iff.1 hB2.out.2).1; omega
      have q2 := (q.kept (w' := (w3.setCell ⟨w.heap.size + 1, 0, none⟩ (.slice a3 (N1 + (xs.length - (K + 1))) c3)).setCell ⟨w.heap.size + 1, 1, none⟩ (.int .i64 made)) (F := fun k => k = w.heap.size + 1) (by exact (((Upd.refl (fun k => k = w.heap.size + 1) w3)).setCell (.inl (by rfl)) _).setCell (.inl (by rfl)) _) (fun k hk => hne k hk))
      refine q2.weaken (fun k hk => Or.inr ?_)
      have := hlt k hk
      simp [World.setCell]
      omega
    · exact ((E2.out.drew.grown G3x.out.grown (fun k hk => .inr (by have := Hv1.out k hk; omega))).setCell (.inr (by simp)) _).setCell (.inr (by simp)) _

end Go.Proofs.Ytnlminaanccejaa
