/- The walk of the law OrderlistAsks. -/
import Derived.Test.YtnlminaanccejaaF1
import Derived.Deep.RegionHeld3
import Derived.Deep.RegionWith
namespace Go.Proofs.Ytnlminaanccejaa
open Go.RowKit Go.Hw
set_option linter.unusedVariables false
set_option linter.unusedSimpArgs false

set_option maxRecDepth 100000 in
set_option maxHeartbeats 4000000 in
theorem asks_law (v0 : Value) (steps : List St) (x y : Int) (w : World) (h : StR w v0 steps) :
    Calls Try.prog 7 #[v0, .int .i64 x, .int .i64 y] w fun e w' => e = .returned (.bool true) ∧ Ext w w' := by
  obtain ⟨a0, cap0, hv⟩ := h.shape
  subst hv
  have hk := Lib.hid h
  clear h
  by_cases hbig : 120 < steps.length
  · go_enter Try.func7, Try.ntmps7
    go_wp2_with fail
    refine (awake_any _).mono ?_
    rintro e w1 ⟨rfl, hE⟩
    go_wp2_with fail
    go_ret
    exact ⟨rfl, hE⟩
  · go_enter Try.func7, Try.ntmps7
    go_wp2_with fail
    refine (awake_any _).mono ?_
    rintro e w1 ⟨rfl, hE⟩
    have HE := Lib.hid hE
    clear hE
    go_wp2_with fail
    refine (play_any _ steps w1 ((hk.out.kept HE.out (fun _ _ h => h)).weaken (fun k hk => by have := HE.out.size; omega)) (by omega)).mono ?_
    rintro e w2 ⟨b, v, M, ord, n, sl, S, rfl, hrep, hG, hP, hn, hls, hS, hE2⟩
    obtain ⟨a, cap1, hv⟩ := hls.shape
    subst hv
    have hE3 : Ext w2 (w2.alloc (.cells #[.slice a ord.length cap1, .int .i64 n] 27)) := (Upd.refl _ w2).alloc _
    have hB : (w2.alloc (.cells #[.slice a ord.length cap1, .int .i64 n] 27)).heap[w2.heap.size]? = some (.cells #[.slice a ord.length cap1, .int .i64 n] 27) := alloc0 _ _
    have hol : ord.length ≤ 2000 := by have := hG.inv.ordLen; have := hG.inv.len; omega
    have HX : Hid (∀ W, Ext w2 W → LRep w1.heap.size W b v M ∧ LsR S W (.slice a ord.length cap1) ord ∧ (∀ k, S k → k < W.heap.size) ∧ Ext w W) := fun W hW =>
      ⟨hrep.kept hW (fun _ _ h => h), hls.kept hW (fun _ _ h => h), fun k hk => by have := (hS k hk).1; have := hW.size; omega, (HE.out.ext hE2).ext hW⟩
    have HG := Lib.hid hG
    have Hol : Hid (ord.length ≤ 2000) := hol
    have HE3 := Lib.hid hE3
    have HB := Lib.hid hB
    clear hE3 hB hrep hG hP hls hS hE2 hol
    have d0 : ∀ W, Ext (w2.alloc (.cells #[.slice a ord.length cap1, .int .i64 n] 27)) W → W.cell? ⟨w2.heap.size, 0, none⟩ = some (.slice a ord.length cap1) := fun W hW => by rw [cell_of_row _ _ 0 _ _ _ (hW.heap HB.out (fun h => h))]; rfl
    have d1 : ∀ W, Ext (w2.alloc (.cells #[.slice a ord.length cap1, .int .i64 n] 27)) W → W.cell? ⟨w2.heap.size, 1, none⟩ = some (.int .i64 n) := fun W hW => by rw [cell_of_row _ _ 1 _ _ _ (hW.heap HB.out (fun h => h))]; rfl
    have D0 := Lib.hid d0
    have D1 := Lib.hid d1
    have hcmp := HG.out.compare x y
    have hnx := HG.out.next x
    have Hcmp := Lib.hid hcmp
    have Hnx := Lib.hid hnx
    clear d0 d1 hcmp hnx
    go_wp2_with fail
    generalize w2.alloc (.cells #[.slice a ord.length cap1, .int .i64 n] 27) = w3 at *
    generalize hm : w2.heap.size = m at *
    clear hm
    refine (compare_any w1.heap.size b v M x y w3 (HX.out _ HE3.out).1 HG.out.inv.wf).mono ?_
    rintro e w4 ⟨rfl, nd, rfl⟩
    rw [Hcmp.out]
    generalize hr1 : refCmp ord x y = r1 at *
    obtain ⟨c, f⟩ := r1
    have Hr1 := Lib.hid hr1
    clear hr1
    unfold two
    have hx4 : Ext w3 (w3.drewN nd) := (Upd.refl _ w3).drewN' nd
    have HX4 := Lib.hid hx4
    have e0 := D0.out _ hx4
    have e1 := D1.out _ hx4
    clear hx4
    generalize w3.drewN nd = w4 at *
    go_wp2_with fail
    obtain ⟨q1, q2, q3, q4⟩ := HX.out _ (HE3.out.ext HX4.out)
    refine (rcmp_any S _ ord n x y w4 q2 q3 (by have := Hol.out; omega)).mono ?_
    rintro e w5 ⟨rfl, hx5⟩
    rw [Hr1.out]
    unfold two
    clear q1 q2 q3 q4 e0 e1
    have HX5 : Hid (Ext w3 w5) := HX4.out.ext hx5
    have e0 := D0.out _ HX5.out
    have e1 := D1.out _ HX5.out
    clear hx5
    go_wp2_with fail
    refine (next_any w1.heap.size b v M x w5 (HX.out _ (HE3.out.ext HX5.out)).1 HG.out.inv.wf).mono ?_
    rintro e w6 ⟨rfl, rfl⟩
    rw [Hnx.out]
    generalize hr2 : refNext ord x = r2 at *
    obtain ⟨c2, f2⟩ := r2
    have Hr2 := Lib.hid hr2
    clear hr2
    unfold two
    go_wp2_with fail
    obtain ⟨q1, q2, q3, q4⟩ := HX.out _ (HE3.out.ext HX5.out)
    refine (rnext_any S _ ord n x w5 q2 q3 (by have := Hol.out; omega)).mono ?_
    rintro e w6 ⟨rfl, hx6⟩
    rw [Hr2.out]
    unfold two
    clear q1 q2 q3 q4 e0 e1
    have HX6 : Hid (Ext w3 w6) := HX5.out.ext hx6
    have e0 := D0.out _ HX6.out
    have e1 := D1.out _ HX6.out
    clear hx6
    go_wp2_with fail
    obtain ⟨q1, q2, q3, q4⟩ := HX.out _ (HE3.out.ext HX6.out)
    refine (at_any S _ ord n x w6 q2 q3 (by have := Hol.out; omega)).mono ?_
    rintro e w7 ⟨rfl, hx7⟩
    clear q1 q2 q3 q4 e0 e1
    have HX7 : Hid (Ext w3 w7) := HX6.out.ext hx7
    clear hx7
    by_cases hp : pos ord x < 0
    · have hno : M.has x = false := by rw [HG.out.inv.has]; simp; omega
      have e0 := D0.out _ HX7.out
      have e1 := D1.out _ HX7.out
      have Hno := Lib.hid hno
      generalize pos ord x = p at *
      clear hno
      go_wp2_with fail
      refine (moves_any w1.heap.size b v M w7 (HX.out _ (HE3.out.ext HX7.out)).1).mono ?_
      rintro e w8 ⟨rfl, rfl⟩
      generalize hmv : M.moves = MV at *
      have Hmv := Lib.hid hmv
      clear hmv
      have HE7 : Hid (Ext w2 w7) := HE3.out.ext HX7.out
      have C20 : Hid (∀ W, Ext w7 W → Calls Try.prog 20 #[.pointer (some ⟨b, 0, none⟩), .int .i64 x] W fun e w' => e = .returned (.int .i64 12) ∧ W = w') := by
        intro W hW
        exact delete_no w1.heap.size b v M x W (HX.out _ (HE7.out.ext hW)).1 HG.out.inv.wf Hno.out
      have C17 : Hid (∀ W, Ext w7 W → Calls Try.prog 17 #[.pointer (some ⟨b, 0, none⟩)] W fun e w' => e = .returned (.int .i64 MV) ∧ W = w') := by
        intro W hW
        rw [← Hmv.out]
        exact moves_any w1.heap.size b v M W (HX.out _ (HE7.out.ext hW)).1
      have C15 : Hid (∀ W, Ext w7 W → Calls Try.prog 15 #[.pointer (some ⟨b, 0, none⟩)] W (opost ord W)) := by
        intro W hW
        exact order_any _ b v M ord W (HX.out _ (HE7.out.ext hW)).1 HG.out.inv.wf HG.out.inv.chain Hol.out
      have C14 : Hid (∀ W u T, Ext w7 W → LsR T W u ord → Calls Try.prog 14 #[u, .slice a ord.length cap1] W fun e w' => e = .returned (.bool true) ∧ Ext W w') := by
        intro W u T hW hu
        refine (equal_any T S u _ ord ord W hu (HX.out _ (HE7.out.ext hW)).2.1 (by have := Hol.out; omega) (by have := Hol.out; omega)).mono ?_
        rintro e w' ⟨rfl, k, rfl⟩
        exact ⟨by simp, (Upd.refl _ W).drewN' k⟩
      have hx0 : Ext w7 w7.drew := (Upd.refl _ w7).drew
      by_cases hx1 : x = -1
      · subst hx1
        go_wp2_with fail
        go_region_held3 (fun w' => w'.cell? ⟨m, 0, none⟩ = some (.slice a ord.length cap1))
          (first | go_keep | (exact Upd.cell (F := fun _ => False) (by assumption) e0 (fun h => h)))
          (first
            | (go_at_call 20; refine (C20.out _ ?_).mono ?_; · assumption
               rintro e w' ⟨rfl, rfl⟩)
            | (go_at_call 17; refine (C17.out _ ?_).mono ?_; · assumption
               rintro e w' ⟨rfl, rfl⟩)
            | (go_at_call 15; refine (C15.out _ ?_).mono ?_; · assumption
               rintro e w16 ⟨u, rfl, hu, hx6⟩; have hy6 : Ext w7 w16 := Upd.ext (by assumption) hx6; have Hu := Lib.hid hu; clear hx6 hu)
            | (go_at_call 14; refine (C14.out _ _ (fun _ => True) ?_ ?_).mono ?_; · assumption
               · exact (SlR.of_own Hu.out).weaken (fun _ _ => trivial)
               rintro e w17 ⟨rfl, hx7⟩; have hy7 : Ext w7 w17 := Upd.ext (by assumption) hx7; clear hx7))
        go_wp2_with fail
        go_ret
        exact ⟨rfl, (HX.out _ (HE7.out.ext hy7)).2.2.2⟩
      · have C16 : Hid (Calls Try.prog 16 #[.pointer (some ⟨b, 0, none⟩), .int .i64 x] w7 fun e w' => e = .returned (.tuple #[.int .i64 0, .int .i64 12]) ∧ w7 = w') := insert_no w1.heap.size b v M x w7 (HX.out _ HE7.out).1 HG.out.inv.wf Hno.out hx1
        go_wp2_with fail
        refine C16.out.mono ?_
        rintro e w8 ⟨rfl, rfl⟩
        go_wp2_with fail
        go_region_held3 (fun w' => w'.cell? ⟨m, 0, none⟩ = some (.slice a ord.length cap1))
          (first | go_keep | (exact Upd.cell (F := fun _ => False) (by assumption) e0 (fun h => h)))
          (first
            | (go_at_call 20; refine (C20.out _ ?_).mono ?_; · assumption
               rintro e w' ⟨rfl, rfl⟩)
            | (go_at_call 17; refine (C17.out _ ?_).mono ?_; · assumption
               rintro e w' ⟨rfl, rfl⟩)
            | (go_at_call 15; refine (C15.out _ ?_).mono ?_; · assumption
               rintro e w16 ⟨u, rfl, hu, hx6⟩; have hy6 : Ext w7 w16 := Upd.ext (by assumption) hx6; have Hu := Lib.hid hu; clear hx6 hu)
            | (go_at_call 14; refine (C14.out _ _ (fun _ => True) ?_ ?_).mono ?_; · assumption
               · exact (SlR.of_own Hu.out).weaken (fun _ _ => trivial)
               rintro e w17 ⟨rfl, hx7⟩; have hy7 : Ext w7 w17 := Upd.ext (by assumption) hx7; clear hx7))
        go_wp2_with fail
        go_ret
        exact ⟨rfl, (HX.out _ (HE7.out.ext hy7)).2.2.2⟩
    · generalize pos ord x = p at *
      have hfin := Lib.hid (HX.out _ (HE3.out.ext HX7.out)).2.2.2
      go_wp2_with fail
      go_ret
      exact ⟨rfl, hfin.out⟩

end Go.Proofs.Ytnlminaanccejaa
