/- The walk of the law OrderlistPlays. -/
import Derived.Test.YtnlminaanccejaaF1
import Derived.Deep.RegionHeld3
import Derived.Deep.RegionWith
namespace Go.Proofs.Ytnlminaanccejaa
open Go.RowKit Go.Hw
set_option linter.unusedVariables false
set_option linter.unusedSimpArgs false

set_option maxRecDepth 100000 in
set_option maxHeartbeats 2000000 in
theorem plays_any (v0 : Value) (steps : List St) (x : Int) (w : World) (h : StR w v0 steps) :
    Calls Try.prog 3 #[v0, .int .i64 x] w fun e w' => e = .returned (.bool true) ∧ Ext w w' := by
  obtain ⟨a0, cap0, hv⟩ := h.shape
  subst hv
  have hk := Lib.hid h
  clear h
  by_cases hbig : 120 < steps.length
  · go_enter Try.func3, Try.ntmps3
    go_wp2_with fail
    refine (awake_any _).mono ?_
    rintro e w1 ⟨rfl, hE⟩
    go_wp2_with fail
    go_ret
    exact ⟨rfl, hE⟩
  · go_enter Try.func3, Try.ntmps3
    go_wp2_with fail
    refine (awake_any _).mono ?_
    rintro e w1 ⟨rfl, hE⟩
    have HE := Lib.hid hE
    clear hE
    go_wp2_with fail
    refine (play_any _ steps w1 ((hk.out.kept HE.out (fun _ _ h => h)).weaken (fun k hk => by have := HE.out.size; omega)) (by omega)).mono ?_
    rintro e w2 ⟨b, v, M, ord, n, sl, S, rfl, hrep, hG, hP, hn, hls, hS, hE2⟩
    obtain ⟨a, cap1, hv⟩ := hls.shape
    subst hv
    generalize hc2 : ord.length = cap2 at *
    have Hc2 := Lib.hid hc2
    have HE2 := Lib.hid (HE.out.ext hE2)
    have Hrep := Lib.hid hrep
    have HG := Lib.hid hG
    have Hls := Lib.hid hls
    have HS := Lib.hid hS
    have hblt := hrep.lt
    clear hrep hG hP hls hS hE2 hc2
    -- the facts in the world ahead of the region
    go_wp2_with fail
    have hE3 : Ext w2 (w2.alloc (.cells #[.slice a cap2 cap1, .int .i64 n] 27)) := (Upd.refl _ w2).alloc _
    have hB : (w2.alloc (.cells #[.slice a cap2 cap1, .int .i64 n] 27)).heap[w2.heap.size]? = some (.cells #[.slice a cap2 cap1, .int .i64 n] 27) := alloc0 _ _
    generalize hm : w2.heap.size = m at *
    have Hm := Lib.hid hm
    clear hm
    generalize w2.alloc (.cells #[.slice a cap2 cap1, .int .i64 n] 27) = w3 at *
    have b0 : w3.cell? ⟨m, 0, none⟩ = some (.slice a cap2 cap1) := by rw [cell_of_row w3 _ 0 _ _ _ hB]; rfl
    have b1 : w3.cell? ⟨m, 1, none⟩ = some (.int .i64 n) := by rw [cell_of_row w3 _ 1 _ _ _ hB]; rfl
    have HRep3 : Hid (LRep w1.heap.size w3 b v M) := Hrep.out.kept hE3 (fun _ _ h => h)
    have HLs3 : Hid (LsR S w3 (.slice a cap2 cap1) ord) := Hls.out.kept hE3 (fun _ _ h => h)
    have HS3 : Hid (∀ k, S k → k < w3.heap.size) := fun k hk => by have := (HS.out k hk).1; have := hE3.size; have := Hm.out; omega
    have HE3 : Hid (Ext w w3) := HE2.out.ext hE3
    have Hb0 := Lib.hid b0
    have Hb1 := Lib.hid b1
    have hol := HG.out.inv.ordLen
    have hol2 := HG.out.inv.len
    have Hol : Hid (ord.length ≤ 2000) := by show ord.length ≤ 2000; omega
    clear hE3 hB hol hol2
    have hx0 : Ext w3 w3.drew := (Upd.refl _ w3).drew
    have C11 : ∀ W, Ext w3 W → Calls Try.prog 11 #[.pointer (some ⟨b, 0, none⟩)] W fun e w' => e = .returned (.int .i64 cap2) ∧ W = w' := by
      intro W hW
      have := len_any _ b v M W (HRep3.out.kept hW (fun _ _ h => h))
      rw [HG.out.inv.n, Hc2.out] at this
      exact this
    have C12 : ∀ W, Ext w3 W → Calls Try.prog 12 #[.pointer (some ⟨b, 0, none⟩), .int .i64 x] W fun e w' => e = .returned (.bool (decide (0 ≤ pos ord x))) ∧ W = w' := by
      intro W hW
      have := contains_any _ b v M x W (HRep3.out.kept hW (fun _ _ h => h)) HG.out.inv.wf
      rw [HG.out.inv.has x] at this
      exact this
    have C13 : ∀ W, Ext w3 W → Calls Try.prog 13 #[.agg #[.slice a cap2 cap1, .int .i64 n], .int .i64 x] W fun e w' => e = .returned (.int .i64 (pos ord x)) ∧ Ext W w' := by
      intro W hW
      exact at_any S _ ord n x W (HLs3.out.kept hW (fun _ _ h => h)) (fun k hk => by have := HS3.out k hk; have := hW.size; omega) (by have := Hol.out; omega)
    have C15 : ∀ W, Ext w3 W → Calls Try.prog 15 #[.pointer (some ⟨b, 0, none⟩)] W (opost ord W) := by
      intro W hW
      exact order_any _ b v M ord W (HRep3.out.kept hW (fun _ _ h => h)) HG.out.inv.wf HG.out.inv.chain Hol.out
    have C14 : ∀ W u T, Ext w3 W → LsR T W u ord → Calls Try.prog 14 #[u, .slice a cap2 cap1] W fun e w' => e = .returned (.bool true) ∧ Ext W w' := by
      intro W u T hW hu
      refine (equal_any T S u _ ord ord W hu (HLs3.out.kept hW (fun _ _ h => h)) (by have := Hol.out; omega) (by have := Hol.out; omega)).mono ?_
      rintro e w' ⟨rfl, k, rfl⟩
      exact ⟨by simp, (Upd.refl _ W).drewN' k⟩
    have HC11 := Lib.hid C11
    have HC12 := Lib.hid C12
    have HC13 := Lib.hid C13
    have HC15 := Lib.hid C15
    have HC14 := Lib.hid C14
    clear C11 C12 C13 C15 C14
    generalize pos ord x = P at *
    go_region_held3 (fun w' => w'.cell? ⟨m, 0, none⟩ = some (.slice a cap2 cap1) ∧ w'.cell? ⟨m, 1, none⟩ = some (.int .i64 n))
      (first | go_keep | (exact ⟨Upd.cell (F := fun _ => False) (by assumption) Hb0.out (fun h => h), Upd.cell (F := fun _ => False) (by assumption) Hb1.out (fun h => h)⟩))
      (first
        | (go_at_call 11; refine (HC11.out _ ?_).mono ?_; · assumption
           rintro e w' ⟨rfl, rfl⟩)
        | (go_at_call 12; refine (HC12.out _ ?_).mono ?_; · assumption
           rintro e w' ⟨rfl, rfl⟩)
        | (go_at_call 13; refine (HC13.out _ ?_).mono ?_; · assumption
           rintro e w5 ⟨rfl, hx5⟩; have hy5 : Ext w3 w5 := Upd.ext (by assumption) hx5; clear hx5)
        | (go_at_call 15; refine (HC15.out _ ?_).mono ?_; · assumption
           rintro e w6 ⟨u, rfl, hu, hx6⟩; have hy6 : Ext w3 w6 := Upd.ext (by assumption) hx6; have Hu := Lib.hid hu; clear hx6 hu)
        | (go_at_call 14; refine (HC14.out _ _ (fun _ => True) ?_ ?_).mono ?_; · assumption
           · exact (SlR.of_own Hu.out).weaken (fun _ _ => trivial)
           rintro e w7 ⟨rfl, hx7⟩; have hy7 : Ext w3 w7 := Upd.ext (by assumption) hx7; clear hx7))
    go_wp2_with fail
    go_ret
    exact ⟨rfl, HE3.out.ext hy7⟩

end Go.Proofs.Ytnlminaanccejaa
