/- The walk of the law OrderlistApart. -/
import Derived.Test.YtnlminaanccejaaF1
import Derived.Deep.RegionHeld3
import Derived.Deep.RegionWith
namespace Go.Proofs.Ytnlminaanccejaa
open Go.RowKit Go.Hw
set_option linter.unusedVariables false
set_option linter.unusedSimpArgs false

/-- the relation of the loop: the row is still written on -/
def XR (w3 : World) (L : Nat) (u : Value) (w : World) : Prop :=
  Ext w3 w ∧ (0 < L → ∃ g cap arr, u = .slice (some ⟨g, 0, none⟩) L cap ∧ w3.heap.size ≤ g ∧ w.heap[g]? = some (.cells arr 3 (0, 0)) ∧ L ≤ arr.size)

theorem XR.start {w3 w4 : World} {L : Nat} {u : Value} {cs : List Value} (h : w4.ownsRow w3.heap.size 3 1 u L cs) (hE : Ext w3 w4) : XR w3 L u w4 := by
  refine ⟨hE, fun h0 => ?_⟩
  rcases h.2 with ⟨_, h2⟩ | ⟨g, cap, cur, rfl, hb, hg, h3, h4, h5⟩
  · omega
  · refine ⟨g, cap, cur, rfl, hb, hg, ?_⟩
    omega
theorem XR.put {w3 w : World} {L g cap k : Nat} {y : Value} (h : XR w3 L (.slice (some ⟨g, 0, none⟩) L cap) w) (hL : 0 < L) : XR w3 L (.slice (some ⟨g, 0, none⟩) L cap) (w.setCell ⟨g, k, none⟩ y) := by
  obtain ⟨h1, h2⟩ := h
  obtain ⟨g', cap', arr, hv, hb, hg, hs⟩ := h2 hL
  have e : g' = g := by injection hv with e1; injection e1 with e1; injection e1 with e1; exact e1.symm
  subst e
  refine ⟨h1.setCell (.inr hb) _, fun _ => ⟨g', cap, _, rfl, hb, heap_setCell_same w g' k arr 3 _ hg, by simpa using hs⟩⟩

set_option maxRecDepth 100000 in
set_option maxHeartbeats 4000000 in
theorem apart_law (v0 : Value) (steps : List St) (w : World) (h : StR w v0 steps) :
    Calls Try.prog 8 #[v0] w fun e w' => e = .returned (.bool true) ∧ Ext w w' := by
  obtain ⟨a0, cap0, hv⟩ := h.shape
  subst hv
  have hk := Lib.hid h
  clear h
  by_cases hbig : 60 < steps.length
  · go_enter Try.func8, Try.ntmps8
    go_wp2_with fail
    refine (awake_any _).mono ?_
    rintro e w1 ⟨rfl, hE⟩
    go_wp2_with fail
    refine (insert_nil _ _).mono ?_
    rintro e w2 ⟨rfl, rfl⟩
    go_wp2_with fail
    refine (compare_nil _ _ _).mono ?_
    rintro e w2 ⟨rfl, rfl⟩
    go_wp2_with fail
    refine (next_nil _ _).mono ?_
    rintro e w2 ⟨rfl, rfl⟩
    go_wp2_with fail
    refine (label_nil _ _).mono ?_
    rintro e w2 ⟨rfl, rfl⟩
    go_wp2_with fail
    refine (delete_nil _ _).mono ?_
    rintro e w2 ⟨rfl, rfl⟩
    go_wp2_with fail
    refine (len_nil _).mono ?_
    rintro e w2 ⟨rfl, rfl⟩
    go_wp2_with fail
    refine (contains_nil _ _).mono ?_
    rintro e w2 ⟨rfl, rfl⟩
    go_wp2_with fail
    refine (order_nil _).mono ?_
    rintro e w2 ⟨rfl, rfl⟩
    go_wp2_with fail
    refine (moves_nil _).mono ?_
    rintro e w2 ⟨rfl, rfl⟩
    go_wp2_with fail
    go_ret
    exact ⟨rfl, hE⟩
  · go_enter Try.func8, Try.ntmps8
    go_wp2_with fail
    refine (awake_any _).mono ?_
    rintro e w1 ⟨rfl, hE⟩
    have HE := Lib.hid hE
    clear hE
    go_wp2_with fail
    refine (insert_nil _ _).mono ?_
    rintro e w2 ⟨rfl, rfl⟩
    go_wp2_with fail
    refine (compare_nil _ _ _).mono ?_
    rintro e w2 ⟨rfl, rfl⟩
    go_wp2_with fail
    refine (next_nil _ _).mono ?_
    rintro e w2 ⟨rfl, rfl⟩
    go_wp2_with fail
    refine (label_nil _ _).mono ?_
    rintro e w2 ⟨rfl, rfl⟩
    go_wp2_with fail
    refine (delete_nil _ _).mono ?_
    rintro e w2 ⟨rfl, rfl⟩
    go_wp2_with fail
    refine (len_nil _).mono ?_
    rintro e w2 ⟨rfl, rfl⟩
    go_wp2_with fail
    refine (contains_nil _ _).mono ?_
    rintro e w2 ⟨rfl, rfl⟩
    go_wp2_with fail
    refine (order_nil _).mono ?_
    rintro e w2 ⟨rfl, rfl⟩
    go_wp2_with fail
    refine (moves_nil _).mono ?_
    rintro e w2 ⟨rfl, rfl⟩
    go_wp2_with fail
    refine (play_any _ steps w1 ((hk.out.kept HE.out (fun _ _ h => h)).weaken (fun k hk => by have := HE.out.size; omega)) (by omega)).mono ?_
    rintro e w2 ⟨b, v, M, ord, n, sl, S, rfl, hrep, hG, hP, hn, hls, hS, hE2⟩
    obtain ⟨a, cap1, hv⟩ := hls.shape
    subst hv
    have hE3 : Ext w2 (w2.alloc (.cells #[.slice a ord.length cap1, .int .i64 n] 27)) := (Upd.refl _ w2).alloc _
    have hB : (w2.alloc (.cells #[.slice a ord.length cap1, .int .i64 n] 27)).heap[w2.heap.size]? = some (.cells #[.slice a ord.length cap1, .int .i64 n] 27) := alloc0 _ _
    have hol : ord.length ≤ 2000 := by have := hG.inv.ordLen; have := hG.inv.len; omega
    have HX : Hid (∀ W, Ext w2 W → LRep w1.heap.size W b v M ∧ LsR S W (.slice a ord.length cap1) ord ∧ (∀ k, S k → k < W.heap.size) ∧ Ext w W) := fun W hW =>
      ⟨hrep.kept hW (fun _ _ h => h), hls.kept hW (fun _ _ h => h), fun k hk => by have := (hS k hk).1; have := hW.size; omega, (HE.out.ext hE2).ext hW⟩
    have HG := Lib.hid hG
    have Hol : Hid (ord.length ≤ 2000) := hol
    have HE3 := Lib.hid hE3
    have HB := Lib.hid hB
    clear hE3 hB hrep hG hP hls hS hE2 hol
    have d0 : ∀ W, Ext (w2.alloc (.cells #[.slice a ord.length cap1, .int .i64 n] 27)) W → W.cell? ⟨w2.heap.size, 0, none⟩ = some (.slice a ord.length cap1) := fun W hW => by rw [cell_of_row _ _ 0 _ _ _ (hW.heap HB.out (fun h => h))]; rfl
    have D0 := Lib.hid d0
    clear d0
    go_wp2_with fail
    generalize w2.alloc (.cells #[.slice a ord.length cap1, .int .i64 n] 27) = w3 at *
    generalize hm : w2.heap.size = m at *
    clear hm
    refine (order_any _ b v M ord w3 (HX.out _ HE3.out).1 HG.out.inv.wf HG.out.inv.chain Hol.out).mono ?_
    rintro e w4 ⟨u, rfl, hu, hx4⟩
    obtain ⟨a4, cap4, hv⟩ := own_shape hu
    subst hv
    have HX4 : Hid (XR w3 ord.length (.slice a4 ord.length cap4) w4) := XR.start hu hx4
    clear hu hx4
    generalize hL : ord.length = L at *
    have HL := Lib.hid hL
    clear hL
    go_wp2_with fail
    go_loopg [93] L (fun gk i wr => ∃ k : Nat, i = .int .i64 k ∧ gk = L - k ∧ k ≤ L ∧ Hid (XR w3 L (.slice a4 L cap4) wr))
    case atStart => exact ⟨0, rfl, rfl, Nat.zero_le _, HX4⟩
    case round =>
      obtain ⟨k, rfl, rfl, hkL, HR⟩ := hrel
      clear HX4
      by_cases hlt : k < L
      · obtain ⟨g, cap, arr, hv, hb, hg, hs⟩ := HR.out.2 (by omega)
        injection hv with e1 e2 e3
        subst e1; subst e3
        have f0 : wr.frozen? ⟨g, k, none⟩ = false := frozen_of_row wr g k _ _ hg
        have f1 : wr.cell? ⟨g, k, none⟩ = some (arr[k]'(by omega)) := by rw [cell_of_row wr g k _ _ _ hg]; simp [show k < arr.size by omega]
        have hL2 : L ≤ 2000 := Hol.out
        have i0 : (0 : Int) ≤ (k : Int) := by omega
        have i1 : (k : Int) < (L : Int) := by omega
        have hfin : Hid (XR w3 L (.slice (some ⟨g, 0, none⟩) L cap4) (wr.setCell ⟨g, k, none⟩ (.int .i64 (-7)))) := HR.out.put (by omega)
        generalize arr[k]'(by omega) = old at *
        clear hg hb hs HR e2
        go_wp2_with fail
        go_roundg (L - (k + 1))
        case measure => omega
        case rel => exact ⟨k + 1, by go_num, rfl, by omega, hfin⟩
      · have hx4 := HR.out.1
        clear HR
        have C15 : Hid (∀ W, Ext wr W → Calls Try.prog 15 #[.pointer (some ⟨b, 0, none⟩)] W (opost ord W)) := by
          intro W hW
          exact order_any _ b v M ord W (HX.out _ ((HE3.out.ext hx4).ext hW)).1 HG.out.inv.wf HG.out.inv.chain (by rw [HL.out]; exact Hol.out)
        have C14 : Hid (∀ W u T, Ext wr W → LsR T W u ord → Calls Try.prog 14 #[u, .slice a L cap1] W fun e w' => e = .returned (.bool true) ∧ Ext W w') := by
          intro W u T hW hu
          refine (equal_any T S u _ ord ord W hu (HX.out _ ((HE3.out.ext hx4).ext hW)).2.1 (by rw [HL.out]; have := Hol.out; omega) (by rw [HL.out]; have := Hol.out; omega)).mono ?_
          rintro e w' ⟨rfl, k, rfl⟩
          exact ⟨by simp, (Upd.refl _ W).drewN' k⟩
        have hx0 : Ext wr wr.drew := (Upd.refl _ wr).drew
        have e0 := D0.out _ hx4
        have HE7 : Hid (Ext w2 wr) := HE3.out.ext hx4
        clear hx4
        go_wp2_with fail
        go_region_held3 (fun w' => w'.cell? ⟨m, 0, none⟩ = some (.slice a L cap1))
          (first | go_keep | (exact Upd.cell (F := fun _ => False) (by assumption) e0 (fun h => h)))
          (first
            | (go_at_call 15; refine (C15.out _ ?_).mono ?_; · assumption
               rintro e w16 ⟨u, rfl, hu, hx6⟩; have hy6 : Ext wr w16 := Upd.ext (by assumption) hx6; have Hu := Lib.hid hu; clear hx6 hu)
            | (go_at_call 14; refine (C14.out _ _ (fun _ => True) ?_ ?_).mono ?_; · assumption
               · exact (SlR.of_own Hu.out).weaken (fun _ _ => trivial)
               rintro e w17 ⟨rfl, hx7⟩; have hy7 : Ext wr w17 := Upd.ext (by assumption) hx7; clear hx7))
        go_wp2_with fail
        go_ret
        exact ⟨rfl, (HX.out _ (HE7.out.ext hy7)).2.2.2⟩

end Go.Proofs.Ytnlminaanccejaa
