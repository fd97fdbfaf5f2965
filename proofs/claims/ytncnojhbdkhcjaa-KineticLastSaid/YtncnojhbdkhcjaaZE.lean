/- The texts K17 K18 K19 K20 K21 K22 K23 K24, one behind the other. -/
import Derived.Test.YtncnojhbdkhcjaaZD
import Derived.BigQuiet
import Derived.Handy
/- Certificates of the reference. -/
namespace Go.Proofs.Ytncnojhbdkhcjaa
open Go.RowKit Go.Hw
set_option linter.unusedVariables false
set_option linter.unusedSimpArgs false

theorem info51 : (Try.prog.info? 51).map (fun i => (i.zero, i.size, i.bytes)) = some (some (.agg #[.int .i64 0, .int .i64 0, .int .i64 0, .int .i64 0]), 4, 32) := by kernel_rfl
theorem ordF_at_lt (l : List Mo) (n d : Int) (i : Nat) (h : i < l.length) : (ordF l n d).getD i 0 < l.length := by
  have h2 : i < (ordF l n d).length := by rw [ordF_len]; exact h
  rw [List.getD_eq_getElem?_getD, List.getElem?_eq_getElem h2]
  exact (ordF_mem l n d _).1 (List.getElem_mem h2)
theorem rmeet_yes (a b : Mo) (n d : Int) (w : World) (ha : badM a.1 a.2 = false) (hb : badM b.1 b.2 = false) (ht : vfB n d = true) (hm : meetB a b n d = true) : Calls Try.prog 17 #[.agg #[.int .i64 a.1, .int .i64 a.2], .agg #[.int .i64 b.1, .int .i64 b.2], .agg #[.int .i64 n, .int .i64 d]] w fun e w' => e = .returned (.tuple #[.agg #[.int .i64 (mtN a b), .int .i64 (mtD a b)], .int .i64 0]) ∧ Ext w w' := by
  have := rmeet_x a b n d w ha hb ht
  unfold meetN meetD at this
  rw [hm] at this
  exact this
theorem rmeet_no (a b : Mo) (n d : Int) (w : World) (ha : badM a.1 a.2 = false) (hb : badM b.1 b.2 = false) (ht : vfB n d = true) (hm : meetB a b n d = false) : Calls Try.prog 17 #[.agg #[.int .i64 a.1, .int .i64 a.2], .agg #[.int .i64 b.1, .int .i64 b.2], .agg #[.int .i64 n, .int .i64 d]] w fun e w' => e = .returned (.tuple #[.agg #[.int .i64 0, .int .i64 0], .int .i64 12]) ∧ Ext w w' := by
  have := rmeet_x a b n d w ha hb ht
  unfold meetN meetD at this
  rw [hm] at this
  exact this
theorem kmeet_yes (a b : Mo) (n d : Int) (w : World) (ha : badM a.1 a.2 = false) (hb : badM b.1 b.2 = false) (ht : vfB n d = true) (hm : meetB a b n d = true) : Calls Try.prog 50 #[.agg #[.int .i64 a.1, .int .i64 a.2], .agg #[.int .i64 b.1, .int .i64 b.2], .agg #[.int .i64 n, .int .i64 d]] w fun e w' => e = .returned (.tuple #[.agg #[.int .i64 (mtN a b), .int .i64 (mtD a b)], .bool true]) ∧ Ext w w' := by
  have := meet_x a b n d w ha hb ht
  unfold meetN meetD at this
  rw [hm] at this
  exact this
theorem kmeet_no (a b : Mo) (n d : Int) (w : World) (ha : badM a.1 a.2 = false) (hb : badM b.1 b.2 = false) (ht : vfB n d = true) (hm : meetB a b n d = false) : Calls Try.prog 50 #[.agg #[.int .i64 a.1, .int .i64 a.2], .agg #[.int .i64 b.1, .int .i64 b.2], .agg #[.int .i64 n, .int .i64 d]] w fun e w' => e = .returned (.tuple #[.agg #[.int .i64 0, .int .i64 0], .bool false]) ∧ Ext w w' := by
  have := meet_x a b n d w ha hb ht
  unfold meetN meetD at this
  rw [hm] at this
  exact this
set_option maxRecDepth 100000 in
set_option maxHeartbeats 2000000 in
theorem rcert_x (l : List Mo) (n d : Int) (S : Nat → Prop) (v : Value) (w : World) (hl2 : l.length ≤ 100000) (hm : mB l = true) (hv : vfB n d = true) (hR : MoR S w v l) (hS : ∀ k, S k → k < w.heap.size) :
    Calls Try.prog 22 #[v, .agg #[.int .i64 n, .int .i64 d]] w fun e w' => ∃ r, e = .returned r ∧ w'.ownsRow w.heap.size 51 4 r (certF l n d).length (sCells (certF l n d)) ∧ Ext w w' := by
  obtain ⟨a, cap, rfl⟩ := hR.shape
  have HZ := Lib.hid ((Upd.refl (fun _ => False) w).alloc (.cells #[.int .i64 n, .int .i64 d] 25))
  have hb0 := alloc0 w (.cells #[.int .i64 n, .int .i64 d] 25)
  have HL : Hid ((w.alloc (.cells #[.int .i64 n, .int .i64 d] 25)).heap.size = w.heap.size + 1) := Lib.hid (by simp)
  have HX : Hid (∀ W, Ext (w.alloc (.cells #[.int .i64 n, .int .i64 d] 25)) W → W.cell? ⟨w.heap.size, 0, none⟩ = some (.int .i64 n) ∧ W.cell? ⟨w.heap.size, 1, none⟩ = some (.int .i64 d)) := Lib.hid (fun W hW => ⟨cellRow (hW.heap hb0 (fun h => h)) 0 _ rfl, cellRow (hW.heap hb0 (fun h => h)) 1 _ rfl⟩)
  clear hb0
  obtain ⟨k00, k01⟩ := HX.out _ (Upd.refl _ _)
  have HRO : Hid (∀ W, Ext w W → Calls Try.prog 20 #[.slice a l.length cap, .agg #[.int .i64 n, .int .i64 d]] W fun e w' => ∃ r, e = .returned r ∧ w'.ownsRow W.heap.size 3 1 r l.length (iCells (ordF l n d)) ∧ Ext W w') := Lib.hid (fun W h => rorder_x l n d S _ W hl2 hm hv (hR.ext h) (fun k hk => Nat.lt_of_lt_of_le (hS k hk) h.size))
  have HRR : Hid (MoR S w (.slice a l.length cap) l) := Lib.hid hR
  have HM : Hid (mB l = true ∧ vfB n d = true) := Lib.hid ⟨hm, hv⟩
  clear hR hS hm hv
  go_enter Try.func22, Try.ntmps22
  go_wp2_with fail
  refine (HRO.out _ HZ.out).mono ?_
  rintro e w4 ⟨r4, rfl, hO4, hw4⟩
  obtain ⟨a4, c4, rfl⟩ := own_shape hO4
  have HO4 := Lib.hid hO4
  have H4 := Lib.hid hw4
  clear hO4 hw4 k00 k01
  go_wp2_with fail
  go_loopg [5, 7] l.length (fun gk bv i wr => ∃ k : Nat, i = .int .i64 ((k : Int) + 1) ∧ gk = l.length - k ∧ (k = 0 ∨ k + 1 ≤ l.length) ∧ Hid (Ext w4 wr) ∧ Hid (wr.ownsRow w4.heap.size 51 4 bv (certP l n d k).length (sCells (certP l n d k))))
  case atStart => exact ⟨0, rfl, rfl, .inl rfl, Lib.hid (Upd.refl _ _), Lib.hid (World.ownsRow_nil _ _ _ _)⟩
  case round =>
    obtain ⟨k, rfl, rfl, hk, HE, HO⟩ := hrel
    obtain ⟨a5, c5, hv5⟩ := own_shape HO.out
    subst hv5
    by_cases hlt : k + 1 < l.length
    · obtain ⟨g4, c6, hv4⟩ := own_some HO4.out (by omega)
      injection hv4 with e1 e2 e3
      subst e1
      clear e2 e3
      have o0 := own_cell (own_kept HO4.out HE.out (fun _ _ h => h)) k (by omega)
      rw [iCells_at _ _ (by rw [ordF_len]; omega)] at o0
      have o1 := own_cell (own_kept HO4.out HE.out (fun _ _ h => h)) (k + 1) (by omega)
      rw [iCells_at _ _ (by rw [ordF_len]; omega)] at o1
      have hA := ordF_at_lt l n d k (by omega)
      have hB := ordF_at_lt l n d (k + 1) hlt
      obtain ⟨g2, off, rfl⟩ := HRR.out.at_ (by omega)
      have hrw := HRR.out.ext ((HZ.out.ext H4.out).ext HE.out)
      obtain ⟨p0, p1⟩ := hrw.cells hA
      obtain ⟨q0, q1⟩ := hrw.cells hB
      obtain ⟨y0, y1⟩ := HX.out wr (H4.out.ext HE.out)
      clear hrw
      cases hC : meetB (mg l ((ordF l n d).getD k 0)) (mg l ((ordF l n d).getD (k + 1) 0)) n d
      · have HMT := Lib.hid (fun W => rmeet_no (mg l ((ordF l n d).getD k 0)) (mg l ((ordF l n d).getD (k + 1) 0)) n d W (mB_at HM.out.1 _) (mB_at HM.out.1 _) HM.out.2 hC)
        have HCP := Lib.hid (certP_no l n d k (show certAt l n d k = none by unfold certAt; rw [hC]; rfl))
        clear hC
        generalize (ordF l n d).getD k 0 = A at *
        generalize (ordF l n d).getD (k + 1) 0 = B at *
        generalize (mg l A).1 = u0 at *
        generalize (mg l A).2 = u1 at *
        generalize (mg l B).1 = v0 at *
        generalize (mg l B).2 = v1 at *
        have i0 : (0 : Int) ≤ (k : Int) := by omega
        have i1 : (k : Int) + 1 < (l.length : Int) := by omega
        have i2 : (k : Int) < (l.length : Int) := by omega
        have j0 : (0 : Int) ≤ (A : Int) := by omega
        have j1 : (A : Int) < (l.length : Int) := by omega
        have j2 : (0 : Int) ≤ (B : Int) := by omega
        have j3 : (B : Int) < (l.length : Int) := by omega
        have HPL : Hid ((certP l n d k).length ≤ k) := Lib.hid (by unfold certP; exact Nat.le_trans (List.length_filterMap_le _ _) (by simp))
        go_wp2_with fail
        go_quiet (fail)
        go_wp2_with fail
        have x0 := fun x : XW (wr.drewN nq) => x.ext.cell (w := wr.drewN nq) y0 (fun h => h)
        have x1 := fun x : XW (wr.drewN nq) => x.ext.cell (w := wr.drewN nq) y1 (fun h => h)
        have x2 := fun x : XW (wr.drewN nq) => x.ext.cell (w := wr.drewN nq) p0 (fun h => h)
        have x3 := fun x : XW (wr.drewN nq) => x.ext.cell (w := wr.drewN nq) p1 (fun h => h)
        have x4 := fun x : XW (wr.drewN nq) => x.ext.cell (w := wr.drewN nq) q0 (fun h => h)
        have x5 := fun x : XW (wr.drewN nq) => x.ext.cell (w := wr.drewN nq) q1 (fun h => h)
        refine wp_region_parF (α := Nat) 14 [12] 15 [(14, 1), (15, 2)] [[], [], [0, 1], [0, 1, 2], [], [], [4, 5], [4, 5, 6], [], [0, 1, 2, 3, 4, 5, 6, 7, 8], [0, 1, 2, 3, 4, 5, 6, 7, 8, 9], [0, 1, 2, 3, 4, 5, 6, 7, 8, 9, 10], [0, 1, 2, 3, 4, 5, 6, 7, 8, 9, 10], [], [0, 1, 2, 3, 4, 5, 6, 7, 8, 9, 10, 11, 13], [0, 1, 2, 3, 4, 5, 6, 7, 8, 9, 10, 11, 12, 13, 14]]
          [none, none, none, none, none, none, none, none, none, some (annVal (.tuple #[.agg #[.int .i64 0, .int .i64 0], .int .i64 12])), none, none, none, some (annBlk (fun g => .pointer (some ⟨g, 0, none⟩)) (fun g => g) wr.heap.size (.cells #[.int .i64 0, .int .i64 0] 25))]
          [false, false, false, false, false, false, false, false, false, true, false, false, false, true] (by kernel_rfl) (by kernel_rfl) rfl (fun _ _ d _ _ h => by cases d <;> exact h) ?_
        simp only [List.take_succ_cons, List.take_zero, pickO, List.getElem?_cons_zero, List.getElem?_cons_succ]
        refine can_pure0 rfl (fun K hK => ?_); go_simp; refine hK _ ?_; clear hK K
        refine can_pure0 rfl (fun K hK => ?_); go_simp; refine hK _ ?_; clear hK K
        refine can_pure0 rfl (fun K hK => ?_); go_simp; refine hK _ ?_; clear hK K
        refine can_pure0 rfl (fun K hK => ?_); go_simp; refine hK _ ?_; clear hK K
        refine can_pure0 rfl (fun K hK => ?_); go_simp; refine hK _ ?_; clear hK K
        refine can_pure0 rfl (fun K hK => ?_); go_simp; refine hK _ ?_; clear hK K
        refine can_pure0 rfl (fun K hK => ?_); go_simp; refine hK _ ?_; clear hK K
        refine can_pure0 rfl (fun K hK => ?_); go_simp; refine hK _ ?_; clear hK K
        refine can_pure0 rfl (fun K hK => ?_); go_simp; refine hK _ ?_; clear hK K
        refine can_mem _ rfl (by go_simp) (fun W hW hG K hK => ?_) (fun K x9 hK => ?_)
        · go_simp
          refine (HMT.out W).mono ?_
          rintro e w' ⟨rfl, h⟩
          exact hK default w' h trivial
        refine hK _ ?_; clear hK K
        dsimp only [annVal]
        refine can_pure0 rfl (fun K hK => ?_); go_simp; refine hK _ ?_; clear hK K
        refine can_pure0 rfl (fun K hK => ?_); go_simp; refine hK _ ?_; clear hK K
        refine can_pure0 rfl (fun K hK => ?_); go_simp; refine hK _ ?_; clear hK K
        refine can_mem _ rfl (by go_simp) (fun W hW hG K hK => ?_) (fun K g9 hK => ?_)
        · go_simp
          exact hK W.heap.size _ ((Upd.refl _ W).alloc _) ⟨hW.size, alloc0 _ _⟩
        refine hK _ ?_; clear hK K
        dsimp only [annBlk]
        refine can_end (fun w8 hW hG => ?_)
        obtain ⟨hb9, hg9⟩ := hG _ (List.mem_append_right _ (List.mem_singleton.2 rfl))
        clear hG
        have H8 : Hid (Ext wr w8) := Lib.hid (hW.ofDrewN)
        have m0 := frozenRow hg9 0
        have m1 := frozenRow hg9 1
        have cc0 := cellRow hg9 0 (.int .i64 0) rfl
        have cc1 := cellRow hg9 1 (.int .i64 0) rfl
        have HG9 := Lib.hid (And.intro hb9 hg9)
        clear hW hg9 hb9
        refine mix_one (fun K hK _ => ?_) trivial; go_simp; refine hK _ _ trivial ?_; clear hK K
        refine mix_two (fun K hK => ?_); go_simp; refine hK _ _ ?_; clear hK K
        simp only [wpMix]
        clear x0 x1 x2 x3 x4 x5
        have HE8 : Hid (Ext w4 w8) := Lib.hid (HE.out.ext H8.out)
        have HE9 : Hid (Ext w4 ((w8.setCell ⟨g9, 0, none⟩ (.int .i64 0)).setCell ⟨g9, 1, none⟩ (.int .i64 0))) := Lib.hid (by have hs8 := Nat.le_trans HE.out.size HG9.out.1; exact (HE8.out.setNew hs8 _).setNew hs8 _)
        have HO9 : Hid (((w8.setCell ⟨g9, 0, none⟩ (.int .i64 0)).setCell ⟨g9, 1, none⟩ (.int .i64 0)).ownsRow w4.heap.size 51 4 (.slice a5 (certP l n d k).length c5) (certP l n d k).length (sCells (certP l n d k))) := Lib.hid (own_kept HO.out ((H8.out.setNew HG9.out.1 _).setNew HG9.out.1 _) (fun _ _ h => h))
        generalize ((w8.setCell ⟨g9, 0, none⟩ (.int .i64 0)).setCell ⟨g9, 1, none⟩ (.int .i64 0)) = w9 at *
        go_wp2_with fail
        go_roundg (l.length - (k + 1))
        case measure => omega
        case rel => exact ⟨k + 1, by go_num, rfl, .inr hlt, HE9, Lib.hid (by rw [HCP.out]; exact HO9.out)⟩
      · have HMT := Lib.hid (fun W => rmeet_yes (mg l ((ordF l n d).getD k 0)) (mg l ((ordF l n d).getD (k + 1) 0)) n d W (mB_at HM.out.1 _) (mB_at HM.out.1 _) HM.out.2 hC)
        have HCP := Lib.hid (certP_yes l n d k _ (show certAt l n d k = some (mtN (mg l ((ordF l n d).getD k 0)) (mg l ((ordF l n d).getD (k + 1) 0)), mtD (mg l ((ordF l n d).getD k 0)) (mg l ((ordF l n d).getD (k + 1) 0)), (((ordF l n d).getD k 0 : Nat) : Int), (((ordF l n d).getD (k + 1) 0 : Nat) : Int)) by unfold certAt; rw [hC]; rfl))
        clear hC
        generalize (ordF l n d).getD k 0 = A at *
        generalize (ordF l n d).getD (k + 1) 0 = B at *
        generalize mtN (mg l A) (mg l B) = X at *
        generalize mtD (mg l A) (mg l B) = Y at *
        generalize (mg l A).1 = u0 at *
        generalize (mg l A).2 = u1 at *
        generalize (mg l B).1 = v0 at *
        generalize (mg l B).2 = v1 at *
        have i0 : (0 : Int) ≤ (k : Int) := by omega
        have i1 : (k : Int) + 1 < (l.length : Int) := by omega
        have i2 : (k : Int) < (l.length : Int) := by omega
        have j0 : (0 : Int) ≤ (A : Int) := by omega
        have j1 : (A : Int) < (l.length : Int) := by omega
        have j2 : (0 : Int) ≤ (B : Int) := by omega
        have j3 : (B : Int) < (l.length : Int) := by omega
        have HPL : Hid ((certP l n d k).length ≤ k) := Lib.hid (by unfold certP; exact Nat.le_trans (List.length_filterMap_le _ _) (by simp))
        go_wp2_with fail
        go_quiet (fail)
        go_wp2_with fail
        have x0 := fun x : XW (wr.drewN nq) => x.ext.cell (w := wr.drewN nq) y0 (fun h => h)
        have x1 := fun x : XW (wr.drewN nq) => x.ext.cell (w := wr.drewN nq) y1 (fun h => h)
        have x2 := fun x : XW (wr.drewN nq) => x.ext.cell (w := wr.drewN nq) p0 (fun h => h)
        have x3 := fun x : XW (wr.drewN nq) => x.ext.cell (w := wr.drewN nq) p1 (fun h => h)
        have x4 := fun x : XW (wr.drewN nq) => x.ext.cell (w := wr.drewN nq) q0 (fun h => h)
        have x5 := fun x : XW (wr.drewN nq) => x.ext.cell (w := wr.drewN nq) q1 (fun h => h)
        refine wp_region_parF (α := Nat) 14 [12] 15 [(14, 1), (15, 2)] [[], [], [0, 1], [0, 1, 2], [], [], [4, 5], [4, 5, 6], [], [0, 1, 2, 3, 4, 5, 6, 7, 8], [0, 1, 2, 3, 4, 5, 6, 7, 8, 9], [0, 1, 2, 3, 4, 5, 6, 7, 8, 9, 10], [0, 1, 2, 3, 4, 5, 6, 7, 8, 9, 10], [], [0, 1, 2, 3, 4, 5, 6, 7, 8, 9, 10, 11, 13], [0, 1, 2, 3, 4, 5, 6, 7, 8, 9, 10, 11, 12, 13, 14]]
          [none, none, none, none, none, none, none, none, none, some (annVal (.tuple #[.agg #[.int .i64 X, .int .i64 Y], .int .i64 0])), none, none, none, some (annBlk (fun g => .pointer (some ⟨g, 0, none⟩)) (fun g => g) wr.heap.size (.cells #[.int .i64 0, .int .i64 0] 25))]
          [false, false, false, false, false, false, false, false, false, true, false, false, false, true] (by kernel_rfl) (by kernel_rfl) rfl (fun _ _ d _ _ h => by cases d <;> exact h) ?_
        simp only [List.take_succ_cons, List.take_zero, pickO, List.getElem?_cons_zero, List.getElem?_cons_succ]
        refine can_pure0 rfl (fun K hK => ?_); go_simp; refine hK _ ?_; clear hK K
        refine can_pure0 rfl (fun K hK => ?_); go_simp; refine hK _ ?_; clear hK K
        refine can_pure0 rfl (fun K hK => ?_); go_simp; refine hK _ ?_; clear hK K
        refine can_pure0 rfl (fun K hK => ?_); go_simp; refine hK _ ?_; clear hK K
        refine can_pure0 rfl (fun K hK => ?_); go_simp; refine hK _ ?_; clear hK K
        refine can_pure0 rfl (fun K hK => ?_); go_simp; refine hK _ ?_; clear hK K
        refine can_pure0 rfl (fun K hK => ?_); go_simp; refine hK _ ?_; clear hK K
        refine can_pure0 rfl (fun K hK => ?_); go_simp; refine hK _ ?_; clear hK K
        refine can_pure0 rfl (fun K hK => ?_); go_simp; refine hK _ ?_; clear hK K
        refine can_mem _ rfl (by go_simp) (fun W hW hG K hK => ?_) (fun K x9 hK => ?_)
        · go_simp
          refine (HMT.out W).mono ?_
          rintro e w' ⟨rfl, h⟩
          exact hK default w' h trivial
        refine hK _ ?_; clear hK K
        dsimp only [annVal]
        refine can_pure0 rfl (fun K hK => ?_); go_simp; refine hK _ ?_; clear hK K
        refine can_pure0 rfl (fun K hK => ?_); go_simp; refine hK _ ?_; clear hK K
        refine can_pure0 rfl (fun K hK => ?_); go_simp; refine hK _ ?_; clear hK K
        refine can_mem _ rfl (by go_simp) (fun W hW hG K hK => ?_) (fun K g9 hK => ?_)
        · go_simp
          exact hK W.heap.size _ ((Upd.refl _ W).alloc _) ⟨hW.size, alloc0 _ _⟩
        refine hK _ ?_; clear hK K
        dsimp only [annBlk]
        refine can_end (fun w8 hW hG => ?_)
        obtain ⟨hb9, hg9⟩ := hG _ (List.mem_append_right _ (List.mem_singleton.2 rfl))
        clear hG
        have H8 : Hid (Ext wr w8) := Lib.hid (hW.ofDrewN)
        have m0 := frozenRow hg9 0
        have m1 := frozenRow hg9 1
        have cc0 := cellRow hg9 0 (.int .i64 0) rfl
        have cc1 := cellRow hg9 1 (.int .i64 0) rfl
        have HG9 := Lib.hid (And.intro hb9 hg9)
        clear hW hg9 hb9
        refine mix_one (fun K hK _ => ?_) trivial; go_simp; refine hK _ _ trivial ?_; clear hK K
        refine mix_two (fun K hK => ?_); go_simp; refine hK _ _ ?_; clear hK K
        simp only [wpMix]
        clear x0 x1 x2 x3 x4 x5
        have HE8 : Hid (Ext w4 w8) := Lib.hid (HE.out.ext H8.out)
        have HS8 := Lib.hid (Nat.le_trans HE.out.size HG9.out.1)
        have HE9 : Hid (Ext w4 ((w8.setCell ⟨g9, 0, none⟩ (.int .i64 X)).setCell ⟨g9, 1, none⟩ (.int .i64 Y))) := Lib.hid ((HE8.out.setNew HS8.out _).setNew HS8.out _)
        have HO9 : Hid (((w8.setCell ⟨g9, 0, none⟩ (.int .i64 X)).setCell ⟨g9, 1, none⟩ (.int .i64 Y)).ownsRow w4.heap.size 51 4 (.slice a5 (certP l n d k).length c5) (certP l n d k).length (sCells (certP l n d k))) := Lib.hid (own_kept HO.out ((H8.out.setNew HG9.out.1 _).setNew HG9.out.1 _) (fun _ _ h => h))
        have hb9 := setBlock (setBlock HG9.out.2 0 (.int .i64 X)) 1 (.int .i64 Y)
        have c90 := cellRow hb9 0 (.int .i64 X) rfl
        have c91 := cellRow hb9 1 (.int .i64 Y) rfl
        clear hb9 m0 m1 cc0 cc1
        generalize ((w8.setCell ⟨g9, 0, none⟩ (.int .i64 X)).setCell ⟨g9, 1, none⟩ (.int .i64 Y)) = w9 at *
        obtain ⟨iS, hi, hz0, hz1, hz2⟩ := info_parts info51
        have hpl := HPL.out
        have hk100 : k ≤ 100000 := by omega
        have hsz9 := HE9.out.size
        go_wp2_with (at_builtin; refine wpList_append_at _ rfl (.tmp 45) (.tmp 50) 48 rfl w4.heap.size 51 iS (.agg #[.int .i64 0, .int .i64 0, .int .i64 0, .int .i64 0]) 4 32 Try.underlying48 hi hz0 hz1 hz2 rfl (by decide) _ _ _ rfl (HO9.out.alloc _) ⟨w9.heap.size, 0, none⟩ 1 1 [.int .i64 X, .int .i64 Y, .int .i64 (A : Int), .int .i64 (B : Int)] rfl rfl ?c1 ?c2 ?c3 ?c4 ?c5 ?_)
        case c1 =>
          intro j u hj
          match j, hj with
          | 0, hj => simp at hj; subst hj; simp [Addr.add]
          | 1, hj => simp at hj; subst hj; simp [Addr.add]
          | 2, hj => simp at hj; subst hj; simp [Addr.add]
          | 3, hj => simp at hj; subst hj; simp [Addr.add]
        case c2 => intro u hu; simp at hu; rcases hu with rfl | rfl | rfl | rfl <;> rfl
        case c3 => unfold maxLen; omega
        case c4 => omega
        case c5 => simp; omega
        intro v10 w10 hG
        have HO10 : Hid (w10.ownsRow w4.heap.size 51 4 v10 (certP l n d (k + 1)).length (sCells (certP l n d (k + 1)))) := Lib.hid (by rw [HCP.out, sCells_snoc, List.length_append]; exact hG.own)
        have HE10 : Hid (Ext w4 w10) := Lib.hid (upd_grown_new (HE9.out.alloc _) hG.grown (fun k e => (HO9.out.lt k e).1))
        obtain ⟨a11, c11, hv11⟩ := own_shape HO10.out
        subst hv11
        clear hG
        go_wp2_with fail
        go_roundg (l.length - (k + 1))
        case measure => omega
        case rel => exact ⟨k + 1, by go_num, rfl, .inr hlt, HE10, HO10⟩
    · have hkl : k = l.length - 1 := by omega
      have hF : Hid (Ext w wr) := Lib.hid ((HZ.out.ext H4.out).ext HE.out)
      have HQ : Hid (certP l n d k = certF l n d) := Lib.hid (by rw [hkl]; rfl)
      have z1 : decide ((k : Int) + 1 < (l.length : Int)) = false := decide_eq_false (by omega)
      have HS := Lib.hid (HZ.out.ext H4.out).size
      clear hkl
      go_wp2_with fail
      go_ret
      refine ⟨_, rfl, ?_, hF.out⟩
      rw [← HQ.out]
      exact own_base HO.out HS.out

end Go.Proofs.Ytncnojhbdkhcjaa

/- The order of events. -/
namespace Go.Proofs.Ytncnojhbdkhcjaa
open Go.RowKit Go.Hw
set_option linter.unusedVariables false
set_option linter.unusedSimpArgs false

def cmpS (x y : Sw) : Int := or3 (Lib.compareInt (x.1 * y.2.1) (y.1 * x.2.1)) (Lib.compareInt x.2.2.1 y.2.2.1) (Lib.compareInt x.2.2.2 y.2.2.2)
theorem cmpS_earl (x y : Sw) : decide (cmpS x y < 0) = earl x y := by
  unfold cmpS earl or3
  simp only [cmpI_of]
  generalize x.1 * y.2.1 = a
  generalize y.1 * x.2.1 = b
  generalize x.2.2.1 = c
  generalize y.2.2.1 = d
  generalize x.2.2.2 = e
  generalize y.2.2.2 = f
  rcases Int.lt_trichotomy a b with h | h | h
  · have h1 : ¬ a = b := by omega
    simp [h, h1]
  · subst h
    rcases Int.lt_trichotomy c d with h | h | h
    · have h1 : ¬ c = d := by omega
      simp [h, h1]
    · subst h
      rcases Int.lt_trichotomy e f with h | h | h
      · simp [h]
      · subst h; simp
      · have h1 : ¬ e < f := by omega
        simp [h, h1]
    · have h1 : ¬ c = d := by omega
      have h2 : ¬ c < d := by omega
      simp [h, h1, h2]
  · have h1 : ¬ a = b := by omega
    have h2 : ¬ a < b := by omega
    simp [h, h1, h2]
set_option maxRecDepth 100000 in
set_option maxHeartbeats 2000000 in
theorem compare_x (x y : Sw) (w : World) (hx : vfB x.1 x.2.1 = true) (hy : vfB y.1 y.2.1 = true) : Calls Try.prog 116 #[.agg #[.int .i64 x.1, .int .i64 x.2.1, .int .i64 x.2.2.1, .int .i64 x.2.2.2], .agg #[.int .i64 y.1, .int .i64 y.2.1, .int .i64 y.2.2.1, .int .i64 y.2.2.2]] w fun e w' => e = .returned (.int .i64 (cmpS x y)) ∧ Ext w w' := by
  obtain ⟨va, vb, vb'⟩ := vf_bd hx
  obtain ⟨vc, vd, vd'⟩ := vf_bd hy
  obtain ⟨p0, p1, p2, p3⟩ := x
  obtain ⟨q0, q1, q2, q3⟩ := y
  simp only at *
  have HC : Hid (∀ W, Calls Try.prog 74 #[.agg #[.int .i64 p0, .int .i64 p1], .agg #[.int .i64 q0, .int .i64 q1]] W fun e w' => e = .returned (.tuple #[.int .i64 (Lib.compareInt (p0 * q1) (q0 * p1)), .int .i64 0]) ∧ Ext W w') := fun W => cmp_ok p0 p1 q0 q1 W (by omega) (by omega) (by omega) (by omega) (by omega) (by omega) (by omega) (by omega) ⟨hx, hy⟩
  unfold cmpS
  simp only
  have HC2 : Hid (∀ W, Calls Try.prog 73 #[.int .i64 p2, .int .i64 q2] W fun e w' => e = .returned (.int .i64 (Lib.compareInt p2 q2)) ∧ Go.HwD.ExtD W w') := Lib.hid (fun W => (Try.cmp_Compare_int p2 q2 W).mono fun e w' ⟨h1, h2⟩ => ⟨h1, h2 ▸ Go.HwD.ExtD.refl _⟩)
  have HC3 : Hid (∀ W, Calls Try.prog 73 #[.int .i64 p3, .int .i64 q3] W fun e w' => e = .returned (.int .i64 (Lib.compareInt p3 q3)) ∧ Go.HwD.ExtD W w') := Lib.hid (fun W => (Try.cmp_Compare_int p3 q3 W).mono fun e w' ⟨h1, h2⟩ => ⟨h1, h2 ▸ Go.HwD.ExtD.refl _⟩)
  generalize Lib.compareInt (p0 * q1) (q0 * p1) = C1 at *
  generalize Lib.compareInt p2 q2 = C2 at *
  generalize Lib.compareInt p3 q3 = C3 at *
  have HO : Hid (∀ W g, W.heap[g]? = some (.cells #[.int .i64 C1, .int .i64 C2, .int .i64 C3] 3 (0, 0)) → Calls Try.prog 72 #[.slice (some ⟨g, 0, none⟩) 3 3] W fun e w' => e = .returned (.int .i64 (or3 C1 C2 C3)) ∧ Go.HwD.ExtD W w') := Lib.hid (fun W g hg => (or3_x C1 C2 C3 g W (cellRow hg 0 _ rfl) (cellRow hg 1 _ rfl) (cellRow hg 2 _ rfl)).mono fun e w' ⟨h1, h2⟩ => ⟨h1, h2 ▸ Go.HwD.ExtD.refl _⟩)
  clear hx hy va vb vb' vc vd vd'
  have HZ := Lib.hid (((Upd.refl (fun _ => False) w).alloc (.cells #[.int .i64 p0, .int .i64 p1, .int .i64 p2, .int .i64 p3] 51)).alloc (.cells #[.int .i64 q0, .int .i64 q1, .int .i64 q2, .int .i64 q3] 51))
  have hb0 := allocOld (alloc0 w (.cells #[.int .i64 p0, .int .i64 p1, .int .i64 p2, .int .i64 p3] 51)) (.cells #[.int .i64 q0, .int .i64 q1, .int .i64 q2, .int .i64 q3] 51)
  have hb1 := alloc_at (w.alloc (.cells #[.int .i64 p0, .int .i64 p1, .int .i64 p2, .int .i64 p3] 51)) (.cells #[.int .i64 q0, .int .i64 q1, .int .i64 q2, .int .i64 q3] 51) (n := w.heap.size + 1) (by simp)
  have HL : Hid (((w.alloc (.cells #[.int .i64 p0, .int .i64 p1, .int .i64 p2, .int .i64 p3] 51)).alloc (.cells #[.int .i64 q0, .int .i64 q1, .int .i64 q2, .int .i64 q3] 51)).heap.size = w.heap.size + 2) := Lib.hid (by simp)
  have HX : Hid (∀ W, Ext ((w.alloc (.cells #[.int .i64 p0, .int .i64 p1, .int .i64 p2, .int .i64 p3] 51)).alloc (.cells #[.int .i64 q0, .int .i64 q1, .int .i64 q2, .int .i64 q3] 51)) W → W.cell? ⟨w.heap.size, 0, none⟩ = some (.int .i64 p0) ∧ W.cell? ⟨w.heap.size, 1, none⟩ = some (.int .i64 p1) ∧ W.cell? ⟨w.heap.size, 2, none⟩ = some (.int .i64 p2) ∧ W.cell? ⟨w.heap.size, 3, none⟩ = some (.int .i64 p3) ∧ W.cell? ⟨w.heap.size + 1, 0, none⟩ = some (.int .i64 q0) ∧ W.cell? ⟨w.heap.size + 1, 1, none⟩ = some (.int .i64 q1) ∧ W.cell? ⟨w.heap.size + 1, 2, none⟩ = some (.int .i64 q2) ∧ W.cell? ⟨w.heap.size + 1, 3, none⟩ = some (.int .i64 q3)) := Lib.hid (fun W hW => ⟨cellRow (hW.heap hb0 (fun h => h)) 0 _ rfl, cellRow (hW.heap hb0 (fun h => h)) 1 _ rfl, cellRow (hW.heap hb0 (fun h => h)) 2 _ rfl, cellRow (hW.heap hb0 (fun h => h)) 3 _ rfl, cellRow (hW.heap hb1 (fun h => h)) 0 _ rfl, cellRow (hW.heap hb1 (fun h => h)) 1 _ rfl, cellRow (hW.heap hb1 (fun h => h)) 2 _ rfl, cellRow (hW.heap hb1 (fun h => h)) 3 _ rfl⟩)
  clear hb0 hb1
  have hle1 : w.heap.size ≤ w.heap.size + 1 := by omega
  obtain ⟨k00, k01, k02, k03, k10, k11, k12, k13⟩ := HX.out _ (Upd.refl _ _)
  go_enter Try.func116, Try.ntmps116
  go_wp2_with fail
  refine (HC.out _).mono ?_
  rintro e w4 ⟨rfl, hw4⟩
  have H4 := Lib.hid (hw4)
  clear hw4
  clear k00 k01 k02 k03 k10 k11 k12 k13
  obtain ⟨k00, k01, k02, k03, k10, k11, k12, k13⟩ := HX.out _ H4.out
  go_wp2_with fail
  have HXx : ∀ x : XW w4, _ := fun x => HX.out _ (H4.out.ext x.ext)
  have xk00 := fun x : XW w4 => (HXx x).1
  have xk01 := fun x : XW w4 => (HXx x).2.1
  have xk02 := fun x : XW w4 => (HXx x).2.2.1
  have xk03 := fun x : XW w4 => (HXx x).2.2.2.1
  have xk10 := fun x : XW w4 => (HXx x).2.2.2.2.1
  have xk11 := fun x : XW w4 => (HXx x).2.2.2.2.2.1
  have xk12 := fun x : XW w4 => (HXx x).2.2.2.2.2.2.1
  have xk13 := fun x : XW w4 => (HXx x).2.2.2.2.2.2.2
  clear HXx
  refine Go.HwD.wp_region_par (α := Nat) 14 [] [[], [], [1], [], [3], [1, 2, 3, 4], [], [6], [], [8], [1, 2, 3, 4, 5, 6, 7, 8, 9], [0, 1, 2, 3, 4, 5, 6, 7, 8, 9, 10], [0, 1, 2, 3, 4, 5, 6, 7, 8, 9, 10, 11], [0, 1, 2, 3, 4, 5, 6, 7, 8, 9, 10, 11, 12]]
    [none, none, none, none, none, some (Go.HwD.annVal (.int .i64 C2)), none, none, none, none, some (Go.HwD.annVal (.int .i64 C3)), some (Go.HwD.annBlk (fun g => .slice (some ⟨g, 0, none⟩) 3 3) (fun g => g) 0 (.cells #[.int .i64 C1, .int .i64 C2, .int .i64 C3] 3)), some (Go.HwD.annVal (.int .i64 (or3 C1 C2 C3))), none]
    [false, false, false, false, false, true, false, false, false, false, true, true, true, false] (by kernel_rfl) (by kernel_rfl) rfl (fun _ _ d _ _ h => by cases d <;> exact h) ?_
  simp only [List.take_succ_cons, List.take_zero, pickO, List.getElem?_cons_zero, List.getElem?_cons_succ]
  refine Go.HwD.can_pure0 rfl (fun K hK => ?_); go_simp; refine hK _ ?_; clear hK K
  refine Go.HwD.can_pure0 rfl (fun K hK => ?_); go_simp; refine hK _ ?_; clear hK K
  refine Go.HwD.can_pure0 rfl (fun K hK => ?_); go_simp; refine hK _ ?_; clear hK K
  refine Go.HwD.can_pure0 rfl (fun K hK => ?_); go_simp; refine hK _ ?_; clear hK K
  refine Go.HwD.can_pure0 rfl (fun K hK => ?_); go_simp; refine hK _ ?_; clear hK K
  refine Go.HwD.can_mem _ rfl (by go_simp) (fun W hW hG K hK => ?_) (fun K x2 hK => ?_)
  · go_simp
    refine (HC2.out W).mono ?_
    rintro e w' ⟨rfl, h⟩
    exact hK default w' h trivial
  refine hK _ ?_; clear hK K
  dsimp only [Go.HwD.annVal]
  refine Go.HwD.can_pure0 rfl (fun K hK => ?_); go_simp; refine hK _ ?_; clear hK K
  refine Go.HwD.can_pure0 rfl (fun K hK => ?_); go_simp; refine hK _ ?_; clear hK K
  refine Go.HwD.can_pure0 rfl (fun K hK => ?_); go_simp; refine hK _ ?_; clear hK K
  refine Go.HwD.can_pure0 rfl (fun K hK => ?_); go_simp; refine hK _ ?_; clear hK K
  refine Go.HwD.can_mem _ rfl (by go_simp) (fun W hW hG K hK => ?_) (fun K x2 hK => ?_)
  · go_simp
    refine (HC3.out W).mono ?_
    rintro e w' ⟨rfl, h⟩
    exact hK default w' h trivial
  refine hK _ ?_; clear hK K
  dsimp only [Go.HwD.annVal]
  refine Go.HwD.can_mem _ rfl (by go_simp) (fun W hW hG K hK => ?_) (fun K g9 hK => ?_)
  · go_simp
    exact hK W.heap.size _ (Go.HwD.ExtD.alloc W _) ⟨Nat.zero_le _, alloc0 _ _⟩
  refine hK _ ?_; clear hK K
  dsimp only [Go.HwD.annBlk]
  refine Go.HwD.can_mem _ rfl (by go_simp) (fun W hW hG K hK => ?_) (fun K x2 hK => ?_)
  · have h2 := hG _ (List.mem_append_right _ (List.mem_singleton.2 rfl)) (by show (11 : Nat) ∈ _; decide)
    go_simp
    refine (HO.out W g9 h2.2).mono ?_
    rintro e w' ⟨rfl, h⟩
    exact hK default w' h trivial
  refine hK _ ?_; clear hK K
  dsimp only [Go.HwD.annVal]
  refine Go.HwD.can_pure0 rfl (fun K hK => ?_); go_simp; refine hK _ ?_; clear hK K
  refine Go.HwD.can_end (fun w8 hW hG => ?_)
  clear hG
  have HW := Lib.hid (HZ.out.ext (H4.out.ext hW.ext))
  clear hW
  try simp only [wpMix]
  go_wp2_with fail
  go_ret
  exact ⟨rfl, HW.out⟩
theorem evless_x (L : List Sw) (i j : Nat) (S : Nat → Prop) (v : Value) (w : World) (hi : i < L.length) (hj : j < L.length) (hok : ∀ k, k < L.length → vfB (sg4 L k).1 (sg4 L k).2.1 = true) (hR : SwR S w v L) :
    Calls Try.prog 112 #[v, .int .i64 i, .int .i64 j] w fun e w' => e = .returned (.bool (earl (sg4 L i) (sg4 L j))) ∧ Ext w w' := by
  obtain ⟨a, cap, rfl⟩ := hR.shape
  obtain ⟨g, off, rfl⟩ := hR.at_ (by omega)
  have HC := Lib.hid (fun W => compare_x (sg4 L i) (sg4 L j) W (hok i hi) (hok j hj))
  obtain ⟨i0, i1, i2, i3⟩ := hR.cells hi
  obtain ⟨j0, j1, j2, j3⟩ := hR.cells hj
  have HE := Lib.hid (cmpS_earl (sg4 L i) (sg4 L j))
  rw [← HE.out]
  clear HE
  generalize cmpS (sg4 L i) (sg4 L j) = C at *
  generalize (sg4 L i).1 = p0 at *
  generalize (sg4 L i).2.1 = p1 at *
  generalize (sg4 L i).2.2.1 = p2 at *
  generalize (sg4 L i).2.2.2 = p3 at *
  generalize (sg4 L j).1 = q0 at *
  generalize (sg4 L j).2.1 = q1 at *
  generalize (sg4 L j).2.2.1 = q2 at *
  generalize (sg4 L j).2.2.2 = q3 at *
  generalize L.length = N at *
  have z1 : (0 : Int) ≤ (i : Int) := by omega
  have z2 : (i : Int) < (N : Int) := by omega
  have z3 : (0 : Int) ≤ (j : Int) := by omega
  have z4 : (j : Int) < (N : Int) := by omega
  have x0 := fun x : XW w => x.ext.cell i0 (fun h => h)
  have x1 := fun x : XW w => x.ext.cell i1 (fun h => h)
  have x2 := fun x : XW w => x.ext.cell i2 (fun h => h)
  have x3 := fun x : XW w => x.ext.cell i3 (fun h => h)
  have x4 := fun x : XW w => x.ext.cell j0 (fun h => h)
  have x5 := fun x : XW w => x.ext.cell j1 (fun h => h)
  have x6 := fun x : XW w => x.ext.cell j2 (fun h => h)
  have x7 := fun x : XW w => x.ext.cell j3 (fun h => h)
  have hrf := Upd.refl (fun _ => False) w
  clear hR hok hi hj i0 i1 i2 i3 j0 j1 j2 j3
  go_enter Try.func112, Try.ntmps112
  go_wp2_with fail
  refine wp_region_ext w (by assumption) (by kernel_rfl) (by kernel_rfl) ?_
  repeat (first | go_big_quiet_skip | (go_big_quiet_want; go_big_quiet_op; first | go_big_quiet_on | (apply Exists.intro; refine ⟨fun x => ?_, ?_⟩; (go_at_call 116; exact XW.call (HC.out x.val)); go_big_quiet_on)))
  refine wpQuiet_nil ?_
  rintro w6 ⟨⟨_, hyw6⟩, rfl⟩
  try dsimp only
  go_wp2_with fail
  go_ret
  exact ⟨rfl, hyw6⟩

end Go.Proofs.Ytncnojhbdkhcjaa

/- Swapping events. -/
namespace Go.Proofs.Ytncnojhbdkhcjaa
open Go.RowKit Go.Hw Go
set_option linter.unusedVariables false
set_option linter.unusedSimpArgs false

theorem wrapNil (a : Addr) (x y : String) (W : World) : (Builtin.ssaWrapNilChk_ #[100] 100 #[.pointer (some a), strVal x, strVal y]).run Try.prog W = .ok (.pointer (some a)) W := rfl

theorem meth_Less (bp : Nat) (v : Value) (W : World) (h : W.cell? ⟨bp, 0, none⟩ = some v) : (method 266 100 (.pointer (some ⟨bp, 0, none⟩)) "Less").run Try.prog W = .ok (112, v) W := by
  have hs : (266 : Nat) = 265 + 1 := rfl
  have u1 := Try.underlying100
  have u2 := Try.underlying101
  rw [hs]
  unfold method
  go_simp
  simp only [Try.t100]
  go_simp
  generalize ("Less".splitOn ".").getLast?.getD "Less" = nm
  unfold follow receiverAt Place.get
  go_simp
  rw [wrapNil]
  go_simp

theorem meth_Len (bp : Nat) (v : Value) (W : World) (h : W.cell? ⟨bp, 0, none⟩ = some v) : (method 266 100 (.pointer (some ⟨bp, 0, none⟩)) "Len").run Try.prog W = .ok (59, v) W := by
  have hs : (266 : Nat) = 265 + 1 := rfl
  have u1 := Try.underlying100
  have u2 := Try.underlying101
  rw [hs]
  unfold method
  go_simp
  simp only [Try.t100]
  go_simp
  generalize ("Len".splitOn ".").getLast?.getD "Len" = nm
  unfold follow receiverAt Place.get
  go_simp
  rw [wrapNil]
  go_simp

theorem meth_Swap (bp : Nat) (v : Value) (W : World) (h : W.cell? ⟨bp, 0, none⟩ = some v) : (method 266 100 (.pointer (some ⟨bp, 0, none⟩)) "Swap").run Try.prog W = .ok (115, v) W := by
  have hs : (266 : Nat) = 265 + 1 := rfl
  have u1 := Try.underlying100
  have u2 := Try.underlying101
  rw [hs]
  unfold method
  go_simp
  simp only [Try.t100]
  go_simp
  generalize ("Swap".splitOn ".").getLast?.getD "Swap" = nm
  unfold follow receiverAt Place.get
  go_simp
  rw [wrapNil]
  go_simp

theorem meth_Pop (bp : Nat) (W : World) : (method 266 100 (.pointer (some ⟨bp, 0, none⟩)) "Pop").run Try.prog W = .ok (113, .pointer (some ⟨bp, 0, none⟩)) W := by
  have hs : (266 : Nat) = 265 + 1 := rfl
  have u1 := Try.underlying100
  rw [hs]
  unfold method
  go_simp
  simp only [Try.t100]
  go_simp
  generalize ("Pop".splitOn ".").getLast?.getD "Pop" = nm
  unfold follow receiverAt Place.get
  go_simp

theorem meth_Push (bp : Nat) (W : World) : (method 266 100 (.pointer (some ⟨bp, 0, none⟩)) "Push").run Try.prog W = .ok (114, .pointer (some ⟨bp, 0, none⟩)) W := by
  have hs : (266 : Nat) = 265 + 1 := rfl
  have u1 := Try.underlying100
  rw [hs]
  unfold method
  go_simp
  simp only [Try.t100]
  go_simp
  generalize ("Push".splitOn ".").getLast?.getD "Push" = nm
  unfold follow receiverAt Place.get
  go_simp

abbrev zS : Sw := (0, 0, 0, 0)
theorem own_setS {w : World} {b : Nat} {e : TypeId} {size g cap n : Nat} {xs : List Value} (h : w.ownsRow b e size (.slice (some ⟨g, 0, none⟩) n cap) n xs) (j : Nat) (u : Value) :
    (w.setCell ⟨g, j, none⟩ u).ownsRow b e size (.slice (some ⟨g, 0, none⟩) n cap) n (xs.set j u) := by
  obtain ⟨h1, ⟨e0, _⟩ | ⟨g', cap', cur, e0, h3, h4, h5, h6, h7, h8⟩⟩ := h
  · cases e0
  · injection e0 with e1 e2 e3
    injection e1 with e1
    injection e1 with e1
    subst e1; subst e3
    refine ⟨by rw [List.length_set]; exact h1, .inr ⟨g, cap, _, rfl, h3, setBlock h4 j u, h5, h6, by rw [Array.size_setIfInBounds]; exact h7, ?_⟩⟩
    rw [← h8, Array.toList_setIfInBounds, List.take_set]
theorem sCells_set (L : List Sw) (x : Sw) : ∀ i, ((((sCells L).set (i * 4) (.int .i64 x.1)).set (i * 4 + 1) (.int .i64 x.2.1)).set (i * 4 + 2) (.int .i64 x.2.2.1)).set (i * 4 + 3) (.int .i64 x.2.2.2) = sCells (L.set i x) := by
  induction L with
  | nil => intro i; simp [sCells]
  | cons a L ih =>
    intro i
    cases i with
    | zero => rfl
    | succ i =>
      have e : ∀ y (M : List Sw), sCells (y :: M) = .int .i64 y.1 :: .int .i64 y.2.1 :: .int .i64 y.2.2.1 :: .int .i64 y.2.2.2 :: sCells M := fun _ _ => rfl
      rw [List.set_cons_succ, e, e, ← ih i]
      rw [show (i + 1) * 4 = i * 4 + 1 + 1 + 1 + 1 by omega]
      simp only [List.set_cons_succ]
theorem own_set4 {w : World} {b : Nat} {e : TypeId} {g cap n : Nat} {L : List Sw} (h : w.ownsRow b e 4 (.slice (some ⟨g, 0, none⟩) n cap) n (sCells L)) (i : Nat) (x : Sw) :
    ((((w.setCell ⟨g, i * 4, none⟩ (.int .i64 x.1)).setCell ⟨g, i * 4 + 1, none⟩ (.int .i64 x.2.1)).setCell ⟨g, i * 4 + 2, none⟩ (.int .i64 x.2.2.1)).setCell ⟨g, i * 4 + 3, none⟩ (.int .i64 x.2.2.2)).ownsRow b e 4 (.slice (some ⟨g, 0, none⟩) n cap) n (sCells (L.set i x)) := by
  rw [← sCells_set]
  exact own_setS (own_setS (own_setS (own_setS h _ _) _ _) _ _) _ _
theorem own_set4c {w : World} {b : Nat} {e : TypeId} {g cap n : Nat} {L : List Sw} (h : w.ownsRow b e 4 (.slice (some ⟨g, 0, none⟩) n cap) n (sCells L)) (i : Nat) (x0 x1 x2 x3 : Int) :
    ((((w.setCell ⟨g, i * 4, none⟩ (.int .i64 x0)).setCell ⟨g, i * 4 + 1, none⟩ (.int .i64 x1)).setCell ⟨g, i * 4 + 2, none⟩ (.int .i64 x2)).setCell ⟨g, i * 4 + 3, none⟩ (.int .i64 x3)).ownsRow b e 4 (.slice (some ⟨g, 0, none⟩) n cap) n (sCells (L.set i (x0, x1, x2, x3))) := own_set4 h i (x0, x1, x2, x3)
theorem upd_set4 {F : Nat → Prop} {a w : World} (h : Upd F a w) {g : Nat} (hp : F g ∨ a.heap.size ≤ g) (i j k m : Nat) (u v x y : Value) : Upd F a ((((w.setCell ⟨g, i, none⟩ u).setCell ⟨g, j, none⟩ v).setCell ⟨g, k, none⟩ x).setCell ⟨g, m, none⟩ y) :=
  (((h.setCell hp u).setCell hp v).setCell hp x).setCell hp y
set_option maxRecDepth 100000 in
set_option maxHeartbeats 2000000 in
theorem evswap_x (B g cap : Nat) (L : List Sw) (i j : Nat) (w : World) (hi : i < L.length) (hj : j < L.length) (hO : w.ownsRow B 51 4 (.slice (some ⟨g, 0, none⟩) L.length cap) L.length (sCells L)) :
    Calls Try.prog 115 #[.slice (some ⟨g, 0, none⟩) L.length cap, .int .i64 i, .int .i64 j] w fun e w' => e = .returned (.tuple #[]) ∧ w'.ownsRow B 51 4 (.slice (some ⟨g, 0, none⟩) L.length cap) L.length (sCells (swapL zS L i j)) ∧ Upd (fun k => k = g) w w' := by
  have hR : SwR (fun _ => True) w (.slice (some ⟨g, 0, none⟩) L.length cap) L := (SlR.of_own hO).weaken (fun _ _ => trivial)
  obtain ⟨i0, i1, i2, i3⟩ := hR.cells hi
  obtain ⟨j0, j1, j2, j3⟩ := hR.cells hj
  obtain ⟨cur, hcur⟩ := own_block hO
  have HO := Lib.hid hO
  have HW : Hid (∀ W : World, W.ownsRow B 51 4 (.slice (some ⟨g, 0, none⟩) L.length cap) L.length (sCells L) → ∀ x y, sg4 L i = x → sg4 L j = y → sCells (swapL zS L i j) = sCells ((L.set i y).set j x)) := Lib.hid (fun W h x y hx hy => by subst hx; subst hy; rfl)
  have HB := Lib.hid hcur
  clear hR hO hcur
  have HXY : Hid (∃ x y : Sw, sg4 L i = x ∧ sg4 L j = y) := Lib.hid ⟨_, _, rfl, rfl⟩
  generalize hsx : sg4 L i = x at *
  generalize hsy : sg4 L j = y at *
  have HWX := Lib.hid (HW.out w HO.out x y rfl rfl)
  clear HW HXY
  obtain ⟨p0, p1, p2, p3⟩ := x
  obtain ⟨q0, q1, q2, q3⟩ := y
  simp only [Nat.zero_add] at *
  have z1 : (0 : Int) ≤ (i : Int) := by omega
  have z2 : (i : Int) < (L.length : Int) := by omega
  have z3 : (0 : Int) ≤ (j : Int) := by omega
  have z4 : (j : Int) < (L.length : Int) := by omega
  have x0 := fun x : XW w => x.ext.cell i0 (fun h => h)
  have x1 := fun x : XW w => x.ext.cell i1 (fun h => h)
  have x2 := fun x : XW w => x.ext.cell i2 (fun h => h)
  have x3 := fun x : XW w => x.ext.cell i3 (fun h => h)
  have x4 := fun x : XW w => x.ext.cell j0 (fun h => h)
  have x5 := fun x : XW w => x.ext.cell j1 (fun h => h)
  have x6 := fun x : XW w => x.ext.cell j2 (fun h => h)
  have x7 := fun x : XW w => x.ext.cell j3 (fun h => h)
  clear hi hj hsx hsy i0 i1 i2 i3 j0 j1 j2 j3
  go_enter Try.func115, Try.ntmps115
  go_wp2_with fail
  refine wp_region_parF (α := Nat) 13 [2, 3] 15 [(13, 1), (14, 1), (15, 2)] [[], [], [], [], [], [], [4, 5], [4, 5, 6], [], [], [8, 9], [8, 9, 10], [0, 1, 4, 5, 6, 7, 8, 9, 10, 11], [0, 1, 4, 5, 6, 7, 8, 9, 10, 11, 12], [0, 1, 2, 3, 4, 5, 6, 7, 8, 9, 10, 11, 12, 13], [0, 1, 2, 3, 4, 5, 6, 7, 8, 9, 10, 11, 12, 13, 14]]
    [none, none, none, none, none, none, none, none, none, none, none, none, none]
    [false, false, false, false, false, false, false, false, false, false, false, false, false] (by kernel_rfl) (by kernel_rfl) rfl (fun _ _ d _ _ h => by cases d <;> exact h) ?_
  simp only [List.take_succ_cons, List.take_zero, pickO, List.getElem?_cons_zero, List.getElem?_cons_succ]
  iterate 13 (refine can_pure0 rfl (fun K hK => ?_); go_simp; refine hK _ ?_; clear hK K)
  refine can_end (fun w8 hW hG => ?_)
  clear hG
  have c00 : w8.cell? ⟨g, i * 4, none⟩ = some (.int .i64 p0) := x0 ⟨w8, hW⟩
  have c01 : w8.cell? ⟨g, i * 4 + 1, none⟩ = some (.int .i64 p1) := x1 ⟨w8, hW⟩
  have c02 : w8.cell? ⟨g, i * 4 + 2, none⟩ = some (.int .i64 p2) := x2 ⟨w8, hW⟩
  have c03 : w8.cell? ⟨g, i * 4 + 3, none⟩ = some (.int .i64 p3) := x3 ⟨w8, hW⟩
  have c10 : w8.cell? ⟨g, j * 4, none⟩ = some (.int .i64 q0) := x4 ⟨w8, hW⟩
  have c11 : w8.cell? ⟨g, j * 4 + 1, none⟩ = some (.int .i64 q1) := x5 ⟨w8, hW⟩
  have c12 : w8.cell? ⟨g, j * 4 + 2, none⟩ = some (.int .i64 q2) := x6 ⟨w8, hW⟩
  have c13 : w8.cell? ⟨g, j * 4 + 3, none⟩ = some (.int .i64 q3) := x7 ⟨w8, hW⟩
  clear x0 x1 x2 x3 x4 x5 x6 x7
  have H8 := Lib.hid hW
  have HO8 := Lib.hid (own_kept HO.out hW (fun _ _ h => h))
  have hb8 := hW.heap HB.out (fun h => h)
  have m0 := frozenRow hb8 (i * 4)
  have m1 := frozenRow hb8 (i * 4 + 1)
  have m2 := frozenRow hb8 (i * 4 + 2)
  have m3 := frozenRow hb8 (i * 4 + 3)
  have n0 := frozenRow hb8 (j * 4)
  have n1 := frozenRow hb8 (j * 4 + 1)
  have n2 := frozenRow hb8 (j * 4 + 2)
  have n3 := frozenRow hb8 (j * 4 + 3)
  clear hb8 hW
  refine mix_one (fun K hK _ => ?_) trivial; go_simp; refine hK _ _ trivial ?_; clear hK K
  have HO9 := Lib.hid (own_set4c HO8.out i q0 q1 q2 q3)
  have HU9 : Hid (Upd (fun k => k = g) w _) := Lib.hid (upd_set4 (F := fun k => k = g) (g := g) (H8.out.mono (fun _ _ h => h.elim)) (.inl rfl) (i * 4) (i * 4 + 1) (i * 4 + 2) (i * 4 + 3) (.int .i64 q0) (.int .i64 q1) (.int .i64 q2) (.int .i64 q3))
  clear m0 m1 m2 m3 n0 n1 n2 n3 c00 c01 c02 c03 c10 c11 c12 c13 H8 HO8
  generalize ((((w8.setCell ⟨g, i * 4, none⟩ (.int .i64 q0)).setCell ⟨g, i * 4 + 1, none⟩ (.int .i64 q1)).setCell ⟨g, i * 4 + 2, none⟩ (.int .i64 q2)).setCell ⟨g, i * 4 + 3, none⟩ (.int .i64 q3)) = w9 at *
  have hl9 : (L.set i (q0, q1, q2, q3)).length = L.length := List.length_set
  have hR9 : SwR (fun _ => True) w9 (.slice (some ⟨g, 0, none⟩) L.length cap) (L.set i (q0, q1, q2, q3)) := by
    have := HO9.out
    unfold SwR
    rw [hl9]
    exact (SlR.of_own this).weaken (fun _ _ => trivial)
  obtain ⟨j0, j1, j2, j3⟩ := hR9.cells (i := j) (by rw [hl9]; omega)
  obtain ⟨cur9, hb9⟩ := own_block HO9.out
  have n0 := frozenRow hb9 (j * 4)
  have n1 := frozenRow hb9 (j * 4 + 1)
  have n2 := frozenRow hb9 (j * 4 + 2)
  have n3 := frozenRow hb9 (j * 4 + 3)
  simp only [Nat.zero_add] at j0 j1 j2 j3
  generalize (sg4 (L.set i (q0, q1, q2, q3)) j).1 = r0 at *
  generalize (sg4 (L.set i (q0, q1, q2, q3)) j).2.1 = r1 at *
  generalize (sg4 (L.set i (q0, q1, q2, q3)) j).2.2.1 = r2 at *
  generalize (sg4 (L.set i (q0, q1, q2, q3)) j).2.2.2 = r3 at *
  clear hR9 hb9 hl9
  refine mix_one (fun K hK _ => ?_) trivial; go_simp; refine hK _ _ trivial ?_; clear hK K
  refine mix_two (fun K hK => ?_); go_simp; refine hK _ _ ?_; clear hK K
  simp only [wpMix]
  go_wp2_with fail
  go_end0
  have h1 := own_set4c HO9.out j p0 p1 p2 p3
  rw [← HWX.out] at h1
  exact ⟨rfl, h1, upd_set4 HU9.out (.inl rfl) _ _ _ _ _ _ _ _⟩

end Go.Proofs.Ytncnojhbdkhcjaa

/- Pushing events. -/
namespace Go.Proofs.Ytncnojhbdkhcjaa
open Go.RowKit Go.Hw Go
set_option linter.unusedVariables false
set_option linter.unusedSimpArgs false

theorem run_ta (v : Value) (w : World) : (Instr.typeAssert (.iface 51 v) 20 51 false).run Try.prog w = .ok v w := by
  have hu : Try.prog.underlying 51 = some (.struct (Try.prog.fieldsOf 51)) := by kernel_rfl
  unfold Instr.typeAssert
  simp only [Sem.run_bind, run_underlying hu, Result.andThen_ok]
  simp [go_sem]
/-- the queue of events -/
structure QR (B : Nat) (w : World) (bp : Nat) (v : Value) (L : List Sw) : Prop where
  lo : B ≤ bp
  cell : w.heap[bp]? = some (.cells #[v] 101 (0, 0))
  own : w.ownsRow B 51 4 v L.length (sCells L)
  ne : v.ownBlock ≠ some bp
def okS (L : List Sw) : Prop := ∀ k, k < L.length → vfB (sg4 L k).1 (sg4 L k).2.1 = true
theorem QR.hlt {B bp : Nat} {w : World} {v : Value} {L : List Sw} (h : QR B w bp v L) : bp < w.heap.size := (Array.getElem?_eq_some_iff.1 h.cell).1

set_option maxRecDepth 100000 in
set_option maxHeartbeats 2000000 in
theorem evpush_x (B bp : Nat) (v : Value) (L : List Sw) (x : Sw) (w : World) (hQ : QR B w bp v L) (hn : L.length ≤ 1000000) :
    Calls Try.prog 114 #[.pointer (some ⟨bp, 0, none⟩), .iface 51 (.agg #[.int .i64 x.1, .int .i64 x.2.1, .int .i64 x.2.2.1, .int .i64 x.2.2.2])] w fun e w' => e = .returned (.tuple #[]) ∧ (∃ v', QR B w' bp v' (L ++ [x])) ∧ Upd (fun k => B ≤ k) w w' := by
  obtain ⟨a, c, rfl⟩ := own_shape hQ.own
  have hc0 := cellRow hQ.cell 0 _ rfl
  have hbl := hQ.hlt
  have x0 := fun x : XW w => x.ext.cell hc0 (fun h => h)
  have HQ := Lib.hid hQ
  have hta := run_ta
  have HN := Lib.hid hn
  have HBL := Lib.hid hbl
  clear hQ hn hc0 hbl
  go_enter Try.func114, Try.ntmps114
  go_wp2_with fail
  refine wp_region_parF (α := Nat) 7 [0] 9 [(7, 1), (8, 1), (9, 2)] [[], [], [1], [1, 2], [], [4], [4, 5], [1, 2, 3, 4, 5, 6], [0, 1, 2, 3, 4, 5, 6, 7], [0, 1, 2, 3, 4, 5, 6, 7, 8]]
    [none, none, none, none, none, none, some (annBlk (fun g => .slice (some ⟨g, 0, none⟩) 1 1) (fun g => g) w.heap.size (.cells #[.int .i64 x.1, .int .i64 x.2.1, .int .i64 x.2.2.1, .int .i64 x.2.2.2] 51))]
    [false, false, false, false, false, false, true] (by kernel_rfl) (by kernel_rfl) rfl (fun _ _ d _ _ h => by cases d <;> exact h) ?_
  simp only [List.take_succ_cons, List.take_zero, pickO, List.getElem?_cons_zero, List.getElem?_cons_succ]
  iterate 6 (refine can_pure0 rfl (fun K hK => ?_); go_simp; refine hK _ ?_; clear hK K)
  refine can_mem _ rfl (by go_simp) (fun W hW hG K hK => ?_) (fun K g9 hK => ?_)
  · go_simp
    exact hK W.heap.size _ ((Upd.refl _ W).alloc _) ⟨hW.size, alloc0 _ _⟩
  refine hK _ ?_; clear hK K
  dsimp only [annBlk]
  refine can_end (fun w8 hW hG => ?_)
  obtain ⟨hb9, hg9⟩ := hG _ (List.mem_append_right _ (List.mem_singleton.2 rfl))
  clear hG x0
  have hO8 := own_kept HQ.out.own hW (fun _ _ h => h)
  have hq8 := hW.heap HQ.out.cell (fun h => h)
  have hE8 : Upd (fun k => B ≤ k) w w8 := hW.mono (fun _ _ h => h.elim)
  have hs8 := hW.size
  have HNW : Hid (∀ j u, [Value.int .i64 x.1, .int .i64 x.2.1, .int .i64 x.2.2.1, .int .i64 x.2.2.2][j]? = some u → w8.cell? ((⟨g9, 0, none⟩ : Addr).add j) = some u) := Lib.hid (fun j u hj => by
    match j, hj with
    | 0, hj => simp at hj; subst hj; simpa [Addr.add] using cellRow hg9 0 _ rfl
    | 1, hj => simp at hj; subst hj; simpa [Addr.add] using cellRow hg9 1 _ rfl
    | 2, hj => simp at hj; subst hj; simpa [Addr.add] using cellRow hg9 2 _ rfl
    | 3, hj => simp at hj; subst hj; simpa [Addr.add] using cellRow hg9 3 _ rfl)
  clear hW
  obtain ⟨i0', hi, hz0, hz1, hz2⟩ := info_parts info51
  have hn := HN.out
  refine mix_one (fun K hK _ => ?_) trivial
  rw [if_pos (by rfl)]
  have hbw : B ≤ w8.heap.size := by have := HQ.out.lo; have := HBL.out; omega
  refine step_append_at _ (.tmp 7) (.tmp 10) 101 rfl B 51 i0' (.agg #[.int .i64 0, .int .i64 0, .int .i64 0, .int .i64 0]) 4 32 Try.underlying101 hi hz0 hz1 hz2 rfl (by decide) _ _ _ rfl hO8 ⟨g9, 0, none⟩ 1 1 [.int .i64 x.1, .int .i64 x.2.1, .int .i64 x.2.2.1, .int .i64 x.2.2.2] rfl rfl HNW.out (by intro u hu; simp at hu; rcases hu with rfl | rfl | rfl | rfl <;> rfl) (by unfold maxLen; omega) (by omega) hbw ?_
  intro v5 w5 hG
  obtain ⟨a5, c5, hv5⟩ := own_shape hG.own
  have hlb : bp < w8.heap.size := by have := HBL.out; omega
  have hq5 : w5.heap[bp]? = some (.cells #[.slice a L.length c] 101 (0, 0)) := hG.upd.heap hq8 (fun h => HQ.out.ne h)
  have hU5 : Upd (fun k => B ≤ k) w w5 := hE8.trans' hG.upd (fun i hi e => (hO8.lt i e).1)
  have hne5 : v5.ownBlock ≠ some bp := by
    rcases hG.where_ with h | h
    · rw [h]; exact HQ.out.ne
    · rw [h]; intro e; injection e with e; omega
  have hO5 : w5.ownsRow B 51 4 v5 (L ++ [x]).length (sCells (L ++ [x])) := by rw [sCells_snoc, List.length_append]; exact hG.own
  have H5 := Lib.hid (And.intro hO5 (And.intro hU5 (And.intro hne5 hq5)))
  have m0 := frozenRow hq5 0
  have mc := cellRow hq5 0 _ rfl
  subst hv5
  refine hK _ _ trivial ?_
  clear hG hO5 hU5 hne5 hq5 hlb hO8 hq8 hE8 hs8 HNW hn hK K hbw hb9 hg9 hi hz0 hz1 hz2
  refine mix_one (fun K hK _ => ?_) trivial; go_simp; refine hK _ _ trivial ?_; clear hK K
  refine mix_two (fun K hK => ?_); go_simp; refine hK _ _ ?_; clear hK K
  simp only [wpMix]
  go_wp2_with fail
  go_end0
  obtain ⟨hO, hU, hn, hq⟩ := H5.out
  have hst : Upd (fun k => k = bp) w5 (w5.setCell ⟨bp, 0, none⟩ (.slice a5 (L.length + 1) c5)) := (Upd.refl (fun k => k = bp) w5).setCell (p := ⟨bp, 0, none⟩) (.inl rfl) _
  refine ⟨rfl, ⟨_, HQ.out.lo, setBlock hq 0 _, own_kept hO hst (fun k hk e => ?_), hn⟩, hU.trans' hst (fun i hi e => ?_)⟩
  · subst e; exact hn hk
  · subst e; exact HQ.out.lo
theorem evlen_x (a : Option Addr) (n c : Nat) (w : World) : Calls Try.prog 59 #[.slice a n c] w fun e w' => e = .returned (.int .i64 n) ∧ w' = w := by
  go_enter Try.func59, Try.ntmps59
  go_wp2_with fail
  go_ret
  exact ⟨rfl, rfl⟩

end Go.Proofs.Ytncnojhbdkhcjaa

/- Up. -/
namespace Go.Proofs.Ytncnojhbdkhcjaa
open Go.RowKit Go.Hw Go
set_option linter.unusedVariables false
set_option linter.unusedSimpArgs false

theorem okS_perm {L M : List Sw} (h : okS L) (hp : M.Perm L) : okS M := fun k hk => by
  have hmem : sg4 M k ∈ M := by unfold sg4; rw [List.getD_eq_getElem?_getD, List.getElem?_eq_getElem hk]; exact List.getElem_mem hk
  obtain ⟨i, hi, he⟩ := List.mem_iff_getElem.1 (hp.mem_iff.1 hmem)
  have := h i hi
  unfold sg4 at this ⊢
  rw [List.getD_eq_getElem?_getD, List.getElem?_eq_getElem hi] at this
  unfold sg4 at he
  rw [← he]
  exact this
def okE (x : Sw) : Prop := vfB x.1 x.2.1 = true
theorem okE_pos {x : Sw} (h : okE x) : 0 < x.2.1 := by obtain ⟨h1, h2, h3⟩ := vf_bd h; omega
theorem hord : HOrd earl okE := ⟨fun h => earl_asymm h, fun hx hy hv h1 h2 => earl_ntrans (okE_pos hx) (okE_pos hy) (okE_pos hv) h1 h2⟩
set_option maxRecDepth 100000 in
set_option maxHeartbeats 2000000 in
theorem up_x (B bp g cap : Nat) (L : List Sw) (j : Nat) (w : World) (hQ : QR B w bp (.slice (some ⟨g, 0, none⟩) L.length cap) L) (hok : okS L) (hj : j < L.length) (hn : L.length ≤ 1000000) (hH : HeapU earl zS L.length L j) :
    Calls Try.prog 75 #[.iface 100 (.pointer (some ⟨bp, 0, none⟩)), .int .i64 j] w fun e w' => e = .returned (.tuple #[]) ∧ ∃ M, M.Perm L ∧ HeapN earl zS L.length M ∧ QR B w' bp (.slice (some ⟨g, 0, none⟩) L.length cap) M ∧ Upd (fun k => k = g) w w' := by
  have HQ := Lib.hid hQ
  have HOK := Lib.hid hok
  have HN := Lib.hid hn
  have hgb : g ≠ bp := fun e => hQ.ne (by rw [e]; rfl)
  have HG := Lib.hid hgb
  have HJ := Lib.hid (And.intro hj hH)
  clear hQ hok hn hH hgb
  go_enter Try.func75, Try.ntmps75
  go_wp2_with fail
  go_loopg [1] j (fun gk i wr => ∃ (k : Nat) (M : List Sw), i = .int .i64 k ∧ gk = 0 + k ∧ k ≤ j ∧ Hid (M.Perm L) ∧ Hid (HeapU earl zS L.length M k) ∧ Hid (QR B wr bp (.slice (some ⟨g, 0, none⟩) L.length cap) M) ∧ Hid (Upd (fun k => k = g) w wr))
  case atStart => exact ⟨j, L, rfl, (Nat.zero_add j).symm, Nat.le_refl _, Lib.hid (List.Perm.refl _), Lib.hid HJ.out.2, HQ, Lib.hid (Upd.refl _ _)⟩
  case round =>
    obtain ⟨k, M, rfl, rfl, hk, HP, HH, HR, HE⟩ := hrel
    have hcell := cellRow HR.out.cell 0 _ rfl
    have hm1 := fun W (h : Ext wr W) => meth_Less bp _ W (h.cell hcell (fun h => h))
    have hm1' := hm1 wr (Upd.refl _ _)
    have hm2 := Lib.hid (fun W (h : Ext wr W) => meth_Swap bp _ W (h.cell hcell (fun h => h)))
    clear hm1 hcell
    have hlen : M.length = L.length := HP.out.length_eq
    cases k with
    | zero =>
      have HF := Lib.hid (heapU_zero HH.out)
      clear hm2
      go_wp2_with fail
      go_end0
      exact ⟨rfl, M, HP.out, HF.out, HR.out, HE.out⟩
    | succ k =>
      have hkl : k + 1 < L.length := by omega
      have hkn : k ≤ 1000000 := by have := HN.out; omega
      have HPK := Lib.hid (show parH (k + 1) = k / 2 from rfl)
      obtain ⟨p, hp⟩ : ∃ p : Nat, k / 2 = p := ⟨_, rfl⟩
      have hpi : ((k : Int) / 2) = (p : Int) := by omega
      have hpk : p < k + 1 := by omega
      have ht1 : ((p : Int) == (k : Int) + 1) = false := by simp; omega
      have HLS : Hid (∀ x y : Int, x = ((k + 1 : Nat) : Int) → y = (p : Int) → Calls Try.prog 112 #[(.slice (some ⟨g, 0, none⟩) L.length cap), .int .i64 x, .int .i64 y] wr fun e w' => e = .returned (.bool (earl (sg4 M (k + 1)) (sg4 M p))) ∧ Ext wr w') := Lib.hid (fun x y hx hy => by
        subst hx; subst hy
        have hR : SwR (fun _ => True) wr (.slice (some ⟨g, 0, none⟩) L.length cap) M := by unfold SwR; have := HR.out.own; rw [hlen] at this ⊢; exact (SlR.of_own this).weaken (fun _ _ => trivial)
        exact evless_x M (k + 1) p _ _ wr (by omega) (by omega) (okS_perm HOK.out HP.out) hR)
      have HSW : Hid (∀ W (x y : Int), Ext wr W → x = (p : Int) → y = ((k + 1 : Nat) : Int) → Calls Try.prog 115 #[(.slice (some ⟨g, 0, none⟩) L.length cap), .int .i64 x, .int .i64 y] W fun e w' => e = .returned (.tuple #[]) ∧ QR B w' bp (.slice (some ⟨g, 0, none⟩) L.length cap) (swapL zS M p (k + 1)) ∧ Upd (fun k => k = g) W w') := Lib.hid (fun W x y hW hx hy => by
        subst hx; subst hy
        have hO := own_kept HR.out.own hW (fun _ _ h => h)
        have hx := evswap_x B g cap M p (k + 1) W (by omega) (by omega) (by rw [← hlen] at hO; exact hO)
        refine Calls.mono (by rw [hlen] at hx; exact hx) ?_
        rintro e w' ⟨rfl, h1, h2⟩
        refine ⟨rfl, ⟨HR.out.lo, h2.heap (hW.heap HR.out.cell (fun h => h)) (fun e => HG.out e.symm), ?_, HR.out.ne⟩, h2⟩
        rw [swapL_len, hlen]
        exact h1)
      have HSTEP := Lib.hid (fun (h : earl (sg4 M (k + 1)) (sg4 M p) = true) => heapU_step (z := zS) (j := k + 1) hord (fun i hi => okS_perm HOK.out HP.out i hi) (by omega) HH.out (by omega) hkl (by rw [HPK.out, hp]; exact h))
      have HDONE := Lib.hid (fun (h : earl (sg4 M (k + 1)) (sg4 M p) = false) => heapU_done HH.out (by rw [HPK.out, hp]; exact h))
      have HPP := Lib.hid ((swapL_perm zS M p (k + 1) (by omega) (by omega)).trans HP.out)
      rw [HPK.out, hp] at HSTEP
      clear hp hlen HPK
      generalize hB : earl (sg4 M (k + 1)) (sg4 M p) = C at *
      clear hB
      cases C
      · have HF := Lib.hid (HDONE.out rfl)
        clear HSTEP HDONE HSW hm2
        go_wp2_with fail
        refine Calls.mono (HLS.out _ _ ?_ ?_) ?_
        · omega
        · omega
        rintro e w4 ⟨rfl, hw4⟩
        have H4 := Lib.hid hw4
        clear hw4 hm1'
        go_wp2_with fail
        go_end0
        refine ⟨rfl, M, HP.out, HF.out, ⟨HR.out.lo, H4.out.heap HR.out.cell (fun h => h), own_kept HR.out.own H4.out (fun _ _ h => h), HR.out.ne⟩, HE.out.trans' H4.out (fun _ _ h => h.elim)⟩
      · have HF := Lib.hid (HSTEP.out rfl)
        clear HSTEP HDONE
        go_wp2_with fail
        refine Calls.mono (HLS.out _ _ ?_ ?_) ?_
        · omega
        · omega
        rintro e w4 ⟨rfl, hw4⟩
        have H4 := Lib.hid hw4
        have hm4 := hm2.out w4 hw4
        clear hw4 hm1'
        go_wp2_with fail
        refine Calls.mono (HSW.out _ _ _ H4.out ?_ ?_) ?_
        · omega
        · omega
        rintro e w5 ⟨rfl, hQ5, hU5⟩
        have HQ5 := Lib.hid hQ5
        have HE5 := Lib.hid ((HE.out.trans' H4.out (fun _ _ h => h.elim)).trans hU5)
        clear hQ5 hU5 hm4
        go_wp2_with fail
        go_roundg (0 + p)
        case measure => omega
        case rel => exact ⟨p, swapL zS M p (k + 1), rfl, rfl, by omega, HPP, HF, HQ5, HE5⟩

end Go.Proofs.Ytncnojhbdkhcjaa

/- Down. -/
namespace Go.Proofs.Ytncnojhbdkhcjaa
open Go.RowKit Go.Hw Go
set_option linter.unusedVariables false
set_option linter.unusedSimpArgs false
set_option maxRecDepth 100000 in
set_option maxHeartbeats 2000000 in
theorem down_x (B bp g cap N : Nat) (L : List Sw) (w : World) (hQ : QR B w bp (.slice (some ⟨g, 0, none⟩) L.length cap) L) (hok : okS L) (hN : N ≤ L.length) (hn : L.length ≤ 1000000) (hH : HeapD earl zS N L 0) :
    Calls Try.prog 76 #[.iface 100 (.pointer (some ⟨bp, 0, none⟩)), .int .i64 0, .int .i64 N] w fun e w' => (∃ b, e = .returned (.bool b)) ∧ ∃ M, M.Perm L ∧ HeapN earl zS N M ∧ (∀ q, N ≤ q → sg4 M q = sg4 L q) ∧ QR B w' bp (.slice (some ⟨g, 0, none⟩) L.length cap) M ∧ Upd (fun k => k = g) w w' := by
  have HQ := Lib.hid hQ
  have HOK := Lib.hid hok
  have HN := Lib.hid hn
  have hgb : g ≠ bp := fun e => hQ.ne (by rw [e]; rfl)
  have HG := Lib.hid hgb
  have HJ := Lib.hid hH
  clear hQ hok hn hH hgb
  go_enter Try.func76, Try.ntmps76
  go_wp2_with fail
  go_loopg [7] N (fun gk iv wr => ∃ (i : Nat) (M : List Sw), iv = .int .i64 i ∧ gk = N - i ∧ i ≤ 1000000 ∧ Hid (M.Perm L) ∧ Hid (HeapD earl zS N M i) ∧ Hid (∀ q, N ≤ q → sg4 M q = sg4 L q) ∧ Hid (QR B wr bp (.slice (some ⟨g, 0, none⟩) L.length cap) M) ∧ Hid (Upd (fun k => k = g) w wr))
  case atStart => exact ⟨0, L, rfl, rfl, by omega, Lib.hid (List.Perm.refl _), HJ, Lib.hid (fun _ _ => rfl), HQ, Lib.hid (Upd.refl _ _)⟩
  case round =>
    obtain ⟨i, M, rfl, rfl, hi, HP, HH, HK, HR, HE⟩ := hrel
    have hcell := cellRow HR.out.cell 0 _ rfl
    have hm1 := Lib.hid (fun W (h : Ext wr W) => meth_Less bp _ W (h.cell hcell (fun h => h)))
    have hm2 := Lib.hid (fun W (h : Ext wr W) => meth_Swap bp _ W (h.cell hcell (fun h => h)))
    have hm1' := hm1.out wr (Upd.refl _ _)
    have hlen : M.length = L.length := HP.out.length_eq
    have hnn := HN.out
    clear hcell
    by_cases hlt : 2 * i + 1 < N
    · have z1 : decide (2 * (i : Int) + 1 < (N : Int)) = true := decide_eq_true (by omega)
      have z2 : decide ((N : Int) ≤ 2 * (i : Int) + 1) = false := decide_eq_false (by omega)
      have z3 : decide (2 * (i : Int) + 1 < 0) = false := decide_eq_false (by omega)
      have HLS : Hid (∀ W (x y : Nat), Ext wr W → x < L.length → y < L.length → Calls Try.prog 112 #[(.slice (some ⟨g, 0, none⟩) L.length cap), .int .i64 x, .int .i64 y] W fun e w' => e = .returned (.bool (earl (sg4 M x) (sg4 M y))) ∧ Ext W w') := Lib.hid (fun W x y hW hx hy => by
        have hR : SwR (fun _ => True) W (.slice (some ⟨g, 0, none⟩) L.length cap) M := by unfold SwR; have := own_kept HR.out.own hW (fun _ _ h => h); rw [hlen] at this ⊢; exact (SlR.of_own this).weaken (fun _ _ => trivial)
        exact evless_x M x y _ _ W (by omega) (by omega) (okS_perm HOK.out HP.out) hR)
      have HSW : Hid (∀ W (x y : Nat), Ext wr W → x < L.length → y < L.length → Calls Try.prog 115 #[(.slice (some ⟨g, 0, none⟩) L.length cap), .int .i64 x, .int .i64 y] W fun e w' => e = .returned (.tuple #[]) ∧ QR B w' bp (.slice (some ⟨g, 0, none⟩) L.length cap) (swapL zS M x y) ∧ Upd (fun k => k = g) W w') := Lib.hid (fun W x y hW hx hy => by
        have hO := own_kept HR.out.own hW (fun _ _ h => h)
        have hx := evswap_x B g cap M x y W (by omega) (by omega) (by rw [← hlen] at hO; exact hO)
        refine Calls.mono (by rw [hlen] at hx; exact hx) ?_
        rintro e w' ⟨rfl, h1, h2⟩
        refine ⟨rfl, ⟨HR.out.lo, h2.heap (hW.heap HR.out.cell (fun h => h)) (fun e => HG.out e.symm), ?_, HR.out.ne⟩, h2⟩
        rw [swapL_len, hlen]
        exact h1)
      by_cases h2 : 2 * i + 2 < N
      · have z4 : decide (2 * (i : Int) + 1 + 1 < (N : Int)) = true := decide_eq_true (by omega)
        have HL1 : Hid (∀ x y : Int, x = ((2 * i + 2 : Nat) : Int) → y = ((2 * i + 1 : Nat) : Int) → Calls Try.prog 112 #[(.slice (some ⟨g, 0, none⟩) L.length cap), .int .i64 x, .int .i64 y] wr fun e w' => e = .returned (.bool (earl (sg4 M (2 * i + 2)) (sg4 M (2 * i + 1)))) ∧ Ext wr w') := Lib.hid (fun x y hx hy => by subst hx; subst hy; exact HLS.out wr _ _ (Upd.refl _ _) (by omega) (by omega))
        cases hC1 : earl (sg4 M (2 * i + 2)) (sg4 M (2 * i + 1))
        · have HCH : Hid (childH earl zS N M i = 2 * i + 1) := Lib.hid (by unfold childH; rw [if_neg]; intro h; have h3 := h.2; unfold sg4 at hC1; rw [hC1] at h3; cases h3)
          rw [hC1] at HL1
          clear hC1
          have HLS2 : Hid (∀ W (x y : Int), Ext wr W → x = ((2 * i + 1 : Nat) : Int) → y = (i : Int) → Calls Try.prog 112 #[(.slice (some ⟨g, 0, none⟩) L.length cap), .int .i64 x, .int .i64 y] W fun e w' => e = .returned (.bool (earl (sg4 M (2 * i + 1)) (sg4 M i))) ∧ Ext W w') := Lib.hid (fun W x y hW hx hy => by subst hx; subst hy; exact HLS.out W _ _ hW (by omega) (by omega))
          have HSW2 : Hid (∀ W (x y : Int), Ext wr W → x = (i : Int) → y = ((2 * i + 1 : Nat) : Int) → Calls Try.prog 115 #[(.slice (some ⟨g, 0, none⟩) L.length cap), .int .i64 x, .int .i64 y] W fun e w' => e = .returned (.tuple #[]) ∧ QR B w' bp (.slice (some ⟨g, 0, none⟩) L.length cap) (swapL zS M i (2 * i + 1)) ∧ Upd (fun k => k = g) W w') := Lib.hid (fun W x y hW hx hy => by subst hx; subst hy; exact HSW.out W i (2 * i + 1) hW (by omega) (by omega))
          have HDONE := Lib.hid (fun (h : earl (sg4 M (2 * i + 1)) (sg4 M i) = false) => heapD_done (z := zS) (i := i) hord (fun q hq => okS_perm HOK.out HP.out q hq) (by omega) HH.out (by omega) (by rw [HCH.out]; exact h))
          have HSTEP := Lib.hid (fun (h : earl (sg4 M (2 * i + 1)) (sg4 M i) = true) => heapD_step (z := zS) (i := i) hord (fun q hq => okS_perm HOK.out HP.out q hq) (by omega) HH.out (by omega) (by rw [HCH.out]; exact h))
          rw [HCH.out] at HSTEP
          have HPP := Lib.hid ((swapL_perm zS M i (2 * i + 1) (by omega) (by omega)).trans HP.out)
          have HKK : Hid (∀ q, N ≤ q → sg4 (swapL zS M i (2 * i + 1)) q = sg4 L q) := Lib.hid (fun q hq => by
            have := swapL_get zS M i (2 * i + 1) q (by omega) (by omega)
            unfold sg4
            rw [this, if_neg (by omega), if_neg (by omega)]
            exact HK.out q hq)
          clear HLS HSW hlen HCH
          generalize hB2 : earl (sg4 M (2 * i + 1)) (sg4 M i) = C2 at *
          clear hB2
          go_wp2_with fail
          refine Calls.mono (HL1.out _ _ ?_ ?_) ?_
          · omega
          · omega
          rintro e w4 ⟨rfl, hw4⟩
          have H4 := Lib.hid hw4
          have hm4 := hm1.out w4 hw4
          clear hw4 hm1' HL1
          cases C2
          · have HF := Lib.hid (HDONE.out rfl)
            clear HSTEP HDONE HSW2 hm2
            go_wp2_with fail
            refine Calls.mono (HLS2.out _ _ _ H4.out ?_ ?_) ?_
            · omega
            · omega
            rintro e w6 ⟨rfl, hw6⟩
            have H6 := Lib.hid (Upd.trans (H4.out) hw6)
            clear hw6
            go_wp2_with fail
            go_ret
            exact ⟨⟨_, rfl⟩, M, HP.out, HF.out, HK.out, ⟨HR.out.lo, H6.out.heap HR.out.cell (fun h => h), own_kept HR.out.own H6.out (fun _ _ h => h), HR.out.ne⟩, HE.out.trans' H6.out (fun _ _ h => h.elim)⟩
          · have HF := Lib.hid (HSTEP.out rfl)
            clear HSTEP HDONE
            go_wp2_with fail
            refine Calls.mono (HLS2.out _ _ _ H4.out ?_ ?_) ?_
            · omega
            · omega
            rintro e w6 ⟨rfl, hw6⟩
            have H6 := Lib.hid (Upd.trans (H4.out) hw6)
            have hm6 := hm2.out w6 H6.out
            clear hw6
            go_wp2_with fail
            refine Calls.mono (HSW2.out _ _ _ H6.out ?_ ?_) ?_
            · omega
            · omega
            rintro e w7 ⟨rfl, hQ7, hU7⟩
            have HQ7 := Lib.hid hQ7
            have HE7 := Lib.hid ((HE.out.trans' H6.out (fun _ _ h => h.elim)).trans hU7)
            clear hQ7 hU7 hm6
            go_wp2_with fail
            go_roundg (N - (2 * i + 1))
            case measure => omega
            case rel => exact ⟨2 * i + 1, swapL zS M i (2 * i + 1), by go_num, rfl, by omega, HPP, HF, HKK, HQ7, HE7⟩
        · have HCH : Hid (childH earl zS N M i = 2 * i + 2) := Lib.hid (by unfold childH; rw [if_pos]; exact ⟨h2, hC1⟩)
          rw [hC1] at HL1
          clear hC1
          have HLS2 : Hid (∀ W (x y : Int), Ext wr W → x = ((2 * i + 2 : Nat) : Int) → y = (i : Int) → Calls Try.prog 112 #[(.slice (some ⟨g, 0, none⟩) L.length cap), .int .i64 x, .int .i64 y] W fun e w' => e = .returned (.bool (earl (sg4 M (2 * i + 2)) (sg4 M i))) ∧ Ext W w') := Lib.hid (fun W x y hW hx hy => by subst hx; subst hy; exact HLS.out W _ _ hW (by omega) (by omega))
          have HSW2 : Hid (∀ W (x y : Int), Ext wr W → x = (i : Int) → y = ((2 * i + 2 : Nat) : Int) → Calls Try.prog 115 #[(.slice (some ⟨g, 0, none⟩) L.length cap), .int .i64 x, .int .i64 y] W fun e w' => e = .returned (.tuple #[]) ∧ QR B w' bp (.slice (some ⟨g, 0, none⟩) L.length cap) (swapL zS M i (2 * i + 2)) ∧ Upd (fun k => k = g) W w') := Lib.hid (fun W x y hW hx hy => by subst hx; subst hy; exact HSW.out W i (2 * i + 2) hW (by omega) (by omega))
          have HDONE := Lib.hid (fun (h : earl (sg4 M (2 * i + 2)) (sg4 M i) = false) => heapD_done (z := zS) (i := i) hord (fun q hq => okS_perm HOK.out HP.out q hq) (by omega) HH.out (by omega) (by rw [HCH.out]; exact h))
          have HSTEP := Lib.hid (fun (h : earl (sg4 M (2 * i + 2)) (sg4 M i) = true) => heapD_step (z := zS) (i := i) hord (fun q hq => okS_perm HOK.out HP.out q hq) (by omega) HH.out (by omega) (by rw [HCH.out]; exact h))
          rw [HCH.out] at HSTEP
          have HPP := Lib.hid ((swapL_perm zS M i (2 * i + 2) (by omega) (by omega)).trans HP.out)
          have HKK : Hid (∀ q, N ≤ q → sg4 (swapL zS M i (2 * i + 2)) q = sg4 L q) := Lib.hid (fun q hq => by
            have := swapL_get zS M i (2 * i + 2) q (by omega) (by omega)
            unfold sg4
            rw [this, if_neg (by omega), if_neg (by omega)]
            exact HK.out q hq)
          clear HLS HSW hlen HCH
          generalize hB2 : earl (sg4 M (2 * i + 2)) (sg4 M i) = C2 at *
          clear hB2
          go_wp2_with fail
          refine Calls.mono (HL1.out _ _ ?_ ?_) ?_
          · omega
          · omega
          rintro e w4 ⟨rfl, hw4⟩
          have H4 := Lib.hid hw4
          have hm4 := hm1.out w4 hw4
          clear hw4 hm1' HL1
          cases C2
          · have HF := Lib.hid (HDONE.out rfl)
            clear HSTEP HDONE HSW2 hm2
            go_wp2_with fail
            refine Calls.mono (HLS2.out _ _ _ H4.out ?_ ?_) ?_
            · omega
            · omega
            rintro e w6 ⟨rfl, hw6⟩
            have H6 := Lib.hid (Upd.trans (H4.out) hw6)
            clear hw6
            go_wp2_with fail
            go_ret
            exact ⟨⟨_, rfl⟩, M, HP.out, HF.out, HK.out, ⟨HR.out.lo, H6.out.heap HR.out.cell (fun h => h), own_kept HR.out.own H6.out (fun _ _ h => h), HR.out.ne⟩, HE.out.trans' H6.out (fun _ _ h => h.elim)⟩
          · have HF := Lib.hid (HSTEP.out rfl)
            clear HSTEP HDONE
            go_wp2_with fail
            refine Calls.mono (HLS2.out _ _ _ H4.out ?_ ?_) ?_
            · omega
            · omega
            rintro e w6 ⟨rfl, hw6⟩
            have H6 := Lib.hid (Upd.trans (H4.out) hw6)
            have hm6 := hm2.out w6 H6.out
            clear hw6
            go_wp2_with fail
            refine Calls.mono (HSW2.out _ _ _ H6.out ?_ ?_) ?_
            · omega
            · omega
            rintro e w7 ⟨rfl, hQ7, hU7⟩
            have HQ7 := Lib.hid hQ7
            have HE7 := Lib.hid ((HE.out.trans' H6.out (fun _ _ h => h.elim)).trans hU7)
            clear hQ7 hU7 hm6
            go_wp2_with fail
            go_roundg (N - (2 * i + 2))
            case measure => omega
            case rel => exact ⟨2 * i + 2, swapL zS M i (2 * i + 2), by go_num, rfl, by omega, HPP, HF, HKK, HQ7, HE7⟩
      · have z4 : decide (2 * (i : Int) + 1 + 1 < (N : Int)) = false := decide_eq_false (by omega)
        have HCH : Hid (childH earl zS N M i = 2 * i + 1) := Lib.hid (by unfold childH; rw [if_neg]; intro h; omega)
        have H4 := Lib.hid (Upd.refl (fun _ => False) wr)
        have HLS2 : Hid (∀ W (x y : Int), Ext wr W → x = ((2 * i + 1 : Nat) : Int) → y = (i : Int) → Calls Try.prog 112 #[(.slice (some ⟨g, 0, none⟩) L.length cap), .int .i64 x, .int .i64 y] W fun e w' => e = .returned (.bool (earl (sg4 M (2 * i + 1)) (sg4 M i))) ∧ Ext W w') := Lib.hid (fun W x y hW hx hy => by subst hx; subst hy; exact HLS.out W _ _ hW (by omega) (by omega))
        have HSW2 : Hid (∀ W (x y : Int), Ext wr W → x = (i : Int) → y = ((2 * i + 1 : Nat) : Int) → Calls Try.prog 115 #[(.slice (some ⟨g, 0, none⟩) L.length cap), .int .i64 x, .int .i64 y] W fun e w' => e = .returned (.tuple #[]) ∧ QR B w' bp (.slice (some ⟨g, 0, none⟩) L.length cap) (swapL zS M i (2 * i + 1)) ∧ Upd (fun k => k = g) W w') := Lib.hid (fun W x y hW hx hy => by subst hx; subst hy; exact HSW.out W i (2 * i + 1) hW (by omega) (by omega))
        have HDONE := Lib.hid (fun (h : earl (sg4 M (2 * i + 1)) (sg4 M i) = false) => heapD_done (z := zS) (i := i) hord (fun q hq => okS_perm HOK.out HP.out q hq) (by omega) HH.out (by omega) (by rw [HCH.out]; exact h))
        have HSTEP := Lib.hid (fun (h : earl (sg4 M (2 * i + 1)) (sg4 M i) = true) => heapD_step (z := zS) (i := i) hord (fun q hq => okS_perm HOK.out HP.out q hq) (by omega) HH.out (by omega) (by rw [HCH.out]; exact h))
        rw [HCH.out] at HSTEP
        have HPP := Lib.hid ((swapL_perm zS M i (2 * i + 1) (by omega) (by omega)).trans HP.out)
        have HKK : Hid (∀ q, N ≤ q → sg4 (swapL zS M i (2 * i + 1)) q = sg4 L q) := Lib.hid (fun q hq => by
          have := swapL_get zS M i (2 * i + 1) q (by omega) (by omega)
          unfold sg4
          rw [this, if_neg (by omega), if_neg (by omega)]
          exact HK.out q hq)
        clear HLS HSW hlen HCH
        generalize hB2 : earl (sg4 M (2 * i + 1)) (sg4 M i) = C2 at *
        clear hB2
        cases C2
        · have HF := Lib.hid (HDONE.out rfl)
          clear HSTEP HDONE HSW2 hm2
          go_wp2_with fail
          refine Calls.mono (HLS2.out _ _ _ H4.out ?_ ?_) ?_
          · omega
          · omega
          rintro e w6 ⟨rfl, hw6⟩
          have H6 := Lib.hid (Upd.trans (H4.out) hw6)
          clear hw6
          go_wp2_with fail
          go_ret
          exact ⟨⟨_, rfl⟩, M, HP.out, HF.out, HK.out, ⟨HR.out.lo, H6.out.heap HR.out.cell (fun h => h), own_kept HR.out.own H6.out (fun _ _ h => h), HR.out.ne⟩, HE.out.trans' H6.out (fun _ _ h => h.elim)⟩
        · have HF := Lib.hid (HSTEP.out rfl)
          clear HSTEP HDONE
          go_wp2_with fail
          refine Calls.mono (HLS2.out _ _ _ H4.out ?_ ?_) ?_
          · omega
          · omega
          rintro e w6 ⟨rfl, hw6⟩
          have H6 := Lib.hid (Upd.trans (H4.out) hw6)
          have hm6 := hm2.out w6 H6.out
          clear hw6
          go_wp2_with fail
          refine Calls.mono (HSW2.out _ _ _ H6.out ?_ ?_) ?_
          · omega
          · omega
          rintro e w7 ⟨rfl, hQ7, hU7⟩
          have HQ7 := Lib.hid hQ7
          have HE7 := Lib.hid ((HE.out.trans' H6.out (fun _ _ h => h.elim)).trans hU7)
          clear hQ7 hU7 hm6
          go_wp2_with fail
          go_roundg (N - (2 * i + 1))
          case measure => omega
          case rel => exact ⟨2 * i + 1, swapL zS M i (2 * i + 1), by go_num, rfl, by omega, HPP, HF, HKK, HQ7, HE7⟩
    · have z1 : decide ((N : Int) ≤ 2 * (i : Int) + 1) = true := decide_eq_true (by omega)
      have HF := Lib.hid (heapD_leaf HH.out (by omega))
      clear hm1 hm2 hm1'
      go_wp2_with fail
      go_ret
      exact ⟨⟨_, rfl⟩, M, HP.out, HF.out, HK.out, HR.out, HE.out⟩

end Go.Proofs.Ytncnojhbdkhcjaa

/- Popping events. -/
namespace Go.Proofs.Ytncnojhbdkhcjaa
open Go.RowKit Go.Hw Go
set_option linter.unusedVariables false
set_option linter.unusedSimpArgs false

theorem own_take {w : World} {b : Nat} {e : TypeId} {size g cap n : Nat} {xs : List Value} (h : w.ownsRow b e size (.slice (some ⟨g, 0, none⟩) n cap) n xs) (k : Nat) (hk : k ≤ n) :
    w.ownsRow b e size (.slice (some ⟨g, 0, none⟩) k cap) k (xs.take (k * size)) := by
  have hle : k * size ≤ n * size := Nat.mul_le_mul_right _ hk
  obtain ⟨h1, ⟨e0, _⟩ | ⟨g', cap', cur, e0, h3, h4, h5, h6, h7, h8⟩⟩ := h
  · cases e0
  · injection e0 with e1 e2 e3
    injection e1 with e1
    injection e1 with e1
    subst e1; subst e3
    refine ⟨by rw [List.length_take, h1]; omega, .inr ⟨g, cap, cur, rfl, h3, h4, Nat.le_trans hk h5, h6, h7, ?_⟩⟩
    rw [← h8, List.take_take, Nat.min_eq_left hle]
theorem sCells_take (L : List Sw) : ∀ k, (sCells L).take (k * 4) = sCells (L.take k) := by
  induction L with
  | nil => intro k; simp [sCells]
  | cons a L ih =>
    intro k
    cases k with
    | zero => simp [sCells]
    | succ k =>
      have e : ∀ y (M : List Sw), sCells (y :: M) = .int .i64 y.1 :: .int .i64 y.2.1 :: .int .i64 y.2.2.1 :: .int .i64 y.2.2.2 :: sCells M := fun _ _ => rfl
      rw [List.take_succ_cons, e, e, ← ih k, show (k + 1) * 4 = k * 4 + 1 + 1 + 1 + 1 by omega]
      simp only [List.take_succ_cons]
set_option maxRecDepth 100000 in
set_option maxHeartbeats 2000000 in
theorem evpop_x (B bp g cap : Nat) (L : List Sw) (w : World) (hQ : QR B w bp (.slice (some ⟨g, 0, none⟩) L.length cap) L) (hn : L.length ≤ 1000000) (h0 : 1 ≤ L.length) :
    Calls Try.prog 113 #[.pointer (some ⟨bp, 0, none⟩)] w fun e w' => e = .returned (.iface 51 (.agg #[.int .i64 (sg4 L (L.length - 1)).1, .int .i64 (sg4 L (L.length - 1)).2.1, .int .i64 (sg4 L (L.length - 1)).2.2.1, .int .i64 (sg4 L (L.length - 1)).2.2.2])) ∧ QR B w' bp (.slice (some ⟨g, 0, none⟩) (L.take (L.length - 1)).length cap) (L.take (L.length - 1)) ∧ Upd (fun k => k = bp) w w' := by
  have hR : SwR (fun _ => True) w (.slice (some ⟨g, 0, none⟩) L.length cap) L := (SlR.of_own hQ.own).weaken (fun _ _ => trivial)
  obtain ⟨n, hn1⟩ : ∃ n, L.length = n + 1 := ⟨L.length - 1, by omega⟩
  obtain ⟨i0, i1, i2, i3⟩ := hR.cells (i := n) (by omega)
  have hcap := SlR.le_cap hR rfl
  have HT := Lib.hid (own_take hQ.own n (by omega))
  rw [sCells_take L n] at HT
  have HTL : Hid ((L.take n).length = n) := Lib.hid (by simp; omega)
  have c0 : w.cell? ⟨bp, 0, none⟩ = some (.slice (some ⟨g, 0, none⟩) L.length cap) := cellRow hQ.cell 0 _ rfl
  have hne := hQ.ne
  have HLO := Lib.hid hQ.lo
  have HB := Lib.hid hQ.hlt
  have HC := Lib.hid hQ.cell
  rw [hn1] at c0 hcap HC hn
  rw [show L.length - 1 = n by omega]
  simp only [Nat.zero_add] at i0 i1 i2 i3
  generalize (sg4 L n).1 = p0 at *
  generalize (sg4 L n).2.1 = p1 at *
  generalize (sg4 L n).2.2.1 = p2 at *
  generalize (sg4 L n).2.2.2 = p3 at *
  have hcA := allocOld HC.out (.cells #[.int .i64 p0, .int .i64 p1, .int .i64 p2, .int .i64 p3] 51)
  have c1 : (w.alloc (.cells #[.int .i64 p0, .int .i64 p1, .int .i64 p2, .int .i64 p3] 51)).cell? ⟨bp, 0, none⟩ = some (.slice (some ⟨g, 0, none⟩) (n + 1) cap) := cellRow hcA 0 _ rfl
  have m1 := frozenRow hcA 0
  have hAA := Lib.hid hcA
  have hst : Upd (fun k => k = bp) (w.alloc (.cells #[.int .i64 p0, .int .i64 p1, .int .i64 p2, .int .i64 p3] 51)) ((w.alloc (.cells #[.int .i64 p0, .int .i64 p1, .int .i64 p2, .int .i64 p3] 51)).setCell ⟨bp, 0, none⟩ (.slice (some ⟨g, 0, none⟩) n cap)) := (Upd.refl (fun k => k = bp) _).setCell (p := ⟨bp, 0, none⟩) (.inl rfl) _
  have hd := hst.heap (alloc0 w (.cells #[.int .i64 p0, .int .i64 p1, .int .i64 p2, .int .i64 p3] 51)) (by have := HB.out; omega)
  have d0 := cellRow hd 0 (.int .i64 p0) rfl
  have d1 := cellRow hd 1 (.int .i64 p1) rfl
  have d2 := cellRow hd 2 (.int .i64 p2) rfl
  have d3 := cellRow hd 3 (.int .i64 p3) rfl
  have HST := Lib.hid hst
  clear hst hd
  clear hcA
  have hgb : g ≠ bp := fun e => hne (by rw [e]; rfl)
  have HG := Lib.hid hgb
  clear hR hne hn1 hgb h0 hQ
  go_enter Try.func113, Try.ntmps113
  go_wp2_with fail
  go_ret
  refine ⟨rfl, ⟨HLO.out, by rw [HTL.out]; exact setBlock hAA.out 0 (.slice (some ⟨g, 0, none⟩) n cap), ?_, fun e => HG.out (by injection e)⟩, ((Upd.refl (fun k => k = bp) w).alloc _).trans' HST.out (fun i hi e => e)⟩
  have h1 := own_kept (World.ownsRow.alloc HT.out (.cells #[.int .i64 p0, .int .i64 p1, .int .i64 p2, .int .i64 p3] 51)) HST.out (fun k hk e => HG.out (by injection hk with hk; exact hk.trans e))
  rw [HTL.out]
  exact h1

end Go.Proofs.Ytncnojhbdkhcjaa

/- Push and Pop. -/
namespace Go.Proofs.Ytncnojhbdkhcjaa
open Go.RowKit Go.Hw Go
set_option linter.unusedVariables false
set_option linter.unusedSimpArgs false

theorem qr_upd {B bp : Nat} {w w' : World} {v : Value} {L : List Sw} (h : QR B w bp v L) (hu : Ext w w') : QR B w' bp v L := ⟨h.lo, hu.heap h.cell (fun h => h), own_kept h.own hu (fun _ _ h => h), h.ne⟩
theorem evlen_m (bp : Nat) (v : Value) (L : List Sw) (w : World) {B : Nat} (hQ : QR B w bp v L) : Calls Try.prog 59 #[v] w fun e w' => e = .returned (.int .i64 L.length) ∧ w' = w := by
  obtain ⟨a, c, rfl⟩ := own_shape hQ.own
  exact evlen_x a L.length c w
theorem okS_snoc {L : List Sw} {x : Sw} (h : okS L) (hx : okE x) : okS (L ++ [x]) := fun k hk => by
  unfold sg4
  rw [List.getD_eq_getElem?_getD]
  by_cases h1 : k < L.length
  · rw [List.getElem?_append_left h1]
    have := h k h1
    unfold sg4 at this
    rw [List.getD_eq_getElem?_getD] at this
    exact this
  · have h2 : k = L.length := by simp at hk; omega
    subst h2
    rw [List.getElem?_append_right (Nat.le_refl _)]
    simpa [okE] using hx
set_option maxRecDepth 100000 in
set_option maxHeartbeats 2000000 in
theorem Push_x (B bp : Nat) (v : Value) (L : List Sw) (x : Sw) (w : World) (hQ : QR B w bp v L) (hok : okS L) (hx : okE x) (hn : L.length ≤ 500000) (hH : HeapN earl zS L.length L) :
    Calls Try.prog 58 #[.iface 100 (.pointer (some ⟨bp, 0, none⟩)), .iface 51 (.agg #[.int .i64 x.1, .int .i64 x.2.1, .int .i64 x.2.2.1, .int .i64 x.2.2.2])] w fun e w' => e = .returned (.tuple #[]) ∧ ∃ M v', M.Perm (L ++ [x]) ∧ HeapN earl zS M.length M ∧ QR B w' bp v' M ∧ Upd (fun k => B ≤ k) w w' := by
  have HP := Lib.hid (evpush_x B bp v L x w hQ (by omega))
  have HU := Lib.hid (fun W g cap (hQ : QR B W bp (.slice (some ⟨g, 0, none⟩) (L ++ [x]).length cap) (L ++ [x])) => up_x B bp g cap (L ++ [x]) L.length W hQ (okS_snoc hok hx) (by simp) (by simp; omega) (by rw [List.length_append]; exact heapU_push x hH))
  have hmp := meth_Push bp w
  have HLN : Hid ((L ++ [x]).length = L.length + 1) := Lib.hid (by simp)
  clear hQ hok hx hH
  go_enter Try.func58, Try.ntmps58
  go_wp2_with fail
  refine HP.out.mono ?_
  rintro e w4 ⟨rfl, ⟨v4, hQ4⟩, hU4⟩
  have hml := meth_Len bp v4 w4 (cellRow hQ4.cell 0 _ rfl)
  have HEL := Lib.hid (evlen_m bp v4 _ w4 hQ4)
  rw [HLN.out] at HEL
  obtain ⟨g, cap, hv4⟩ := own_some hQ4.own (by rw [HLN.out]; omega)
  have hgB : B ≤ g := by subst hv4; exact (hQ4.own.lt g rfl).1
  have HUP := Lib.hid (HU.out w4 g cap (by rw [← hv4]; exact hQ4))
  have H4 := Lib.hid hU4
  have HGB := Lib.hid hgB
  clear hQ4 hU4 hmp HP HU hv4 hgB
  go_wp2_with fail
  refine HEL.out.mono ?_
  rintro e w5 ⟨rfl, rfl⟩
  clear hml HEL
  go_wp2_with fail
  refine HUP.out.mono ?_
  rintro e w6 ⟨rfl, M, h1, h2, h3, h4⟩
  have HF := Lib.hid (And.intro h1 (And.intro h2 (And.intro h3 (H4.out.trans' h4 (fun i hi e => by subst e; exact HGB.out)))))
  clear h1 h2 h3 h4
  go_wp2_with fail
  go_end0
  obtain ⟨h1, h2, h3, h4⟩ := HF.out
  exact ⟨rfl, M, _, h1, by rw [h1.length_eq]; exact h2, h3, h4⟩
set_option maxRecDepth 100000 in
set_option maxHeartbeats 2000000 in
theorem Pop_x (B bp g cap : Nat) (L : List Sw) (w : World) (hQ : QR B w bp (.slice (some ⟨g, 0, none⟩) L.length cap) L) (hok : okS L) (hn : L.length ≤ 1000000) (h0 : 1 ≤ L.length) (hH : HeapN earl zS L.length L) :
    Calls Try.prog 60 #[.iface 100 (.pointer (some ⟨bp, 0, none⟩))] w fun e w' => e = .returned (.iface 51 (.agg #[.int .i64 (sg4 L 0).1, .int .i64 (sg4 L 0).2.1, .int .i64 (sg4 L 0).2.2.1, .int .i64 (sg4 L 0).2.2.2])) ∧ ∃ M, (M ++ [sg4 L 0]).Perm L ∧ HeapN earl zS M.length M ∧ QR B w' bp (.slice (some ⟨g, 0, none⟩) M.length cap) M ∧ Upd (fun k => k = g ∨ k = bp) w w' := by
  obtain ⟨n, hn1⟩ : ∃ n, L.length = n + 1 := ⟨L.length - 1, by omega⟩
  have hgb : g ≠ bp := fun e => hQ.ne (by rw [e]; rfl)
  have hGB : B ≤ g := (hQ.own.lt g rfl).1
  have hml := meth_Len bp _ w (cellRow hQ.cell 0 _ rfl)
  have hms := meth_Swap bp _ w (cellRow hQ.cell 0 _ rfl)
  have HEL := Lib.hid (evlen_m bp _ _ w hQ)
  have HSW := Lib.hid (evswap_x B g cap L 0 n w (by omega) (by omega) hQ.own)
  have hpp := swapL_perm zS L 0 n (by omega) (by omega)
  have HDN := Lib.hid (fun W (h : QR B W bp (.slice (some ⟨g, 0, none⟩) (swapL zS L 0 n).length cap) (swapL zS L 0 n)) => down_x B bp g cap n (swapL zS L 0 n) W h (okS_perm hok hpp) (by rw [hpp.length_eq]; omega) (by rw [hpp.length_eq]; exact hn) (heapD_pop hn1 (by rw [← hn1]; exact hH)))
  have HPP := Lib.hid hpp
  have HLN : Hid ((swapL zS L 0 n).length = n + 1) := Lib.hid (by rw [hpp.length_eq]; exact hn1)
  have HS0 : Hid (sg4 (swapL zS L 0 n) n = sg4 L 0) := Lib.hid (by unfold sg4; rw [swapL_get zS L 0 n n (by omega) (by omega), if_pos rfl])
  have HQ := Lib.hid hQ
  have HGG := Lib.hid (And.intro hgb hGB)
  have HN1 := Lib.hid hn1
  clear hQ hok hpp hgb hGB hH h0
  rw [hn1] at hml hms hn HEL HSW
  rw [HLN.out] at HDN
  clear hn1
  generalize swapL zS L 0 n = L2 at *
  go_enter Try.func60, Try.ntmps60
  go_wp2_with fail
  refine HEL.out.mono ?_
  rintro e w3 ⟨rfl, rfl⟩
  go_wp2_with fail
  refine HSW.out.mono ?_
  rintro e w4 ⟨rfl, hO4, hU4⟩
  have hQ4 : QR B w4 bp (.slice (some ⟨g, 0, none⟩) (n + 1) cap) L2 := ⟨HQ.out.lo, by have := hU4.heap HQ.out.cell (fun e => HGG.out.1 e.symm); rw [HN1.out] at this; exact this, by rw [HLN.out]; exact hO4, fun e => HGG.out.1 (by injection e)⟩
  have HD := Lib.hid (HDN.out w4 hQ4)
  have H4 : Hid (Upd (fun k => k = g ∨ k = bp) w3 w4) := Lib.hid (hU4.mono (fun k _ e => .inl e))
  clear hO4 hU4 hQ4 hml hms HDN HSW HEL
  go_wp2_with fail
  refine HD.out.mono ?_
  rintro e w5 ⟨⟨b, rfl⟩, M, h1, h2, h3, h4, h5⟩
  have hlM : M.length = n + 1 := h1.length_eq.trans HLN.out
  have HPO := Lib.hid (evpop_x B bp g cap M w5 (by rw [hlM]; exact h4) (by omega) (by omega))
  have hmp := meth_Pop bp w5
  have H5 := Lib.hid (H4.out.trans' h5 (fun i hi e => .inl e))
  have hM1 : M.length - 1 = n := by omega
  have HMn : Hid (sg4 M n = sg4 L 0) := Lib.hid ((h3 n (Nat.le_refl _)).trans HS0.out)
  rw [hM1, HMn.out] at HPO
  have HFF : Hid ((M.take n ++ [sg4 L 0]).Perm L ∧ HeapN earl zS (M.take n).length (M.take n)) := Lib.hid ⟨by
      have e : M.take n ++ [sg4 L 0] = M := by
        rw [← HMn.out]
        conv => rhs; rw [← List.take_append_drop n M]
        congr 1
        unfold sg4
        rw [List.drop_eq_getElem_cons (by omega : n < M.length), List.drop_of_length_le (by omega), List.getD_eq_getElem?_getD, List.getElem?_eq_getElem (by omega : n < M.length)]
        rfl
      rw [e]
      exact h1.trans HPP.out, by
      rw [List.length_take, hlM, Nat.min_eq_left (by omega)]
      exact heap_take (by omega) h2⟩
  clear h1 h2 h3 h4 h5 hlM hM1 HMn HS0
  generalize hx : sg4 L 0 = x at *
  obtain ⟨p0, p1, p2, p3⟩ := x
  simp only
  have HPO2 := HPO.out
  simp only at HPO2
  have HPO3 := Lib.hid HPO2
  have HX := Lib.hid hx
  clear HPO HPO2 hx
  go_wp2_with fail
  refine HPO3.out.mono ?_
  rintro e w6 ⟨rfl, hQ6, hU6⟩
  have H6 := Lib.hid (And.intro hQ6 (H5.out.trans' hU6 (fun i hi e => .inr e)))
  clear hQ6 hU6 hmp HPO3
  go_wp2_with fail
  go_ret
  rw [HX.out]
  exact ⟨rfl, M.take n, HFF.out.1, HFF.out.2, H6.out.1, H6.out.2⟩

end Go.Proofs.Ytncnojhbdkhcjaa
