/- ratio.Make. -/
import Derived.Test.YtlipjgpfhmkdhaaDoorR2
namespace Go.Proofs.YtlipjgpfhmkdhaaDoor
open Go.RowKit Go.Hw
set_option linter.unusedVariables false
set_option linter.unusedSimpArgs false

set_option maxRecDepth 100000 in
set_option maxHeartbeats 1000000 in
theorem mk_zero (n d : Int) (w : World) (hd : d = 0) : Calls Tryd.prog 13 #[.int .i64 n, .int .i64 d] w fun e w' => e = .returned (.tuple #[.agg #[.int .i64 0, .int .i64 0], .int .i64 18]) ∧ Ext w w' := by
  subst hd
  have tz : ((0 : Int) == 0) = true := rfl
  have HZ : Hid (Ext w (w.alloc (.cells #[.int .i64 0, .int .i64 0] 24))) := (Upd.refl _ w).alloc _
  have hb := alloc0 w (.cells #[.int .i64 0, .int .i64 0] 24)
  have c0 := cellRow hb 0 _ rfl
  have c1 := cellRow hb 1 _ rfl
  have f0 := frozenRow hb 0
  have f1 := frozenRow hb 1
  clear hb
  go_enter Tryd.func13, Tryd.ntmps13
  go_wp2_with fail
  exact bodyPost_ret (v := .tuple #[.agg #[.int .i64 0, .int .i64 0], .int .i64 18]) (by simp [results, Tryd.results13, go_sem, c0, c1]) rfl ⟨rfl, by first | exact HZ.out | exact (HZ.out.setNew (Nat.le_refl _) _).setNew (Nat.le_refl _) _⟩
set_option maxRecDepth 100000 in
set_option maxHeartbeats 1000000 in
theorem mk_big (n d : Int) (w : World) (n0 : -9223372036854775808 ≤ n) (n1 : n ≤ 9223372036854775807) (d0 : -9223372036854775808 ≤ d) (d1 : d ≤ 9223372036854775807) (hd : d ≠ 0) (hb : 1073741824 < aN n d ∨ (aN n d ≤ 1073741824 ∧ 1073741824 < aD n d)) : Calls Tryd.prog 13 #[.int .i64 n, .int .i64 d] w fun e w' => e = .returned (.tuple #[.agg #[.int .i64 0, .int .i64 0], .int .i64 5]) ∧ Ext w w' := by
  have hgp := gg_pos (num := n) hd
  have hnl := aN_le n d
  have hdl := aD_le n d
  have hdp := aD_pos (num := n) hd
  have C42 := Lib.hid (fun (m : Int) (W : World) (h0 : -9223372036854775808 ≤ m) (h1 : m ≤ 9223372036854775807) => size_x m W h0 h1)
  have C43 : Hid (∀ W, Calls Tryd.prog 43 #[.int .u64 n.natAbs, .int .u64 d.natAbs] W fun e w' => e = .returned (.int .u64 (gg n d : Nat)) ∧ Ext W w') := fun W => gcd_x n.natAbs d.natAbs W (by omega) (by omega)
  have HZ : Hid (Ext w (w.alloc (.cells #[.int .i64 0, .int .i64 0] 24))) := (Upd.refl _ w).alloc _
  have HB0 := Lib.hid (alloc0 w (.cells #[.int .i64 0, .int .i64 0] 24))
  have x1 : ((n.natAbs : Nat) : Int) / (gg n d : Int) = (aN n d : Int) := by unfold aN; simp
  have x2 : ((d.natAbs : Nat) : Int) / (gg n d : Int) = (aD n d : Int) := by unfold aD; simp
  have x3 : Int.tdiv ((n.natAbs : Nat) : Int) (gg n d : Int) = (aN n d : Int) := by rw [Int.tdiv_eq_ediv_of_nonneg (by omega)]; exact x1
  have x4 : Int.tdiv ((d.natAbs : Nat) : Int) (gg n d : Int) = (aD n d : Int) := by rw [Int.tdiv_eq_ediv_of_nonneg (by omega)]; exact x2
  have x5 : ¬ ((gg n d : Int) = 0) := by omega
  have x6 : ((gg n d : Int) == 0) = false := beq_eq_false_iff_ne.2 x5
  have x7 : IntKind.u64.wrap (aN n d : Int) = (aN n d : Int) := by rw [wrap_u64']; omega
  have x8 : IntKind.u64.wrap (aD n d : Int) = (aD n d : Int) := by rw [wrap_u64']; omega
  have tz : (d == 0) = false := beq_eq_false_iff_ne.2 hd
  have X1 := Lib.hid x1
  have X2 := Lib.hid x2
  have X3 := Lib.hid x3
  have X4 := Lib.hid x4
  clear x1 x2 x3 x4
  generalize gg n d = G at *
  generalize hNA : aN n d = NA at *
  generalize hDA : aD n d = DA at *
  generalize hna : n.natAbs = na at *
  generalize hda : d.natAbs = da at *
  have HNA := Lib.hid hNA
  have HDA := Lib.hid hDA
  have Hna := Lib.hid hna
  have Hda := Lib.hid hda
  clear hNA hDA hna hda
  rcases hb with hb | ⟨hb1, hb2⟩
  · have t1 : decide (((1073741824 : Nat) : Int) < (NA : Int)) = true := decide_eq_true (by omega)
    have t1' : decide ((1073741824 : Int) < (NA : Int)) = true := decide_eq_true (by omega)
    have t1'' : decide (1073741824 < NA) = true := decide_eq_true (by omega)
    go_enter Tryd.func13, Tryd.ntmps13
    go_wp2_with fail
    refine (C42.out _ _ n0 n1).mono ?_
    rintro e w2 ⟨rfl, h2⟩
    have HE2 := Lib.hid (HZ.out.ext h2)
    have HB2 := Lib.hid (h2.heap HB0.out (fun h => h))
    clear h2
    rw [Hna.out]
    go_wp2_with fail
    refine (C42.out _ _ d0 d1).mono ?_
    rintro e w3 ⟨rfl, h3⟩
    have HE3 := Lib.hid (HE2.out.ext h3)
    have HB3 := Lib.hid (h3.heap HB2.out (fun h => h))
    clear h3 HB2
    rw [Hda.out]
    go_wp2_with fail
    refine (C43.out _).mono ?_
    rintro e w4 ⟨rfl, h4⟩
    have HE4 := Lib.hid (HE3.out.ext h4)
    have HB4 := Lib.hid (h4.heap HB3.out (fun h => h))
    clear h4 HB3
    have c0 := cellRow HB4.out 0 _ rfl
    have c1 := cellRow HB4.out 1 _ rfl
    have f0 := frozenRow HB4.out 0
    have f1 := frozenRow HB4.out 1
    have y1 := X1.out
    have y2 := X2.out
    have y3 := X3.out
    have y4 := X4.out
    go_wp2_with fail
    go_quiet (fail)
    clear y1 y2 y3 y4
    go_wp2_with fail
    exact bodyPost_ret (v := .tuple #[.agg #[.int .i64 0, .int .i64 0], .int .i64 5]) (by simp [results, Tryd.results13, go_sem, c0, c1]) rfl ⟨rfl, ((HE4.out.drewN' _).setNew (Nat.le_refl _) _).setNew (Nat.le_refl _) _⟩
  · have t1' : decide ((1073741824 : Int) < (NA : Int)) = false := decide_eq_false (by omega)
    have t1'' : decide (1073741824 < NA) = false := decide_eq_false (by omega)
    have t2' : decide ((1073741824 : Int) < (DA : Int)) = true := decide_eq_true (by omega)
    have t2'' : decide (1073741824 < DA) = true := decide_eq_true (by omega)
    go_enter Tryd.func13, Tryd.ntmps13
    go_wp2_with fail
    refine (C42.out _ _ n0 n1).mono ?_
    rintro e w2 ⟨rfl, h2⟩
    have HE2 := Lib.hid (HZ.out.ext h2)
    have HB2 := Lib.hid (h2.heap HB0.out (fun h => h))
    clear h2
    rw [Hna.out]
    go_wp2_with fail
    refine (C42.out _ _ d0 d1).mono ?_
    rintro e w3 ⟨rfl, h3⟩
    have HE3 := Lib.hid (HE2.out.ext h3)
    have HB3 := Lib.hid (h3.heap HB2.out (fun h => h))
    clear h3 HB2
    rw [Hda.out]
    go_wp2_with fail
    refine (C43.out _).mono ?_
    rintro e w4 ⟨rfl, h4⟩
    have HE4 := Lib.hid (HE3.out.ext h4)
    have HB4 := Lib.hid (h4.heap HB3.out (fun h => h))
    clear h4 HB3
    have c0 := cellRow HB4.out 0 _ rfl
    have c1 := cellRow HB4.out 1 _ rfl
    have f0 := frozenRow HB4.out 0
    have f1 := frozenRow HB4.out 1
    have y1 := X1.out
    have y2 := X2.out
    have y3 := X3.out
    have y4 := X4.out
    go_wp2_with fail
    go_quiet (fail)
    clear y1 y2 y3 y4
    go_wp2_with fail
    exact bodyPost_ret (v := .tuple #[.agg #[.int .i64 0, .int .i64 0], .int .i64 5]) (by simp [results, Tryd.results13, go_sem, c0, c1]) rfl ⟨rfl, ((HE4.out.drewN' _).setNew (Nat.le_refl _) _).setNew (Nat.le_refl _) _⟩

set_option maxRecDepth 100000 in
set_option maxHeartbeats 1000000 in
theorem mk_good00 (n d : Int) (w : World) (n0 : -9223372036854775808 ≤ n) (n1 : n ≤ 9223372036854775807) (d0 : -9223372036854775808 ≤ d) (d1 : d ≤ 9223372036854775807) (hd : d ≠ 0) (hb1 : aN n d ≤ 1073741824) (hb2 : aD n d ≤ 1073741824) (hn : 0 ≤ n) (hdn : 0 ≤ d) : Calls Tryd.prog 13 #[.int .i64 n, .int .i64 d] w fun e w' => e = .returned (.tuple #[.agg #[.int .i64 (aN n d : Int), .int .i64 (aD n d : Int)], .int .i64 0]) ∧ Ext w w' := by
  have t3 : decide (n < 0) = false := decide_eq_false (by omega)
  have t4 : decide (d < 0) = false := decide_eq_false (by omega)
  have hgp := gg_pos (num := n) hd
  have hnl := aN_le n d
  have hdl := aD_le n d
  have hdp := aD_pos (num := n) hd
  have C42 := Lib.hid (fun (m : Int) (W : World) (h0 : -9223372036854775808 ≤ m) (h1 : m ≤ 9223372036854775807) => size_x m W h0 h1)
  have C43 : Hid (∀ W, Calls Tryd.prog 43 #[.int .u64 n.natAbs, .int .u64 d.natAbs] W fun e w' => e = .returned (.int .u64 (gg n d : Nat)) ∧ Ext W w') := fun W => gcd_x n.natAbs d.natAbs W (by omega) (by omega)
  have HZ : Hid (Ext w (w.alloc (.cells #[.int .i64 0, .int .i64 0] 24))) := (Upd.refl _ w).alloc _
  have HB0 := Lib.hid (alloc0 w (.cells #[.int .i64 0, .int .i64 0] 24))
  have x1 : ((n.natAbs : Nat) : Int) / (gg n d : Int) = (aN n d : Int) := by unfold aN; simp
  have x2 : ((d.natAbs : Nat) : Int) / (gg n d : Int) = (aD n d : Int) := by unfold aD; simp
  have x3 : Int.tdiv ((n.natAbs : Nat) : Int) (gg n d : Int) = (aN n d : Int) := by rw [Int.tdiv_eq_ediv_of_nonneg (by omega)]; exact x1
  have x4 : Int.tdiv ((d.natAbs : Nat) : Int) (gg n d : Int) = (aD n d : Int) := by rw [Int.tdiv_eq_ediv_of_nonneg (by omega)]; exact x2
  have x5 : ¬ ((gg n d : Int) = 0) := by omega
  have x6 : ((gg n d : Int) == 0) = false := beq_eq_false_iff_ne.2 x5
  have x7 : IntKind.u64.wrap (aN n d : Int) = (aN n d : Int) := by rw [wrap_u64']; omega
  have x8 : IntKind.u64.wrap (aD n d : Int) = (aD n d : Int) := by rw [wrap_u64']; omega
  have tz : (d == 0) = false := beq_eq_false_iff_ne.2 hd
  have X1 := Lib.hid x1
  have X2 := Lib.hid x2
  have X3 := Lib.hid x3
  have X4 := Lib.hid x4
  clear x1 x2 x3 x4
  generalize gg n d = G at *
  generalize hNA : aN n d = NA at *
  generalize hDA : aD n d = DA at *
  generalize hna : n.natAbs = na at *
  generalize hda : d.natAbs = da at *
  have HNA := Lib.hid hNA
  have HDA := Lib.hid hDA
  have Hna := Lib.hid hna
  have Hda := Lib.hid hda
  clear hNA hDA hna hda
  have t1' : decide ((1073741824 : Int) < (NA : Int)) = false := decide_eq_false (by omega)
  have t1'' : decide (1073741824 < NA) = false := decide_eq_false (by omega)
  have t2' : decide ((1073741824 : Int) < (DA : Int)) = false := decide_eq_false (by omega)
  have t2'' : decide (1073741824 < DA) = false := decide_eq_false (by omega)
  go_enter Tryd.func13, Tryd.ntmps13
  go_wp2_with fail
  refine (C42.out _ _ n0 n1).mono ?_
  rintro e w2 ⟨rfl, h2⟩
  have HE2 := Lib.hid (HZ.out.ext h2)
  have HB2 := Lib.hid (h2.heap HB0.out (fun h => h))
  clear h2
  rw [Hna.out]
  go_wp2_with fail
  refine (C42.out _ _ d0 d1).mono ?_
  rintro e w3 ⟨rfl, h3⟩
  have HE3 := Lib.hid (HE2.out.ext h3)
  have HB3 := Lib.hid (h3.heap HB2.out (fun h => h))
  clear h3 HB2
  rw [Hda.out]
  go_wp2_with fail
  refine (C43.out _).mono ?_
  rintro e w4 ⟨rfl, h4⟩
  have HE4 := Lib.hid (HE3.out.ext h4)
  have HB4 := Lib.hid (h4.heap HB3.out (fun h => h))
  clear h4 HB3
  have c0 := cellRow HB4.out 0 _ rfl
  have c1 := cellRow HB4.out 1 _ rfl
  have f0 := frozenRow HB4.out 0
  have f1 := frozenRow HB4.out 1
  have y1 := X1.out
  have y2 := X2.out
  have y3 := X3.out
  have y4 := X4.out
  go_wp2_with fail
  go_quiet (fail)
  clear y1 y2 y3 y4
  generalize hw5 : w4.drewN nq = w5 at *
  have HE5 : Hid (Ext w w5) := by show Ext w w5; rw [← hw5]; exact HE4.out.drewN' _
  have HB5 : Hid (w5.heap[w.heap.size]? = some (.cells #[.int .i64 0, .int .i64 0] 24)) := by show _ = _; rw [← hw5]; exact HB4.out
  have hsz : w.heap.size < w5.heap.size := (Array.getElem?_eq_some_iff.1 HB5.out).1
  have hne1 : ¬ w.heap.size = w5.heap.size := by omega
  have hne2 : ¬ w5.heap.size = w.heap.size := by omega
  clear hw5 c0 c1 f0 f1 HB4
  have ha0 := alloc0 w5 (.cells #[.int .i64 0, .int .i64 0] 24)
  have o0 := cellRow ha0 0 _ rfl
  have o1 := cellRow ha0 1 _ rfl
  have u0 := frozenRow ha0 0
  have u1 := frozenRow ha0 1
  have ha1 := alloc0 w5 (.cells #[.int .i64 (NA : Int), .int .i64 (DA : Int)] 24)
  have p0 := cellRow ha1 0 _ rfl
  have p1 := cellRow ha1 1 _ rfl
  have v0 := frozenRow ha1 0
  have v1 := frozenRow ha1 1
  have c0 := cellRow HB5.out 0 _ rfl
  have c1 := cellRow HB5.out 1 _ rfl
  have f0 := frozenRow HB5.out 0
  have f1 := frozenRow HB5.out 1
  clear ha0 ha1
  go_wp2_with fail
  have hfin := allocOld (setBlock (setBlock HB5.out 0 (.int .i64 (NA : Int))) 1 (.int .i64 (DA : Int))) (.cells #[.int .i64 (NA : Int), .int .i64 (DA : Int)] 24)
  have z0 := cellRow hfin 0 _ rfl
  have z1 := cellRow hfin 1 _ rfl
  simp at z0 z1
  refine bodyPost_ret (v := .tuple #[.agg #[.int .i64 (NA : Int), .int .i64 (DA : Int)], .int .i64 0]) (by simp [results, Tryd.results13, go_sem, z0, z1]) rfl ⟨by rw [← HNA.out, ← HDA.out], ?_⟩
  exact ((HE5.out.setNew (Nat.le_refl _) _).setNew (Nat.le_refl _) _).alloc _

set_option maxRecDepth 100000 in
set_option maxHeartbeats 1000000 in
theorem mk_good01 (n d : Int) (w : World) (n0 : -9223372036854775808 ≤ n) (n1 : n ≤ 9223372036854775807) (d0 : -9223372036854775808 ≤ d) (d1 : d ≤ 9223372036854775807) (hd : d ≠ 0) (hb1 : aN n d ≤ 1073741824) (hb2 : aD n d ≤ 1073741824) (hn : 0 ≤ n) (hdn : d < 0) : Calls Tryd.prog 13 #[.int .i64 n, .int .i64 d] w fun e w' => e = .returned (.tuple #[.agg #[.int .i64 (-(aN n d : Int)), .int .i64 (aD n d : Int)], .int .i64 0]) ∧ Ext w w' := by
  have t3 : decide (n < 0) = false := decide_eq_false (by omega)
  have t4 : decide (d < 0) = true := decide_eq_true (by omega)
  have hgp := gg_pos (num := n) hd
  have hnl := aN_le n d
  have hdl := aD_le n d
  have hdp := aD_pos (num := n) hd
  have C42 := Lib.hid (fun (m : Int) (W : World) (h0 : -9223372036854775808 ≤ m) (h1 : m ≤ 9223372036854775807) => size_x m W h0 h1)
  have C43 : Hid (∀ W, Calls Tryd.prog 43 #[.int .u64 n.natAbs, .int .u64 d.natAbs] W fun e w' => e = .returned (.int .u64 (gg n d : Nat)) ∧ Ext W w') := fun W => gcd_x n.natAbs d.natAbs W (by omega) (by omega)
  have HZ : Hid (Ext w (w.alloc (.cells #[.int .i64 0, .int .i64 0] 24))) := (Upd.refl _ w).alloc _
  have HB0 := Lib.hid (alloc0 w (.cells #[.int .i64 0, .int .i64 0] 24))
  have x1 : ((n.natAbs : Nat) : Int) / (gg n d : Int) = (aN n d : Int) := by unfold aN; simp
  have x2 : ((d.natAbs : Nat) : Int) / (gg n d : Int) = (aD n d : Int) := by unfold aD; simp
  have x3 : Int.tdiv ((n.natAbs : Nat) : Int) (gg n d : Int) = (aN n d : Int) := by rw [Int.tdiv_eq_ediv_of_nonneg (by omega)]; exact x1
  have x4 : Int.tdiv ((d.natAbs : Nat) : Int) (gg n d : Int) = (aD n d : Int) := by rw [Int.tdiv_eq_ediv_of_nonneg (by omega)]; exact x2
  have x5 : ¬ ((gg n d : Int) = 0) := by omega
  have x6 : ((gg n d : Int) == 0) = false := beq_eq_false_iff_ne.2 x5
  have x7 : IntKind.u64.wrap (aN n d : Int) = (aN n d : Int) := by rw [wrap_u64']; omega
  have x8 : IntKind.u64.wrap (aD n d : Int) = (aD n d : Int) := by rw [wrap_u64']; omega
  have tz : (d == 0) = false := beq_eq_false_iff_ne.2 hd
  have X1 := Lib.hid x1
  have X2 := Lib.hid x2
  have X3 := Lib.hid x3
  have X4 := Lib.hid x4
  clear x1 x2 x3 x4
  generalize gg n d = G at *
  generalize hNA : aN n d = NA at *
  generalize hDA : aD n d = DA at *
  generalize hna : n.natAbs = na at *
  generalize hda : d.natAbs = da at *
  have HNA := Lib.hid hNA
  have HDA := Lib.hid hDA
  have Hna := Lib.hid hna
  have Hda := Lib.hid hda
  clear hNA hDA hna hda
  have t1' : decide ((1073741824 : Int) < (NA : Int)) = false := decide_eq_false (by omega)
  have t1'' : decide (1073741824 < NA) = false := decide_eq_false (by omega)
  have t2' : decide ((1073741824 : Int) < (DA : Int)) = false := decide_eq_false (by omega)
  have t2'' : decide (1073741824 < DA) = false := decide_eq_false (by omega)
  go_enter Tryd.func13, Tryd.ntmps13
  go_wp2_with fail
  refine (C42.out _ _ n0 n1).mono ?_
  rintro e w2 ⟨rfl, h2⟩
  have HE2 := Lib.hid (HZ.out.ext h2)
  have HB2 := Lib.hid (h2.heap HB0.out (fun h => h))
  clear h2
  rw [Hna.out]
  go_wp2_with fail
  refine (C42.out _ _ d0 d1).mono ?_
  rintro e w3 ⟨rfl, h3⟩
  have HE3 := Lib.hid (HE2.out.ext h3)
  have HB3 := Lib.hid (h3.heap HB2.out (fun h => h))
  clear h3 HB2
  rw [Hda.out]
  go_wp2_with fail
  refine (C43.out _).mono ?_
  rintro e w4 ⟨rfl, h4⟩
  have HE4 := Lib.hid (HE3.out.ext h4)
  have HB4 := Lib.hid (h4.heap HB3.out (fun h => h))
  clear h4 HB3
  have c0 := cellRow HB4.out 0 _ rfl
  have c1 := cellRow HB4.out 1 _ rfl
  have f0 := frozenRow HB4.out 0
  have f1 := frozenRow HB4.out 1
  have y1 := X1.out
  have y2 := X2.out
  have y3 := X3.out
  have y4 := X4.out
  go_wp2_with fail
  go_quiet (fail)
  clear y1 y2 y3 y4
  generalize hw5 : w4.drewN nq = w5 at *
  have HE5 : Hid (Ext w w5) := by show Ext w w5; rw [← hw5]; exact HE4.out.drewN' _
  have HB5 : Hid (w5.heap[w.heap.size]? = some (.cells #[.int .i64 0, .int .i64 0] 24)) := by show _ = _; rw [← hw5]; exact HB4.out
  have hsz : w.heap.size < w5.heap.size := (Array.getElem?_eq_some_iff.1 HB5.out).1
  have hne1 : ¬ w.heap.size = w5.heap.size := by omega
  have hne2 : ¬ w5.heap.size = w.heap.size := by omega
  clear hw5 c0 c1 f0 f1 HB4
  have ha0 := alloc0 w5 (.cells #[.int .i64 0, .int .i64 0] 24)
  have o0 := cellRow ha0 0 _ rfl
  have o1 := cellRow ha0 1 _ rfl
  have u0 := frozenRow ha0 0
  have u1 := frozenRow ha0 1
  have ha1 := alloc0 w5 (.cells #[.int .i64 (NA : Int), .int .i64 (DA : Int)] 24)
  have p0 := cellRow ha1 0 _ rfl
  have p1 := cellRow ha1 1 _ rfl
  have v0 := frozenRow ha1 0
  have v1 := frozenRow ha1 1
  have c0 := cellRow HB5.out 0 _ rfl
  have c1 := cellRow HB5.out 1 _ rfl
  have f0 := frozenRow HB5.out 0
  have f1 := frozenRow HB5.out 1
  clear ha0 ha1
  go_wp2_with fail
  have hfin := allocOld (setBlock (setBlock HB5.out 0 (.int .i64 (-(NA : Int)))) 1 (.int .i64 (DA : Int))) (.cells #[.int .i64 (-(NA : Int)), .int .i64 (DA : Int)] 24)
  have z0 := cellRow hfin 0 _ rfl
  have z1 := cellRow hfin 1 _ rfl
  simp at z0 z1
  refine bodyPost_ret (v := .tuple #[.agg #[.int .i64 (-(NA : Int)), .int .i64 (DA : Int)], .int .i64 0]) (by simp [results, Tryd.results13, go_sem, z0, z1]) rfl ⟨by rw [← HNA.out, ← HDA.out], ?_⟩
  exact ((HE5.out.setNew (Nat.le_refl _) _).setNew (Nat.le_refl _) _).alloc _

set_option maxRecDepth 100000 in
set_option maxHeartbeats 1000000 in
theorem mk_good10 (n d : Int) (w : World) (n0 : -9223372036854775808 ≤ n) (n1 : n ≤ 9223372036854775807) (d0 : -9223372036854775808 ≤ d) (d1 : d ≤ 9223372036854775807) (hd : d ≠ 0) (hb1 : aN n d ≤ 1073741824) (hb2 : aD n d ≤ 1073741824) (hn : n < 0) (hdn : 0 ≤ d) : Calls Tryd.prog 13 #[.int .i64 n, .int .i64 d] w fun e w' => e = .returned (.tuple #[.agg #[.int .i64 (-(aN n d : Int)), .int .i64 (aD n d : Int)], .int .i64 0]) ∧ Ext w w' := by
  have t3 : decide (n < 0) = true := decide_eq_true (by omega)
  have t4 : decide (d < 0) = false := decide_eq_false (by omega)
  have hgp := gg_pos (num := n) hd
  have hnl := aN_le n d
  have hdl := aD_le n d
  have hdp := aD_pos (num := n) hd
  have C42 := Lib.hid (fun (m : Int) (W : World) (h0 : -9223372036854775808 ≤ m) (h1 : m ≤ 9223372036854775807) => size_x m W h0 h1)
  have C43 : Hid (∀ W, Calls Tryd.prog 43 #[.int .u64 n.natAbs, .int .u64 d.natAbs] W fun e w' => e = .returned (.int .u64 (gg n d : Nat)) ∧ Ext W w') := fun W => gcd_x n.natAbs d.natAbs W (by omega) (by omega)
  have HZ : Hid (Ext w (w.alloc (.cells #[.int .i64 0, .int .i64 0] 24))) := (Upd.refl _ w).alloc _
  have HB0 := Lib.hid (alloc0 w (.cells #[.int .i64 0, .int .i64 0] 24))
  have x1 : ((n.natAbs : Nat) : Int) / (gg n d : Int) = (aN n d : Int) := by unfold aN; simp
  have x2 : ((d.natAbs : Nat) : Int) / (gg n d : Int) = (aD n d : Int) := by unfold aD; simp
  have x3 : Int.tdiv ((n.natAbs : Nat) : Int) (gg n d : Int) = (aN n d : Int) := by rw [Int.tdiv_eq_ediv_of_nonneg (by omega)]; exact x1
  have x4 : Int.tdiv ((d.natAbs : Nat) : Int) (gg n d : Int) = (aD n d : Int) := by rw [Int.tdiv_eq_ediv_of_nonneg (by omega)]; exact x2
  have x5 : ¬ ((gg n d : Int) = 0) := by omega
  have x6 : ((gg n d : Int) == 0) = false := beq_eq_false_iff_ne.2 x5
  have x7 : IntKind.u64.wrap (aN n d : Int) = (aN n d : Int) := by rw [wrap_u64']; omega
  have x8 : IntKind.u64.wrap (aD n d : Int) = (aD n d : Int) := by rw [wrap_u64']; omega
  have tz : (d == 0) = false := beq_eq_false_iff_ne.2 hd
  have X1 := Lib.hid x1
  have X2 := Lib.hid x2
  have X3 := Lib.hid x3
  have X4 := Lib.hid x4
  clear x1 x2 x3 x4
  generalize gg n d = G at *
  generalize hNA : aN n d = NA at *
  generalize hDA : aD n d = DA at *
  generalize hna : n.natAbs = na at *
  generalize hda : d.natAbs = da at *
  have HNA := Lib.hid hNA
  have HDA := Lib.hid hDA
  have Hna := Lib.hid hna
  have Hda := Lib.hid hda
  clear hNA hDA hna hda
  have t1' : decide ((1073741824 : Int) < (NA : Int)) = false := decide_eq_false (by omega)
  have t1'' : decide (1073741824 < NA) = false := decide_eq_false (by omega)
  have t2' : decide ((1073741824 : Int) < (DA : Int)) = false := decide_eq_false (by omega)
  have t2'' : decide (1073741824 < DA) = false := decide_eq_false (by omega)
  go_enter Tryd.func13, Tryd.ntmps13
  go_wp2_with fail
  refine (C42.out _ _ n0 n1).mono ?_
  rintro e w2 ⟨rfl, h2⟩
  have HE2 := Lib.hid (HZ.out.ext h2)
  have HB2 := Lib.hid (h2.heap HB0.out (fun h => h))
  clear h2
  rw [Hna.out]
  go_wp2_with fail
  refine (C42.out _ _ d0 d1).mono ?_
  rintro e w3 ⟨rfl, h3⟩
  have HE3 := Lib.hid (HE2.out.ext h3)
  have HB3 := Lib.hid (h3.heap HB2.out (fun h => h))
  clear h3 HB2
  rw [Hda.out]
  go_wp2_with fail
  refine (C43.out _).mono ?_
  rintro e w4 ⟨rfl, h4⟩
  have HE4 := Lib.hid (HE3.out.ext h4)
  have HB4 := Lib.hid (h4.heap HB3.out (fun h => h))
  clear h4 HB3
  have c0 := cellRow HB4.out 0 _ rfl
  have c1 := cellRow HB4.out 1 _ rfl
  have f0 := frozenRow HB4.out 0
  have f1 := frozenRow HB4.out 1
  have y1 := X1.out
  have y2 := X2.out
  have y3 := X3.out
  have y4 := X4.out
  go_wp2_with fail
  go_quiet (fail)
  clear y1 y2 y3 y4
  generalize hw5 : w4.drewN nq = w5 at *
  have HE5 : Hid (Ext w w5) := by show Ext w w5; rw [← hw5]; exact HE4.out.drewN' _
  have HB5 : Hid (w5.heap[w.heap.size]? = some (.cells #[.int .i64 0, .int .i64 0] 24)) := by show _ = _; rw [← hw5]; exact HB4.out
  have hsz : w.heap.size < w5.heap.size := (Array.getElem?_eq_some_iff.1 HB5.out).1
  have hne1 : ¬ w.heap.size = w5.heap.size := by omega
  have hne2 : ¬ w5.heap.size = w.heap.size := by omega
  clear hw5 c0 c1 f0 f1 HB4
  have ha0 := alloc0 w5 (.cells #[.int .i64 0, .int .i64 0] 24)
  have o0 := cellRow ha0 0 _ rfl
  have o1 := cellRow ha0 1 _ rfl
  have u0 := frozenRow ha0 0
  have u1 := frozenRow ha0 1
  have ha1 := alloc0 w5 (.cells #[.int .i64 (NA : Int), .int .i64 (DA : Int)] 24)
  have p0 := cellRow ha1 0 _ rfl
  have p1 := cellRow ha1 1 _ rfl
  have v0 := frozenRow ha1 0
  have v1 := frozenRow ha1 1
  have c0 := cellRow HB5.out 0 _ rfl
  have c1 := cellRow HB5.out 1 _ rfl
  have f0 := frozenRow HB5.out 0
  have f1 := frozenRow HB5.out 1
  clear ha0 ha1
  go_wp2_with fail
  have hfin := allocOld (setBlock (setBlock HB5.out 0 (.int .i64 (-(NA : Int)))) 1 (.int .i64 (DA : Int))) (.cells #[.int .i64 (-(NA : Int)), .int .i64 (DA : Int)] 24)
  have z0 := cellRow hfin 0 _ rfl
  have z1 := cellRow hfin 1 _ rfl
  simp at z0 z1
  refine bodyPost_ret (v := .tuple #[.agg #[.int .i64 (-(NA : Int)), .int .i64 (DA : Int)], .int .i64 0]) (by simp [results, Tryd.results13, go_sem, z0, z1]) rfl ⟨by rw [← HNA.out, ← HDA.out], ?_⟩
  exact ((HE5.out.setNew (Nat.le_refl _) _).setNew (Nat.le_refl _) _).alloc _

set_option maxRecDepth 100000 in
set_option maxHeartbeats 1000000 in
theorem mk_good11 (n d : Int) (w : World) (n0 : -9223372036854775808 ≤ n) (n1 : n ≤ 9223372036854775807) (d0 : -9223372036854775808 ≤ d) (d1 : d ≤ 9223372036854775807) (hd : d ≠ 0) (hb1 : aN n d ≤ 1073741824) (hb2 : aD n d ≤ 1073741824) (hn : n < 0) (hdn : d < 0) : Calls Tryd.prog 13 #[.int .i64 n, .int .i64 d] w fun e w' => e = .returned (.tuple #[.agg #[.int .i64 (aN n d : Int), .int .i64 (aD n d : Int)], .int .i64 0]) ∧ Ext w w' := by
  have t3 : decide (n < 0) = true := decide_eq_true (by omega)
  have t4 : decide (d < 0) = true := decide_eq_true (by omega)
  have hgp := gg_pos (num := n) hd
  have hnl := aN_le n d
  have hdl := aD_le n d
  have hdp := aD_pos (num := n) hd
  have C42 := Lib.hid (fun (m : Int) (W : World) (h0 : -9223372036854775808 ≤ m) (h1 : m ≤ 9223372036854775807) => size_x m W h0 h1)
  have C43 : Hid (∀ W, Calls Tryd.prog 43 #[.int .u64 n.natAbs, .int .u64 d.natAbs] W fun e w' => e = .returned (.int .u64 (gg n d : Nat)) ∧ Ext W w') := fun W => gcd_x n.natAbs d.natAbs W (by omega) (by omega)
  have HZ : Hid (Ext w (w.alloc (.cells #[.int .i64 0, .int .i64 0] 24))) := (Upd.refl _ w).alloc _
  have HB0 := Lib.hid (alloc0 w (.cells #[.int .i64 0, .int .i64 0] 24))
  have x1 : ((n.natAbs : Nat) : Int) / (gg n d : Int) = (aN n d : Int) := by unfold aN; simp
  have x2 : ((d.natAbs : Nat) : Int) / (gg n d : Int) = (aD n d : Int) := by unfold aD; simp
  have x3 : Int.tdiv ((n.natAbs : Nat) : Int) (gg n d : Int) = (aN n d : Int) := by rw [Int.tdiv_eq_ediv_of_nonneg (by omega)]; exact x1
  have x4 : Int.tdiv ((d.natAbs : Nat) : Int) (gg n d : Int) = (aD n d : Int) := by rw [Int.tdiv_eq_ediv_of_nonneg (by omega)]; exact x2
  have x5 : ¬ ((gg n d : Int) = 0) := by omega
  have x6 : ((gg n d : Int) == 0) = false := beq_eq_false_iff_ne.2 x5
  have x7 : IntKind.u64.wrap (aN n d : Int) = (aN n d : Int) := by rw [wrap_u64']; omega
  have x8 : IntKind.u64.wrap (aD n d : Int) = (aD n d : Int) := by rw [wrap_u64']; omega
  have tz : (d == 0) = false := beq_eq_false_iff_ne.2 hd
  have X1 := Lib.hid x1
  have X2 := Lib.hid x2
  have X3 := Lib.hid x3
  have X4 := Lib.hid x4
  clear x1 x2 x3 x4
  generalize gg n d = G at *
  generalize hNA : aN n d = NA at *
  generalize hDA : aD n d = DA at *
  generalize hna : n.natAbs = na at *
  generalize hda : d.natAbs = da at *
  have HNA := Lib.hid hNA
  have HDA := Lib.hid hDA
  have Hna := Lib.hid hna
  have Hda := Lib.hid hda
  clear hNA hDA hna hda
  have t1' : decide ((1073741824 : Int) < (NA : Int)) = false := decide_eq_false (by omega)
  have t1'' : decide (1073741824 < NA) = false := decide_eq_false (by omega)
  have t2' : decide ((1073741824 : Int) < (DA : Int)) = false := decide_eq_false (by omega)
  have t2'' : decide (1073741824 < DA) = false := decide_eq_false (by omega)
  go_enter Tryd.func13, Tryd.ntmps13
  go_wp2_with fail
  refine (C42.out _ _ n0 n1).mono ?_
  rintro e w2 ⟨rfl, h2⟩
  have HE2 := Lib.hid (HZ.out.ext h2)
  have HB2 := Lib.hid (h2.heap HB0.out (fun h => h))
  clear h2
  rw [Hna.out]
  go_wp2_with fail
  refine (C42.out _ _ d0 d1).mono ?_
  rintro e w3 ⟨rfl, h3⟩
  have HE3 := Lib.hid (HE2.out.ext h3)
  have HB3 := Lib.hid (h3.heap HB2.out (fun h => h))
  clear h3 HB2
  rw [Hda.out]
  go_wp2_with fail
  refine (C43.out _).mono ?_
  rintro e w4 ⟨rfl, h4⟩
  have HE4 := Lib.hid (HE3.out.ext h4)
  have HB4 := Lib.hid (h4.heap HB3.out (fun h => h))
  clear h4 HB3
  have c0 := cellRow HB4.out 0 _ rfl
  have c1 := cellRow HB4.out 1 _ rfl
  have f0 := frozenRow HB4.out 0
  have f1 := frozenRow HB4.out 1
  have y1 := X1.out
  have y2 := X2.out
  have y3 := X3.out
  have y4 := X4.out
  go_wp2_with fail
  go_quiet (fail)
  clear y1 y2 y3 y4
  generalize hw5 : w4.drewN nq = w5 at *
  have HE5 : Hid (Ext w w5) := by show Ext w w5; rw [← hw5]; exact HE4.out.drewN' _
  have HB5 : Hid (w5.heap[w.heap.size]? = some (.cells #[.int .i64 0, .int .i64 0] 24)) := by show _ = _; rw [← hw5]; exact HB4.out
  have hsz : w.heap.size < w5.heap.size := (Array.getElem?_eq_some_iff.1 HB5.out).1
  have hne1 : ¬ w.heap.size = w5.heap.size := by omega
  have hne2 : ¬ w5.heap.size = w.heap.size := by omega
  clear hw5 c0 c1 f0 f1 HB4
  have ha0 := alloc0 w5 (.cells #[.int .i64 0, .int .i64 0] 24)
  have o0 := cellRow ha0 0 _ rfl
  have o1 := cellRow ha0 1 _ rfl
  have u0 := frozenRow ha0 0
  have u1 := frozenRow ha0 1
  have ha1 := alloc0 w5 (.cells #[.int .i64 (NA : Int), .int .i64 (DA : Int)] 24)
  have p0 := cellRow ha1 0 _ rfl
  have p1 := cellRow ha1 1 _ rfl
  have v0 := frozenRow ha1 0
  have v1 := frozenRow ha1 1
  have c0 := cellRow HB5.out 0 _ rfl
  have c1 := cellRow HB5.out 1 _ rfl
  have f0 := frozenRow HB5.out 0
  have f1 := frozenRow HB5.out 1
  clear ha0 ha1
  go_wp2_with fail
  have hfin := allocOld (setBlock (setBlock HB5.out 0 (.int .i64 (NA : Int))) 1 (.int .i64 (DA : Int))) (.cells #[.int .i64 (NA : Int), .int .i64 (DA : Int)] 24)
  have z0 := cellRow hfin 0 _ rfl
  have z1 := cellRow hfin 1 _ rfl
  simp at z0 z1
  refine bodyPost_ret (v := .tuple #[.agg #[.int .i64 (NA : Int), .int .i64 (DA : Int)], .int .i64 0]) (by simp [results, Tryd.results13, go_sem, z0, z1]) rfl ⟨by rw [← HNA.out, ← HDA.out], ?_⟩
  exact ((HE5.out.setNew (Nat.le_refl _) _).setNew (Nat.le_refl _) _).alloc _

end Go.Proofs.YtlipjgpfhmkdhaaDoor
