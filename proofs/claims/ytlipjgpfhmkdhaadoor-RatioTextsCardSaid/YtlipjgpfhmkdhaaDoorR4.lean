/- ref.Make. -/
import Derived.Test.YtlipjgpfhmkdhaaDoorR3
namespace Go.Proofs.YtlipjgpfhmkdhaaDoor
open Go.RowKit Go.Hw
set_option linter.unusedVariables false
set_option linter.unusedSimpArgs false

theorem mk_x (n d : Int) (w : World) (n0 : -9223372036854775808 ≤ n) (n1 : n ≤ 9223372036854775807) (d0 : -9223372036854775808 ≤ d) (d1 : d ≤ 9223372036854775807) : Calls Tryd.prog 13 #[.int .i64 n, .int .i64 d] w fun e w' => e = .returned (.tuple #[.agg #[.int .i64 (mkN n d), .int .i64 (mkD n d)], .int .i64 (mkE n d)]) ∧ Ext w w' := by
  by_cases hd : d = 0
  · rw [show mkN n d = 0 from if_pos hd, show mkD n d = 0 from if_pos hd, show mkE n d = 18 from if_pos hd]
    exact mk_zero n d w hd
  · cases hb : bigB n d
    · have hb' := hb
      unfold bigB at hb'
      simp only [Bool.or_eq_false_iff, decide_eq_false_iff_not, Nat.not_lt] at hb'
      rw [show mkE n d = 0 by unfold mkE; rw [if_neg hd, hb]; rfl, show mkD n d = aD n d by unfold mkD; rw [if_neg hd, hb]; rfl, show mkN n d = qN n d by unfold mkN; rw [if_neg hd, hb]; rfl]
      unfold qN negB
      by_cases h1 : n < 0
      · by_cases h2 : d < 0
        · rw [decide_eq_true h1, decide_eq_true h2]; exact mk_good11 n d w n0 n1 d0 d1 hd hb'.1 hb'.2 h1 h2
        · rw [decide_eq_true h1, decide_eq_false h2]; exact mk_good10 n d w n0 n1 d0 d1 hd hb'.1 hb'.2 h1 (by omega)
      · by_cases h2 : d < 0
        · rw [decide_eq_false h1, decide_eq_true h2]; exact mk_good01 n d w n0 n1 d0 d1 hd hb'.1 hb'.2 (by omega) h2
        · rw [decide_eq_false h1, decide_eq_false h2]; exact mk_good00 n d w n0 n1 d0 d1 hd hb'.1 hb'.2 (by omega) (by omega)
    · rw [show mkE n d = 5 by unfold mkE; rw [if_neg hd, hb]; rfl, show mkD n d = 0 by unfold mkD; rw [if_neg hd, hb]; rfl, show mkN n d = 0 by unfold mkN; rw [if_neg hd, hb]; rfl]
      unfold bigB at hb
      simp only [Bool.or_eq_true, decide_eq_true_eq] at hb
      exact mk_big n d w n0 n1 d0 d1 hd (by omega)
def sg (x : Int) (k : Nat) : Int := if x < 0 then -(k : Int) else k
theorem sg_mul (n d : Int) : n = sg n (aN n d) * gg n d ∧ d = sg d (aD n d) * gg n d := by
  have h1 := aN_mul n d
  have h2 := aD_mul n d
  have e1 : ((aN n d * gg n d : Nat) : Int) = n.natAbs := by rw [h1]
  have e2 : ((aD n d * gg n d : Nat) : Int) = d.natAbs := by rw [h2]
  rw [Int.natCast_mul] at e1 e2
  unfold sg
  constructor
  · split
    · rw [Int.neg_mul]; omega
    · omega
  · split
    · rw [Int.neg_mul]; omega
    · omega
theorem tdiv_neg_g (n d : Int) (hd : d ≠ 0) : Int.tdiv n (-(gg n d : Int)) = -(sg n (aN n d)) ∧ Int.tdiv d (-(gg n d : Int)) = -(sg d (aD n d)) := by
  obtain ⟨h1, h2⟩ := sg_mul n d
  have hg := gg_pos (num := n) hd
  constructor
  · rw [Int.tdiv_neg]
    have e : Int.tdiv n (gg n d) = sg n (aN n d) := by
      have : ∀ g : Int, g ≠ 0 → n = sg n (aN n d) * g → Int.tdiv n g = sg n (aN n d) := fun g hg h => by
        generalize sg n (aN n d) = s at *
        rw [h]; exact Int.mul_tdiv_cancel _ hg
      exact this _ (by omega) h1
    rw [e]
  · rw [Int.tdiv_neg]
    have e : Int.tdiv d (gg n d) = sg d (aD n d) := by
      have : ∀ g : Int, g ≠ 0 → d = sg d (aD n d) * g → Int.tdiv d g = sg d (aD n d) := fun g hg h => by
        generalize sg d (aD n d) = s at *
        rw [h]; exact Int.mul_tdiv_cancel _ hg
      exact this _ (by omega) h2
    rw [e]
def W64 (x y : Int) : Prop := (x = 9223372036854775808 ∧ y = -9223372036854775808) ∨ (x < 9223372036854775808 ∧ y = x)
theorem wrap64_W (x : Int) (h0 : -9223372036854775808 ≤ x) (h1 : x ≤ 9223372036854775808) : W64 x (wrap64 x) := by
  unfold W64 wrap64
  omega
def badB (n d : Int) : Bool := decide (n < -1073741824) || decide (1073741824 < n) || decide (d < 1) || decide (1073741824 < d)
theorem ref_pair (n d N1 D1 N2 D2 : Int) (n0 : -9223372036854775808 ≤ n) (n1 : n ≤ 9223372036854775807) (d0 : -9223372036854775808 ≤ d) (d1 : d ≤ 9223372036854775807) (hd : d ≠ 0)
    (h1 : W64 (-(sg n (aN n d))) N1) (h2 : W64 (-(sg d (aD n d))) D1) (h3 : W64 (-N1) N2) (h4 : W64 (-D1) D2) :
    (D1 < 0 → (badB N2 D2 = bigB n d) ∧ (badB N2 D2 = false → N2 = qN n d ∧ D2 = aD n d)) ∧ (0 ≤ D1 → (badB N1 D1 = bigB n d) ∧ (badB N1 D1 = false → N1 = qN n d ∧ D1 = aD n d)) := by
  have a1 := aN_le n d
  have a2 := aD_le n d
  have a3 := aD_pos (num := n) hd
  unfold W64 sg at h1 h2
  unfold W64 at h3 h4
  unfold badB bigB qN negB
  generalize aN n d = A at *
  generalize aD n d = B at *
  by_cases hn : n < 0 <;> by_cases hdn : d < 0 <;>
    simp only [hn, hdn, if_true, if_false, decide_true, decide_false, bne_self_eq_false, Bool.true_bne, Bool.false_bne, Bool.not_false, Bool.false_eq_true, if_pos, if_neg] at h1 h2 ⊢ <;>
    refine ⟨fun h => ⟨?_, ?_⟩, fun h => ⟨?_, ?_⟩⟩ <;>
    first
      | (rw [Bool.eq_iff_iff]; simp only [Bool.or_eq_true, decide_eq_true_eq]; omega)
      | (simp only [Bool.or_eq_false_iff, decide_eq_false_iff_not]; omega)
theorem mk_of {n d nn dd : Int} (hd : d ≠ 0) (h : (badB nn dd = bigB n d) ∧ (badB nn dd = false → nn = qN n d ∧ dd = aD n d)) :
    (badB nn dd = true → mkE n d = 5 ∧ mkN n d = 0 ∧ mkD n d = 0) ∧ (badB nn dd = false → mkE n d = 0 ∧ mkN n d = nn ∧ mkD n d = dd) := by
  constructor
  · intro hb
    have hb2 := h.1.symm.trans hb
    unfold mkE mkN mkD
    rw [if_neg hd, if_neg hd, if_neg hd, hb2]
    exact ⟨rfl, rfl, rfl⟩
  · intro hb
    have hb2 := h.1.symm.trans hb
    obtain ⟨e1, e2⟩ := h.2 hb
    unfold mkE mkN mkD
    rw [if_neg hd, if_neg hd, if_neg hd, hb2, e1, e2]
    exact ⟨rfl, rfl, rfl⟩

set_option maxRecDepth 100000 in
set_option maxHeartbeats 2000000 in
theorem rmk00 (n d : Int) (w : World) (n0 : -9223372036854775808 ≤ n) (n1 : n ≤ 9223372036854775807) (d0 : -9223372036854775808 ≤ d) (d1 : d ≤ 9223372036854775807) (hd : d ≠ 0) (hn : n ≤ 0) (hdn : d ≤ 0) : Calls Tryd.prog 14 #[.int .i64 n, .int .i64 d] w fun e w' => e = .returned (.tuple #[.agg #[.int .i64 (mkN n d), .int .i64 (mkD n d)], .int .i64 (mkE n d)]) ∧ Ext w w' := by
  have hgp := gg_pos (num := n) hd
  have hnl := aN_le n d
  have hdl := aD_le n d
  have hdp := aD_pos (num := n) hd
  obtain ⟨y1, y2⟩ := tdiv_neg_g n d hd
  have tz : (d == 0) = false := beq_eq_false_iff_ne.2 hd
  have t3 : decide (0 < n) = false := decide_eq_false (by omega)
  have t4 : decide (0 < d) = false := decide_eq_false (by omega)
  have HZ : Hid (Ext w (w.alloc (.cells #[.int .i64 0, .int .i64 0] 24))) := (Upd.refl _ w).alloc _
  have HB0 := Lib.hid (alloc0 w (.cells #[.int .i64 0, .int .i64 0] 24))
  have HG : Hid (gg n d = Nat.gcd n.natAbs d.natAbs) := rfl
  have Y1 := Lib.hid y1
  have Y2 := Lib.hid y2
  clear y1 y2
  go_enter Tryd.func14, Tryd.ntmps14
  go_wp2_with fail
  go_loopg [6, 7] d.natAbs (fun gk av bv wr => ∃ x y : Nat, av = .int .i64 (-(x : Int)) ∧ bv = .int .i64 (-(y : Int)) ∧ y = gk ∧ x ≤ 9223372036854775808 ∧ y ≤ 9223372036854775808 ∧ Hid (Ext (w.alloc (.cells #[.int .i64 0, .int .i64 0] 24)) wr) ∧ Hid (gg n d = Nat.gcd x y))
  case atStart => exact ⟨n.natAbs, d.natAbs, by congr 1; omega, by congr 1; omega, rfl, by omega, by omega, Upd.refl _ _, HG.out⟩
  case round =>
    obtain ⟨x, y, rfl, rfl, rfl, hx, hy, HE, Hg⟩ := hrel
    by_cases h : y = 0
    · subst h
      have hg : gg n d = x := by rw [Hg.out]; exact Nat.gcd_zero_right x
      have q1 := Y1.out
      have q2 := Y2.out
      rw [hg] at q1 q2
      have hx0 : 0 < x := by omega
      have hx1 : ¬ (-(x : Int) = 0) := by omega
      have hx2 : (-(x : Int) == 0) = false := beq_eq_false_iff_ne.2 hx1
      have hx3 : ¬ (x = 0) := by omega
      clear Hg HG
      have hb1 : -9223372036854775808 ≤ -(sg n (aN n d)) ∧ -(sg n (aN n d)) ≤ 9223372036854775808 := by unfold sg; split <;> omega
      have hb2 : -9223372036854775808 ≤ -(sg d (aD n d)) ∧ -(sg d (aD n d)) ≤ 9223372036854775808 := by unfold sg; split <;> omega
      have w1 := wrap64_W _ hb1.1 hb1.2
      have w2 := wrap64_W _ hb2.1 hb2.2
      obtain ⟨N1, hN1⟩ : ∃ N1, wrap64 (-(sg n (aN n d))) = N1 := ⟨_, rfl⟩
      obtain ⟨D1, hD1⟩ : ∃ D1, wrap64 (-(sg d (aD n d))) = D1 := ⟨_, rfl⟩
      rw [hN1] at w1
      rw [hD1] at w2
      have w1' := w1
      have w2' := w2
      unfold W64 at w1' w2'
      have w3 := wrap64_W (-N1) (by omega) (by omega)
      have w4 := wrap64_W (-D1) (by omega) (by omega)
      obtain ⟨N2, hN2⟩ : ∃ N2, wrap64 (-N1) = N2 := ⟨_, rfl⟩
      obtain ⟨D2, hD2⟩ : ∃ D2, wrap64 (-D1) = D2 := ⟨_, rfl⟩
      rw [hN2] at w3
      rw [hD2] at w4
      have hpair := ref_pair n d N1 D1 N2 D2 n0 n1 d0 d1 hd w1 w2 w3 w4
      clear w1 w2 w3 w4 w1' w2' hb1 hb2 hnl hdl hdp hgp
      generalize sg n (aN n d) = SN at *
      generalize sg d (aD n d) = SD at *
      have hbl := HE.out.heap HB0.out (fun h => h)
      have c0 := cellRow hbl 0 _ rfl
      have c1 := cellRow hbl 1 _ rfl
      have f0 := frozenRow hbl 0
      have f1 := frozenRow hbl 1
      have HEW := Lib.hid (HZ.out.ext HE.out)
      clear hbl Y1 Y2 HZ HB0 HE
      by_cases hDD : D1 < 0
      · have t9 : decide (D1 < 0) = true := decide_eq_true hDD
        have hmk := mk_of hd (hpair.1 hDD)
        clear hpair hDD
        rcases (by omega : N2 < -1073741824 ∨ (-1073741824 ≤ N2 ∧ 1073741824 < N2) ∨ (-1073741824 ≤ N2 ∧ N2 ≤ 1073741824 ∧ D2 < 1) ∨ (-1073741824 ≤ N2 ∧ N2 ≤ 1073741824 ∧ 1 ≤ D2 ∧ 1073741824 < D2) ∨ (-1073741824 ≤ N2 ∧ N2 ≤ 1073741824 ∧ 1 ≤ D2 ∧ D2 ≤ 1073741824)) with h1 | ⟨h1, h2⟩ | ⟨h1, h2, h3⟩ | ⟨h1, h2, h3, h4⟩ | ⟨h1, h2, h3, h4⟩
        · have s0 : decide (N2 < -1073741824) = true := decide_eq_true (by omega)
          have hbb : badB N2 D2 = true := by unfold badB; simp only [Bool.or_eq_true, decide_eq_true_eq]; omega
          obtain ⟨e1, e2, e3⟩ := hmk.1 hbb
          have E1 := Lib.hid e1
          have E2 := Lib.hid e2
          have E3 := Lib.hid e3
          clear e1 e2 e3 hbb hmk
          go_wp2_with fail
          refine bodyPost_ret (v := .tuple #[.agg #[.int .i64 0, .int .i64 0], .int .i64 5]) (by simp [results, Tryd.results14, go_sem, c0, c1]) rfl ⟨by rw [E1.out, E2.out, E3.out], ?_⟩
          first | exact (HEW.out.setNew (Nat.le_refl _) _).setNew (Nat.le_refl _) _ | exact HEW.out
        · have s0 : decide (N2 < -1073741824) = false := decide_eq_false (by omega)
          have s1 : decide ((1073741824 : Int) < N2) = true := decide_eq_true (by omega)
          have hbb : badB N2 D2 = true := by unfold badB; simp only [Bool.or_eq_true, decide_eq_true_eq]; omega
          obtain ⟨e1, e2, e3⟩ := hmk.1 hbb
          have E1 := Lib.hid e1
          have E2 := Lib.hid e2
          have E3 := Lib.hid e3
          clear e1 e2 e3 hbb hmk
          go_wp2_with fail
          refine bodyPost_ret (v := .tuple #[.agg #[.int .i64 0, .int .i64 0], .int .i64 5]) (by simp [results, Tryd.results14, go_sem, c0, c1]) rfl ⟨by rw [E1.out, E2.out, E3.out], ?_⟩
          first | exact (HEW.out.setNew (Nat.le_refl _) _).setNew (Nat.le_refl _) _ | exact HEW.out
        · have s0 : decide (N2 < -1073741824) = false := decide_eq_false (by omega)
          have s1 : decide ((1073741824 : Int) < N2) = false := decide_eq_false (by omega)
          have s2 : decide (D2 < 1) = true := decide_eq_true (by omega)
          have hbb : badB N2 D2 = true := by unfold badB; simp only [Bool.or_eq_true, decide_eq_true_eq]; omega
          obtain ⟨e1, e2, e3⟩ := hmk.1 hbb
          have E1 := Lib.hid e1
          have E2 := Lib.hid e2
          have E3 := Lib.hid e3
          clear e1 e2 e3 hbb hmk
          go_wp2_with fail
          refine bodyPost_ret (v := .tuple #[.agg #[.int .i64 0, .int .i64 0], .int .i64 5]) (by simp [results, Tryd.results14, go_sem, c0, c1]) rfl ⟨by rw [E1.out, E2.out, E3.out], ?_⟩
          first | exact (HEW.out.setNew (Nat.le_refl _) _).setNew (Nat.le_refl _) _ | exact HEW.out
        · have s0 : decide (N2 < -1073741824) = false := decide_eq_false (by omega)
          have s1 : decide ((1073741824 : Int) < N2) = false := decide_eq_false (by omega)
          have s2 : decide (D2 < 1) = false := decide_eq_false (by omega)
          have s3 : decide ((1073741824 : Int) < D2) = true := decide_eq_true (by omega)
          have hbb : badB N2 D2 = true := by unfold badB; simp only [Bool.or_eq_true, decide_eq_true_eq]; omega
          obtain ⟨e1, e2, e3⟩ := hmk.1 hbb
          have E1 := Lib.hid e1
          have E2 := Lib.hid e2
          have E3 := Lib.hid e3
          clear e1 e2 e3 hbb hmk
          go_wp2_with fail
          refine bodyPost_ret (v := .tuple #[.agg #[.int .i64 0, .int .i64 0], .int .i64 5]) (by simp [results, Tryd.results14, go_sem, c0, c1]) rfl ⟨by rw [E1.out, E2.out, E3.out], ?_⟩
          first | exact (HEW.out.setNew (Nat.le_refl _) _).setNew (Nat.le_refl _) _ | exact HEW.out
        · have s0 : decide (N2 < -1073741824) = false := decide_eq_false (by omega)
          have s1 : decide ((1073741824 : Int) < N2) = false := decide_eq_false (by omega)
          have s2 : decide (D2 < 1) = false := decide_eq_false (by omega)
          have s3 : decide ((1073741824 : Int) < D2) = false := decide_eq_false (by omega)
          have hbb : badB N2 D2 = false := by unfold badB; simp only [Bool.or_eq_false_iff, decide_eq_false_iff_not]; omega
          obtain ⟨e1, e2, e3⟩ := hmk.2 hbb
          have E1 := Lib.hid e1
          have E2 := Lib.hid e2
          have E3 := Lib.hid e3
          clear e1 e2 e3 hbb hmk
          go_wp2_with fail
          refine bodyPost_ret (v := .tuple #[.agg #[.int .i64 N2, .int .i64 D2], .int .i64 0]) (by simp [results, Tryd.results14, go_sem, c0, c1]) rfl ⟨by rw [E1.out, E2.out, E3.out], ?_⟩
          first | exact (HEW.out.setNew (Nat.le_refl _) _).setNew (Nat.le_refl _) _ | exact HEW.out
      · have t9 : decide (D1 < 0) = false := decide_eq_false hDD
        have hmk := mk_of hd (hpair.2 (by omega))
        clear hpair hDD
        rcases (by omega : N1 < -1073741824 ∨ (-1073741824 ≤ N1 ∧ 1073741824 < N1) ∨ (-1073741824 ≤ N1 ∧ N1 ≤ 1073741824 ∧ D1 < 1) ∨ (-1073741824 ≤ N1 ∧ N1 ≤ 1073741824 ∧ 1 ≤ D1 ∧ 1073741824 < D1) ∨ (-1073741824 ≤ N1 ∧ N1 ≤ 1073741824 ∧ 1 ≤ D1 ∧ D1 ≤ 1073741824)) with h1 | ⟨h1, h2⟩ | ⟨h1, h2, h3⟩ | ⟨h1, h2, h3, h4⟩ | ⟨h1, h2, h3, h4⟩
        · have s0 : decide (N1 < -1073741824) = true := decide_eq_true (by omega)
          have hbb : badB N1 D1 = true := by unfold badB; simp only [Bool.or_eq_true, decide_eq_true_eq]; omega
          obtain ⟨e1, e2, e3⟩ := hmk.1 hbb
          have E1 := Lib.hid e1
          have E2 := Lib.hid e2
          have E3 := Lib.hid e3
          clear e1 e2 e3 hbb hmk
          go_wp2_with fail
          refine bodyPost_ret (v := .tuple #[.agg #[.int .i64 0, .int .i64 0], .int .i64 5]) (by simp [results, Tryd.results14, go_sem, c0, c1]) rfl ⟨by rw [E1.out, E2.out, E3.out], ?_⟩
          first | exact (HEW.out.setNew (Nat.le_refl _) _).setNew (Nat.le_refl _) _ | exact HEW.out
        · have s0 : decide (N1 < -1073741824) = false := decide_eq_false (by omega)
          have s1 : decide ((1073741824 : Int) < N1) = true := decide_eq_true (by omega)
          have hbb : badB N1 D1 = true := by unfold badB; simp only [Bool.or_eq_true, decide_eq_true_eq]; omega
          obtain ⟨e1, e2, e3⟩ := hmk.1 hbb
          have E1 := Lib.hid e1
          have E2 := Lib.hid e2
          have E3 := Lib.hid e3
          clear e1 e2 e3 hbb hmk
          go_wp2_with fail
          refine bodyPost_ret (v := .tuple #[.agg #[.int .i64 0, .int .i64 0], .int .i64 5]) (by simp [results, Tryd.results14, go_sem, c0, c1]) rfl ⟨by rw [E1.out, E2.out, E3.out], ?_⟩
          first | exact (HEW.out.setNew (Nat.le_refl _) _).setNew (Nat.le_refl _) _ | exact HEW.out
        · have s0 : decide (N1 < -1073741824) = false := decide_eq_false (by omega)
          have s1 : decide ((1073741824 : Int) < N1) = false := decide_eq_false (by omega)
          have s2 : decide (D1 < 1) = true := decide_eq_true (by omega)
          have hbb : badB N1 D1 = true := by unfold badB; simp only [Bool.or_eq_true, decide_eq_true_eq]; omega
          obtain ⟨e1, e2, e3⟩ := hmk.1 hbb
          have E1 := Lib.hid e1
          have E2 := Lib.hid e2
          have E3 := Lib.hid e3
          clear e1 e2 e3 hbb hmk
          go_wp2_with fail
          refine bodyPost_ret (v := .tuple #[.agg #[.int .i64 0, .int .i64 0], .int .i64 5]) (by simp [results, Tryd.results14, go_sem, c0, c1]) rfl ⟨by rw [E1.out, E2.out, E3.out], ?_⟩
          first | exact (HEW.out.setNew (Nat.le_refl _) _).setNew (Nat.le_refl _) _ | exact HEW.out
        · have s0 : decide (N1 < -1073741824) = false := decide_eq_false (by omega)
          have s1 : decide ((1073741824 : Int) < N1) = false := decide_eq_false (by omega)
          have s2 : decide (D1 < 1) = false := decide_eq_false (by omega)
          have s3 : decide ((1073741824 : Int) < D1) = true := decide_eq_true (by omega)
          have hbb : badB N1 D1 = true := by unfold badB; simp only [Bool.or_eq_true, decide_eq_true_eq]; omega
          obtain ⟨e1, e2, e3⟩ := hmk.1 hbb
          have E1 := Lib.hid e1
          have E2 := Lib.hid e2
          have E3 := Lib.hid e3
          clear e1 e2 e3 hbb hmk
          go_wp2_with fail
          refine bodyPost_ret (v := .tuple #[.agg #[.int .i64 0, .int .i64 0], .int .i64 5]) (by simp [results, Tryd.results14, go_sem, c0, c1]) rfl ⟨by rw [E1.out, E2.out, E3.out], ?_⟩
          first | exact (HEW.out.setNew (Nat.le_refl _) _).setNew (Nat.le_refl _) _ | exact HEW.out
        · have s0 : decide (N1 < -1073741824) = false := decide_eq_false (by omega)
          have s1 : decide ((1073741824 : Int) < N1) = false := decide_eq_false (by omega)
          have s2 : decide (D1 < 1) = false := decide_eq_false (by omega)
          have s3 : decide ((1073741824 : Int) < D1) = false := decide_eq_false (by omega)
          have hbb : badB N1 D1 = false := by unfold badB; simp only [Bool.or_eq_false_iff, decide_eq_false_iff_not]; omega
          obtain ⟨e1, e2, e3⟩ := hmk.2 hbb
          have E1 := Lib.hid e1
          have E2 := Lib.hid e2
          have E3 := Lib.hid e3
          clear e1 e2 e3 hbb hmk
          go_wp2_with fail
          refine bodyPost_ret (v := .tuple #[.agg #[.int .i64 N1, .int .i64 D1], .int .i64 0]) (by simp [results, Tryd.results14, go_sem, c0, c1]) rfl ⟨by rw [E1.out, E2.out, E3.out], ?_⟩
          first | exact (HEW.out.setNew (Nat.le_refl _) _).setNew (Nat.le_refl _) _ | exact HEW.out
    · have t1 : (-(y : Int) != 0) = true := by simp; omega
      have t2 : ¬ (-(y : Int) = 0) := by omega
      have t3 : (-(y : Int) == 0) = false := beq_eq_false_iff_ne.2 t2
      have t5 : ¬ (y = 0) := h
      have m2 : Int.tmod (-(x : Int)) (-(y : Int)) = -((x % y : Nat) : Int) := by rw [Int.tmod_neg, Int.neg_tmod, Int.tmod_eq_emod_of_nonneg (by omega)]; simp
      have m4 : Int.tmod (x : Int) (y : Int) = ((x % y : Nat) : Int) := by rw [Int.tmod_eq_emod_of_nonneg (by omega)]; simp
      have hlt := Nat.mod_lt x (show 0 < y by omega)
      have hg2 : gg n d = Nat.gcd y (x % y) := by rw [Hg.out, Nat.gcd_comm x y, Nat.gcd_rec y x, Nat.gcd_comm]
      have HG2 := Lib.hid hg2
      clear hg2 Hg HG
      generalize x % y = z at *
      go_wp2_with fail
      go_quiet (fail)
      go_wp2_with fail
      go_roundg z
      case measure => exact hlt
      case rel => exact ⟨y, z, rfl, rfl, rfl, hy, by omega, HE.out.drewN' _, HG2.out⟩

set_option maxRecDepth 100000 in
set_option maxHeartbeats 2000000 in
theorem rmk01 (n d : Int) (w : World) (n0 : -9223372036854775808 ≤ n) (n1 : n ≤ 9223372036854775807) (d0 : -9223372036854775808 ≤ d) (d1 : d ≤ 9223372036854775807) (hd : d ≠ 0) (hn : n ≤ 0) (hdn : 0 < d) : Calls Tryd.prog 14 #[.int .i64 n, .int .i64 d] w fun e w' => e = .returned (.tuple #[.agg #[.int .i64 (mkN n d), .int .i64 (mkD n d)], .int .i64 (mkE n d)]) ∧ Ext w w' := by
  have hgp := gg_pos (num := n) hd
  have hnl := aN_le n d
  have hdl := aD_le n d
  have hdp := aD_pos (num := n) hd
  obtain ⟨y1, y2⟩ := tdiv_neg_g n d hd
  have tz : (d == 0) = false := beq_eq_false_iff_ne.2 hd
  have t3 : decide (0 < n) = false := decide_eq_false (by omega)
  have t4 : decide (0 < d) = true := decide_eq_true (by omega)
  have HZ : Hid (Ext w (w.alloc (.cells #[.int .i64 0, .int .i64 0] 24))) := (Upd.refl _ w).alloc _
  have HB0 := Lib.hid (alloc0 w (.cells #[.int .i64 0, .int .i64 0] 24))
  have HG : Hid (gg n d = Nat.gcd n.natAbs d.natAbs) := rfl
  have Y1 := Lib.hid y1
  have Y2 := Lib.hid y2
  clear y1 y2
  go_enter Tryd.func14, Tryd.ntmps14
  go_wp2_with fail
  go_loopg [6, 7] d.natAbs (fun gk av bv wr => ∃ x y : Nat, av = .int .i64 (-(x : Int)) ∧ bv = .int .i64 (-(y : Int)) ∧ y = gk ∧ x ≤ 9223372036854775808 ∧ y ≤ 9223372036854775808 ∧ Hid (Ext (w.alloc (.cells #[.int .i64 0, .int .i64 0] 24)) wr) ∧ Hid (gg n d = Nat.gcd x y))
  case atStart => exact ⟨n.natAbs, d.natAbs, by congr 1; omega, by congr 1; omega, rfl, by omega, by omega, Upd.refl _ _, HG.out⟩
  case round =>
    obtain ⟨x, y, rfl, rfl, rfl, hx, hy, HE, Hg⟩ := hrel
    by_cases h : y = 0
    · subst h
      have hg : gg n d = x := by rw [Hg.out]; exact Nat.gcd_zero_right x
      have q1 := Y1.out
      have q2 := Y2.out
      rw [hg] at q1 q2
      have hx0 : 0 < x := by omega
      have hx1 : ¬ (-(x : Int) = 0) := by omega
      have hx2 : (-(x : Int) == 0) = false := beq_eq_false_iff_ne.2 hx1
      have hx3 : ¬ (x = 0) := by omega
      clear Hg HG
      have hb1 : -9223372036854775808 ≤ -(sg n (aN n d)) ∧ -(sg n (aN n d)) ≤ 9223372036854775808 := by unfold sg; split <;> omega
      have hb2 : -9223372036854775808 ≤ -(sg d (aD n d)) ∧ -(sg d (aD n d)) ≤ 9223372036854775808 := by unfold sg; split <;> omega
      have w1 := wrap64_W _ hb1.1 hb1.2
      have w2 := wrap64_W _ hb2.1 hb2.2
      obtain ⟨N1, hN1⟩ : ∃ N1, wrap64 (-(sg n (aN n d))) = N1 := ⟨_, rfl⟩
      obtain ⟨D1, hD1⟩ : ∃ D1, wrap64 (-(sg d (aD n d))) = D1 := ⟨_, rfl⟩
      rw [hN1] at w1
      rw [hD1] at w2
      have w1' := w1
      have w2' := w2
      unfold W64 at w1' w2'
      have w3 := wrap64_W (-N1) (by omega) (by omega)
      have w4 := wrap64_W (-D1) (by omega) (by omega)
      obtain ⟨N2, hN2⟩ : ∃ N2, wrap64 (-N1) = N2 := ⟨_, rfl⟩
      obtain ⟨D2, hD2⟩ : ∃ D2, wrap64 (-D1) = D2 := ⟨_, rfl⟩
      rw [hN2] at w3
      rw [hD2] at w4
      have hpair := ref_pair n d N1 D1 N2 D2 n0 n1 d0 d1 hd w1 w2 w3 w4
      clear w1 w2 w3 w4 w1' w2' hb1 hb2 hnl hdl hdp hgp
      generalize sg n (aN n d) = SN at *
      generalize sg d (aD n d) = SD at *
      have hbl := HE.out.heap HB0.out (fun h => h)
      have c0 := cellRow hbl 0 _ rfl
      have c1 := cellRow hbl 1 _ rfl
      have f0 := frozenRow hbl 0
      have f1 := frozenRow hbl 1
      have HEW := Lib.hid (HZ.out.ext HE.out)
      clear hbl Y1 Y2 HZ HB0 HE
      by_cases hDD : D1 < 0
      · have t9 : decide (D1 < 0) = true := decide_eq_true hDD
        have hmk := mk_of hd (hpair.1 hDD)
        clear hpair hDD
        rcases (by omega : N2 < -1073741824 ∨ (-1073741824 ≤ N2 ∧ 1073741824 < N2) ∨ (-1073741824 ≤ N2 ∧ N2 ≤ 1073741824 ∧ D2 < 1) ∨ (-1073741824 ≤ N2 ∧ N2 ≤ 1073741824 ∧ 1 ≤ D2 ∧ 1073741824 < D2) ∨ (-1073741824 ≤ N2 ∧ N2 ≤ 1073741824 ∧ 1 ≤ D2 ∧ D2 ≤ 1073741824)) with h1 | ⟨h1, h2⟩ | ⟨h1, h2, h3⟩ | ⟨h1, h2, h3, h4⟩ | ⟨h1, h2, h3, h4⟩
        · have s0 : decide (N2 < -1073741824) = true := decide_eq_true (by omega)
          have hbb : badB N2 D2 = true := by unfold badB; simp only [Bool.or_eq_true, decide_eq_true_eq]; omega
          obtain ⟨e1, e2, e3⟩ := hmk.1 hbb
          have E1 := Lib.hid e1
          have E2 := Lib.hid e2
          have E3 := Lib.hid e3
          clear e1 e2 e3 hbb hmk
          go_wp2_with fail
          refine bodyPost_ret (v := .tuple #[.agg #[.int .i64 0, .int .i64 0], .int .i64 5]) (by simp [results, Tryd.results14, go_sem, c0, c1]) rfl ⟨by rw [E1.out, E2.out, E3.out], ?_⟩
          first | exact (HEW.out.setNew (Nat.le_refl _) _).setNew (Nat.le_refl _) _ | exact HEW.out
        · have s0 : decide (N2 < -1073741824) = false := decide_eq_false (by omega)
          have s1 : decide ((1073741824 : Int) < N2) = true := decide_eq_true (by omega)
          have hbb : badB N2 D2 = true := by unfold badB; simp only [Bool.or_eq_true, decide_eq_true_eq]; omega
          obtain ⟨e1, e2, e3⟩ := hmk.1 hbb
          have E1 := Lib.hid e1
          have E2 := Lib.hid e2
          have E3 := Lib.hid e3
          clear e1 e2 e3 hbb hmk
          go_wp2_with fail
          refine bodyPost_ret (v := .tuple #[.agg #[.int .i64 0, .int .i64 0], .int .i64 5]) (by simp [results, Tryd.results14, go_sem, c0, c1]) rfl ⟨by rw [E1.out, E2.out, E3.out], ?_⟩
          first | exact (HEW.out.setNew (Nat.le_refl _) _).setNew (Nat.le_refl _) _ | exact HEW.out
        · have s0 : decide (N2 < -1073741824) = false := decide_eq_false (by omega)
          have s1 : decide ((1073741824 : Int) < N2) = false := decide_eq_false (by omega)
          have s2 : decide (D2 < 1) = true := decide_eq_true (by omega)
          have hbb : badB N2 D2 = true := by unfold badB; simp only [Bool.or_eq_true, decide_eq_true_eq]; omega
          obtain ⟨e1, e2, e3⟩ := hmk.1 hbb
          have E1 := Lib.hid e1
          have E2 := Lib.hid e2
          have E3 := Lib.hid e3
          clear e1 e2 e3 hbb hmk
          go_wp2_with fail
          refine bodyPost_ret (v := .tuple #[.agg #[.int .i64 0, .int .i64 0], .int .i64 5]) (by simp [results, Tryd.results14, go_sem, c0, c1]) rfl ⟨by rw [E1.out, E2.out, E3.out], ?_⟩
          first | exact (HEW.out.setNew (Nat.le_refl _) _).setNew (Nat.le_refl _) _ | exact HEW.out
        · have s0 : decide (N2 < -1073741824) = false := decide_eq_false (by omega)
          have s1 : decide ((1073741824 : Int) < N2) = false := decide_eq_false (by omega)
          have s2 : decide (D2 < 1) = false := decide_eq_false (by omega)
          have s3 : decide ((1073741824 : Int) < D2) = true := decide_eq_true (by omega)
          have hbb : badB N2 D2 = true := by unfold badB; simp only [Bool.or_eq_true, decide_eq_true_eq]; omega
          obtain ⟨e1, e2, e3⟩ := hmk.1 hbb
          have E1 := Lib.hid e1
          have E2 := Lib.hid e2
          have E3 := Lib.hid e3
          clear e1 e2 e3 hbb hmk
          go_wp2_with fail
          refine bodyPost_ret (v := .tuple #[.agg #[.int .i64 0, .int .i64 0], .int .i64 5]) (by simp [results, Tryd.results14, go_sem, c0, c1]) rfl ⟨by rw [E1.out, E2.out, E3.out], ?_⟩
          first | exact (HEW.out.setNew (Nat.le_refl _) _).setNew (Nat.le_refl _) _ | exact HEW.out
        · have s0 : decide (N2 < -1073741824) = false := decide_eq_false (by omega)
          have s1 : decide ((1073741824 : Int) < N2) = false := decide_eq_false (by omega)
          have s2 : decide (D2 < 1) = false := decide_eq_false (by omega)
          have s3 : decide ((1073741824 : Int) < D2) = false := decide_eq_false (by omega)
          have hbb : badB N2 D2 = false := by unfold badB; simp only [Bool.or_eq_false_iff, decide_eq_false_iff_not]; omega
          obtain ⟨e1, e2, e3⟩ := hmk.2 hbb
          have E1 := Lib.hid e1
          have E2 := Lib.hid e2
          have E3 := Lib.hid e3
          clear e1 e2 e3 hbb hmk
          go_wp2_with fail
          refine bodyPost_ret (v := .tuple #[.agg #[.int .i64 N2, .int .i64 D2], .int .i64 0]) (by simp [results, Tryd.results14, go_sem, c0, c1]) rfl ⟨by rw [E1.out, E2.out, E3.out], ?_⟩
          first | exact (HEW.out.setNew (Nat.le_refl _) _).setNew (Nat.le_refl _) _ | exact HEW.out
      · have t9 : decide (D1 < 0) = false := decide_eq_false hDD
        have hmk := mk_of hd (hpair.2 (by omega))
        clear hpair hDD
        rcases (by omega : N1 < -1073741824 ∨ (-1073741824 ≤ N1 ∧ 1073741824 < N1) ∨ (-1073741824 ≤ N1 ∧ N1 ≤ 1073741824 ∧ D1 < 1) ∨ (-1073741824 ≤ N1 ∧ N1 ≤ 1073741824 ∧ 1 ≤ D1 ∧ 1073741824 < D1) ∨ (-1073741824 ≤ N1 ∧ N1 ≤ 1073741824 ∧ 1 ≤ D1 ∧ D1 ≤ 1073741824)) with h1 | ⟨h1, h2⟩ | ⟨h1, h2, h3⟩ | ⟨h1, h2, h3, h4⟩ | ⟨h1, h2, h3, h4⟩
        · have s0 : decide (N1 < -1073741824) = true := decide_eq_true (by omega)
          have hbb : badB N1 D1 = true := by unfold badB; simp only [Bool.or_eq_true, decide_eq_true_eq]; omega
          obtain ⟨e1, e2, e3⟩ := hmk.1 hbb
          have E1 := Lib.hid e1
          have E2 := Lib.hid e2
          have E3 := Lib.hid e3
          clear e1 e2 e3 hbb hmk
          go_wp2_with fail
          refine bodyPost_ret (v := .tuple #[.agg #[.int .i64 0, .int .i64 0], .int .i64 5]) (by simp [results, Tryd.results14, go_sem, c0, c1]) rfl ⟨by rw [E1.out, E2.out, E3.out], ?_⟩
          first | exact (HEW.out.setNew (Nat.le_refl _) _).setNew (Nat.le_refl _) _ | exact HEW.out
        · have s0 : decide (N1 < -1073741824) = false := decide_eq_false (by omega)
          have s1 : decide ((1073741824 : Int) < N1) = true := decide_eq_true (by omega)
          have hbb : badB N1 D1 = true := by unfold badB; simp only [Bool.or_eq_true, decide_eq_true_eq]; omega
          obtain ⟨e1, e2, e3⟩ := hmk.1 hbb
          have E1 := Lib.hid e1
          have E2 := Lib.hid e2
          have E3 := Lib.hid e3
          clear e1 e2 e3 hbb hmk
          go_wp2_with fail
          refine bodyPost_ret (v := .tuple #[.agg #[.int .i64 0, .int .i64 0], .int .i64 5]) (by simp [results, Tryd.results14, go_sem, c0, c1]) rfl ⟨by rw [E1.out, E2.out, E3.out], ?_⟩
          first | exact (HEW.out.setNew (Nat.le_refl _) _).setNew (Nat.le_refl _) _ | exact HEW.out
        · have s0 : decide (N1 < -1073741824) = false := decide_eq_false (by omega)
          have s1 : decide ((1073741824 : Int) < N1) = false := decide_eq_false (by omega)
          have s2 : decide (D1 < 1) = true := decide_eq_true (by omega)
          have hbb : badB N1 D1 = true := by unfold badB; simp only [Bool.or_eq_true, decide_eq_true_eq]; omega
          obtain ⟨e1, e2, e3⟩ := hmk.1 hbb
          have E1 := Lib.hid e1
          have E2 := Lib.hid e2
          have E3 := Lib.hid e3
          clear e1 e2 e3 hbb hmk
          go_wp2_with fail
          refine bodyPost_ret (v := .tuple #[.agg #[.int .i64 0, .int .i64 0], .int .i64 5]) (by simp [results, Tryd.results14, go_sem, c0, c1]) rfl ⟨by rw [E1.out, E2.out, E3.out], ?_⟩
          first | exact (HEW.out.setNew (Nat.le_refl _) _).setNew (Nat.le_refl _) _ | exact HEW.out
        · have s0 : decide (N1 < -1073741824) = false := decide_eq_false (by omega)
          have s1 : decide ((1073741824 : Int) < N1) = false := decide_eq_false (by omega)
          have s2 : decide (D1 < 1) = false := decide_eq_false (by omega)
          have s3 : decide ((1073741824 : Int) < D1) = true := decide_eq_true (by omega)
          have hbb : badB N1 D1 = true := by unfold badB; simp only [Bool.or_eq_true, decide_eq_true_eq]; omega
          obtain ⟨e1, e2, e3⟩ := hmk.1 hbb
          have E1 := Lib.hid e1
          have E2 := Lib.hid e2
          have E3 := Lib.hid e3
          clear e1 e2 e3 hbb hmk
          go_wp2_with fail
          refine bodyPost_ret (v := .tuple #[.agg #[.int .i64 0, .int .i64 0], .int .i64 5]) (by simp [results, Tryd.results14, go_sem, c0, c1]) rfl ⟨by rw [E1.out, E2.out, E3.out], ?_⟩
          first | exact (HEW.out.setNew (Nat.le_refl _) _).setNew (Nat.le_refl _) _ | exact HEW.out
        · have s0 : decide (N1 < -1073741824) = false := decide_eq_false (by omega)
          have s1 : decide ((1073741824 : Int) < N1) = false := decide_eq_false (by omega)
          have s2 : decide (D1 < 1) = false := decide_eq_false (by omega)
          have s3 : decide ((1073741824 : Int) < D1) = false := decide_eq_false (by omega)
          have hbb : badB N1 D1 = false := by unfold badB; simp only [Bool.or_eq_false_iff, decide_eq_false_iff_not]; omega
          obtain ⟨e1, e2, e3⟩ := hmk.2 hbb
          have E1 := Lib.hid e1
          have E2 := Lib.hid e2
          have E3 := Lib.hid e3
          clear e1 e2 e3 hbb hmk
          go_wp2_with fail
          refine bodyPost_ret (v := .tuple #[.agg #[.int .i64 N1, .int .i64 D1], .int .i64 0]) (by simp [results, Tryd.results14, go_sem, c0, c1]) rfl ⟨by rw [E1.out, E2.out, E3.out], ?_⟩
          first | exact (HEW.out.setNew (Nat.le_refl _) _).setNew (Nat.le_refl _) _ | exact HEW.out
    · have t1 : (-(y : Int) != 0) = true := by simp; omega
      have t2 : ¬ (-(y : Int) = 0) := by omega
      have t3 : (-(y : Int) == 0) = false := beq_eq_false_iff_ne.2 t2
      have t5 : ¬ (y = 0) := h
      have m2 : Int.tmod (-(x : Int)) (-(y : Int)) = -((x % y : Nat) : Int) := by rw [Int.tmod_neg, Int.neg_tmod, Int.tmod_eq_emod_of_nonneg (by omega)]; simp
      have m4 : Int.tmod (x : Int) (y : Int) = ((x % y : Nat) : Int) := by rw [Int.tmod_eq_emod_of_nonneg (by omega)]; simp
      have hlt := Nat.mod_lt x (show 0 < y by omega)
      have hg2 : gg n d = Nat.gcd y (x % y) := by rw [Hg.out, Nat.gcd_comm x y, Nat.gcd_rec y x, Nat.gcd_comm]
      have HG2 := Lib.hid hg2
      clear hg2 Hg HG
      generalize x % y = z at *
      go_wp2_with fail
      go_quiet (fail)
      go_wp2_with fail
      go_roundg z
      case measure => exact hlt
      case rel => exact ⟨y, z, rfl, rfl, rfl, hy, by omega, HE.out.drewN' _, HG2.out⟩

set_option maxRecDepth 100000 in
set_option maxHeartbeats 2000000 in
theorem rmk10 (n d : Int) (w : World) (n0 : -9223372036854775808 ≤ n) (n1 : n ≤ 9223372036854775807) (d0 : -9223372036854775808 ≤ d) (d1 : d ≤ 9223372036854775807) (hd : d ≠ 0) (hn : 0 < n) (hdn : d ≤ 0) : Calls Tryd.prog 14 #[.int .i64 n, .int .i64 d] w fun e w' => e = .returned (.tuple #[.agg #[.int .i64 (mkN n d), .int .i64 (mkD n d)], .int .i64 (mkE n d)]) ∧ Ext w w' := by
  have hgp := gg_pos (num := n) hd
  have hnl := aN_le n d
  have hdl := aD_le n d
  have hdp := aD_pos (num := n) hd
  obtain ⟨y1, y2⟩ := tdiv_neg_g n d hd
  have tz : (d == 0) = false := beq_eq_false_iff_ne.2 hd
  have t3 : decide (0 < n) = true := decide_eq_true (by omega)
  have t4 : decide (0 < d) = false := decide_eq_false (by omega)
  have HZ : Hid (Ext w (w.alloc (.cells #[.int .i64 0, .int .i64 0] 24))) := (Upd.refl _ w).alloc _
  have HB0 := Lib.hid (alloc0 w (.cells #[.int .i64 0, .int .i64 0] 24))
  have HG : Hid (gg n d = Nat.gcd n.natAbs d.natAbs) := rfl
  have Y1 := Lib.hid y1
  have Y2 := Lib.hid y2
  clear y1 y2
  go_enter Tryd.func14, Tryd.ntmps14
  go_wp2_with fail
  go_loopg [6, 7] d.natAbs (fun gk av bv wr => ∃ x y : Nat, av = .int .i64 (-(x : Int)) ∧ bv = .int .i64 (-(y : Int)) ∧ y = gk ∧ x ≤ 9223372036854775808 ∧ y ≤ 9223372036854775808 ∧ Hid (Ext (w.alloc (.cells #[.int .i64 0, .int .i64 0] 24)) wr) ∧ Hid (gg n d = Nat.gcd x y))
  case atStart => exact ⟨n.natAbs, d.natAbs, by congr 1; omega, by congr 1; omega, rfl, by omega, by omega, Upd.refl _ _, HG.out⟩
  case round =>
    obtain ⟨x, y, rfl, rfl, rfl, hx, hy, HE, Hg⟩ := hrel
    by_cases h : y = 0
    · subst h
      have hg : gg n d = x := by rw [Hg.out]; exact Nat.gcd_zero_right x
      have q1 := Y1.out
      have q2 := Y2.out
      rw [hg] at q1 q2
      have hx0 : 0 < x := by omega
      have hx1 : ¬ (-(x : Int) = 0) := by omega
      have hx2 : (-(x : Int) == 0) = false := beq_eq_false_iff_ne.2 hx1
      have hx3 : ¬ (x = 0) := by omega
      clear Hg HG
      have hb1 : -9223372036854775808 ≤ -(sg n (aN n d)) ∧ -(sg n (aN n d)) ≤ 9223372036854775808 := by unfold sg; split <;> omega
      have hb2 : -9223372036854775808 ≤ -(sg d (aD n d)) ∧ -(sg d (aD n d)) ≤ 9223372036854775808 := by unfold sg; split <;> omega
      have w1 := wrap64_W _ hb1.1 hb1.2
      have w2 := wrap64_W _ hb2.1 hb2.2
      obtain ⟨N1, hN1⟩ : ∃ N1, wrap64 (-(sg n (aN n d))) = N1 := ⟨_, rfl⟩
      obtain ⟨D1, hD1⟩ : ∃ D1, wrap64 (-(sg d (aD n d))) = D1 := ⟨_, rfl⟩
      rw [hN1] at w1
      rw [hD1] at w2
      have w1' := w1
      have w2' := w2
      unfold W64 at w1' w2'
      have w3 := wrap64_W (-N1) (by omega) (by omega)
      have w4 := wrap64_W (-D1) (by omega) (by omega)
      obtain ⟨N2, hN2⟩ : ∃ N2, wrap64 (-N1) = N2 := ⟨_, rfl⟩
      obtain ⟨D2, hD2⟩ : ∃ D2, wrap64 (-D1) = D2 := ⟨_, rfl⟩
      rw [hN2] at w3
      rw [hD2] at w4
      have hpair := ref_pair n d N1 D1 N2 D2 n0 n1 d0 d1 hd w1 w2 w3 w4
      clear w1 w2 w3 w4 w1' w2' hb1 hb2 hnl hdl hdp hgp
      generalize sg n (aN n d) = SN at *
      generalize sg d (aD n d) = SD at *
      have hbl := HE.out.heap HB0.out (fun h => h)
      have c0 := cellRow hbl 0 _ rfl
      have c1 := cellRow hbl 1 _ rfl
      have f0 := frozenRow hbl 0
      have f1 := frozenRow hbl 1
      have HEW := Lib.hid (HZ.out.ext HE.out)
      clear hbl Y1 Y2 HZ HB0 HE
      by_cases hDD : D1 < 0
      · have t9 : decide (D1 < 0) = true := decide_eq_true hDD
        have hmk := mk_of hd (hpair.1 hDD)
        clear hpair hDD
        rcases (by omega : N2 < -1073741824 ∨ (-1073741824 ≤ N2 ∧ 1073741824 < N2) ∨ (-1073741824 ≤ N2 ∧ N2 ≤ 1073741824 ∧ D2 < 1) ∨ (-1073741824 ≤ N2 ∧ N2 ≤ 1073741824 ∧ 1 ≤ D2 ∧ 1073741824 < D2) ∨ (-1073741824 ≤ N2 ∧ N2 ≤ 1073741824 ∧ 1 ≤ D2 ∧ D2 ≤ 1073741824)) with h1 | ⟨h1, h2⟩ | ⟨h1, h2, h3⟩ | ⟨h1, h2, h3, h4⟩ | ⟨h1, h2, h3, h4⟩
        · have s0 : decide (N2 < -1073741824) = true := decide_eq_true (by omega)
          have hbb : badB N2 D2 = true := by unfold badB; simp only [Bool.or_eq_true, decide_eq_true_eq]; omega
          obtain ⟨e1, e2, e3⟩ := hmk.1 hbb
          have E1 := Lib.hid e1
          have E2 := Lib.hid e2
          have E3 := Lib.hid e3
          clear e1 e2 e3 hbb hmk
          go_wp2_with fail
          refine bodyPost_ret (v := .tuple #[.agg #[.int .i64 0, .int .i64 0], .int .i64 5]) (by simp [results, Tryd.results14, go_sem, c0, c1]) rfl ⟨by rw [E1.out, E2.out, E3.out], ?_⟩
          first | exact (HEW.out.setNew (Nat.le_refl _) _).setNew (Nat.le_refl _) _ | exact HEW.out
        · have s0 : decide (N2 < -1073741824) = false := decide_eq_false (by omega)
          have s1 : decide ((1073741824 : Int) < N2) = true := decide_eq_true (by omega)
          have hbb : badB N2 D2 = true := by unfold badB; simp only [Bool.or_eq_true, decide_eq_true_eq]; omega
          obtain ⟨e1, e2, e3⟩ := hmk.1 hbb
          have E1 := Lib.hid e1
          have E2 := Lib.hid e2
          have E3 := Lib.hid e3
          clear e1 e2 e3 hbb hmk
          go_wp2_with fail
          refine bodyPost_ret (v := .tuple #[.agg #[.int .i64 0, .int .i64 0], .int .i64 5]) (by simp [results, Tryd.results14, go_sem, c0, c1]) rfl ⟨by rw [E1.out, E2.out, E3.out], ?_⟩
          first | exact (HEW.out.setNew (Nat.le_refl _) _).setNew (Nat.le_refl _) _ | exact HEW.out
        · have s0 : decide (N2 < -1073741824) = false := decide_eq_false (by omega)
          have s1 : decide ((1073741824 : Int) < N2) = false := decide_eq_false (by omega)
          have s2 : decide (D2 < 1) = true := decide_eq_true (by omega)
          have hbb : badB N2 D2 = true := by unfold badB; simp only [Bool.or_eq_true, decide_eq_true_eq]; omega
          obtain ⟨e1, e2, e3⟩ := hmk.1 hbb
          have E1 := Lib.hid e1
          have E2 := Lib.hid e2
          have E3 := Lib.hid e3
          clear e1 e2 e3 hbb hmk
          go_wp2_with fail
          refine bodyPost_ret (v := .tuple #[.agg #[.int .i64 0, .int .i64 0], .int .i64 5]) (by simp [results, Tryd.results14, go_sem, c0, c1]) rfl ⟨by rw [E1.out, E2.out, E3.out], ?_⟩
          first | exact (HEW.out.setNew (Nat.le_refl _) _).setNew (Nat.le_refl _) _ | exact HEW.out
        · have s0 : decide (N2 < -1073741824) = false := decide_eq_false (by omega)
          have s1 : decide ((1073741824 : Int) < N2) = false := decide_eq_false (by omega)
          have s2 : decide (D2 < 1) = false := decide_eq_false (by omega)
          have s3 : decide ((1073741824 : Int) < D2) = true := decide_eq_true (by omega)
          have hbb : badB N2 D2 = true := by unfold badB; simp only [Bool.or_eq_true, decide_eq_true_eq]; omega
          obtain ⟨e1, e2, e3⟩ := hmk.1 hbb
          have E1 := Lib.hid e1
          have E2 := Lib.hid e2
          have E3 := Lib.hid e3
          clear e1 e2 e3 hbb hmk
          go_wp2_with fail
          refine bodyPost_ret (v := .tuple #[.agg #[.int .i64 0, .int .i64 0], .int .i64 5]) (by simp [results, Tryd.results14, go_sem, c0, c1]) rfl ⟨by rw [E1.out, E2.out, E3.out], ?_⟩
          first | exact (HEW.out.setNew (Nat.le_refl _) _).setNew (Nat.le_refl _) _ | exact HEW.out
        · have s0 : decide (N2 < -1073741824) = false := decide_eq_false (by omega)
          have s1 : decide ((1073741824 : Int) < N2) = false := decide_eq_false (by omega)
          have s2 : decide (D2 < 1) = false := decide_eq_false (by omega)
          have s3 : decide ((1073741824 : Int) < D2) = false := decide_eq_false (by omega)
          have hbb : badB N2 D2 = false := by unfold badB; simp only [Bool.or_eq_false_iff, decide_eq_false_iff_not]; omega
          obtain ⟨e1, e2, e3⟩ := hmk.2 hbb
          have E1 := Lib.hid e1
          have E2 := Lib.hid e2
          have E3 := Lib.hid e3
          clear e1 e2 e3 hbb hmk
          go_wp2_with fail
          refine bodyPost_ret (v := .tuple #[.agg #[.int .i64 N2, .int .i64 D2], .int .i64 0]) (by simp [results, Tryd.results14, go_sem, c0, c1]) rfl ⟨by rw [E1.out, E2.out, E3.out], ?_⟩
          first | exact (HEW.out.setNew (Nat.le_refl _) _).setNew (Nat.le_refl _) _ | exact HEW.out
      · have t9 : decide (D1 < 0) = false := decide_eq_false hDD
        have hmk := mk_of hd (hpair.2 (by omega))
        clear hpair hDD
        rcases (by omega : N1 < -1073741824 ∨ (-1073741824 ≤ N1 ∧ 1073741824 < N1) ∨ (-1073741824 ≤ N1 ∧ N1 ≤ 1073741824 ∧ D1 < 1) ∨ (-1073741824 ≤ N1 ∧ N1 ≤ 1073741824 ∧ 1 ≤ D1 ∧ 1073741824 < D1) ∨ (-1073741824 ≤ N1 ∧ N1 ≤ 1073741824 ∧ 1 ≤ D1 ∧ D1 ≤ 1073741824)) with h1 | ⟨h1, h2⟩ | ⟨h1, h2, h3⟩ | ⟨h1, h2, h3, h4⟩ | ⟨h1, h2, h3, h4⟩
        · have s0 : decide (N1 < -1073741824) = true := decide_eq_true (by omega)
          have hbb : badB N1 D1 = true := by unfold badB; simp only [Bool.or_eq_true, decide_eq_true_eq]; omega
          obtain ⟨e1, e2, e3⟩ := hmk.1 hbb
          have E1 := Lib.hid e1
          have E2 := Lib.hid e2
          have E3 := Lib.hid e3
          clear e1 e2 e3 hbb hmk
          go_wp2_with fail
          refine bodyPost_ret (v := .tuple #[.agg #[.int .i64 0, .int .i64 0], .int .i64 5]) (by simp [results, Tryd.results14, go_sem, c0, c1]) rfl ⟨by rw [E1.out, E2.out, E3.out], ?_⟩
          first | exact (HEW.out.setNew (Nat.le_refl _) _).setNew (Nat.le_refl _) _ | exact HEW.out
        · have s0 : decide (N1 < -1073741824) = false := decide_eq_false (by omega)
          have s1 : decide ((1073741824 : Int) < N1) = true := decide_eq_true (by omega)
          have hbb : badB N1 D1 = true := by unfold badB; simp only [Bool.or_eq_true, decide_eq_true_eq]; omega
          obtain ⟨e1, e2, e3⟩ := hmk.1 hbb
          have E1 := Lib.hid e1
          have E2 := Lib.hid e2
          have E3 := Lib.hid e3
          clear e1 e2 e3 hbb hmk
          go_wp2_with fail
          refine bodyPost_ret (v := .tuple #[.agg #[.int .i64 0, .int .i64 0], .int .i64 5]) (by simp [results, Tryd.results14, go_sem, c0, c1]) rfl ⟨by rw [E1.out, E2.out, E3.out], ?_⟩
          first | exact (HEW.out.setNew (Nat.le_refl _) _).setNew (Nat.le_refl _) _ | exact HEW.out
        · have s0 : decide (N1 < -1073741824) = false := decide_eq_false (by omega)
          have s1 : decide ((1073741824 : Int) < N1) = false := decide_eq_false (by omega)
          have s2 : decide (D1 < 1) = true := decide_eq_true (by omega)
          have hbb : badB N1 D1 = true := by unfold badB; simp only [Bool.or_eq_true, decide_eq_true_eq]; omega
          obtain ⟨e1, e2, e3⟩ := hmk.1 hbb
          have E1 := Lib.hid e1
          have E2 := Lib.hid e2
          have E3 := Lib.hid e3
          clear e1 e2 e3 hbb hmk
          go_wp2_with fail
          refine bodyPost_ret (v := .tuple #[.agg #[.int .i64 0, .int .i64 0], .int .i64 5]) (by simp [results, Tryd.results14, go_sem, c0, c1]) rfl ⟨by rw [E1.out, E2.out, E3.out], ?_⟩
          first | exact (HEW.out.setNew (Nat.le_refl _) _).setNew (Nat.le_refl _) _ | exact HEW.out
        · have s0 : decide (N1 < -1073741824) = false := decide_eq_false (by omega)
          have s1 : decide ((1073741824 : Int) < N1) = false := decide_eq_false (by omega)
          have s2 : decide (D1 < 1) = false := decide_eq_false (by omega)
          have s3 : decide ((1073741824 : Int) < D1) = true := decide_eq_true (by omega)
          have hbb : badB N1 D1 = true := by unfold badB; simp only [Bool.or_eq_true, decide_eq_true_eq]; omega
          obtain ⟨e1, e2, e3⟩ := hmk.1 hbb
          have E1 := Lib.hid e1
          have E2 := Lib.hid e2
          have E3 := Lib.hid e3
          clear e1 e2 e3 hbb hmk
          go_wp2_with fail
          refine bodyPost_ret (v := .tuple #[.agg #[.int .i64 0, .int .i64 0], .int .i64 5]) (by simp [results, Tryd.results14, go_sem, c0, c1]) rfl ⟨by rw [E1.out, E2.out, E3.out], ?_⟩
          first | exact (HEW.out.setNew (Nat.le_refl _) _).setNew (Nat.le_refl _) _ | exact HEW.out
        · have s0 : decide (N1 < -1073741824) = false := decide_eq_false (by omega)
          have s1 : decide ((1073741824 : Int) < N1) = false := decide_eq_false (by omega)
          have s2 : decide (D1 < 1) = false := decide_eq_false (by omega)
          have s3 : decide ((1073741824 : Int) < D1) = false := decide_eq_false (by omega)
          have hbb : badB N1 D1 = false := by unfold badB; simp only [Bool.or_eq_false_iff, decide_eq_false_iff_not]; omega
          obtain ⟨e1, e2, e3⟩ := hmk.2 hbb
          have E1 := Lib.hid e1
          have E2 := Lib.hid e2
          have E3 := Lib.hid e3
          clear e1 e2 e3 hbb hmk
          go_wp2_with fail
          refine bodyPost_ret (v := .tuple #[.agg #[.int .i64 N1, .int .i64 D1], .int .i64 0]) (by simp [results, Tryd.results14, go_sem, c0, c1]) rfl ⟨by rw [E1.out, E2.out, E3.out], ?_⟩
          first | exact (HEW.out.setNew (Nat.le_refl _) _).setNew (Nat.le_refl _) _ | exact HEW.out
    · have t1 : (-(y : Int) != 0) = true := by simp; omega
      have t2 : ¬ (-(y : Int) = 0) := by omega
      have t3 : (-(y : Int) == 0) = false := beq_eq_false_iff_ne.2 t2
      have t5 : ¬ (y = 0) := h
      have m2 : Int.tmod (-(x : Int)) (-(y : Int)) = -((x % y : Nat) : Int) := by rw [Int.tmod_neg, Int.neg_tmod, Int.tmod_eq_emod_of_nonneg (by omega)]; simp
      have m4 : Int.tmod (x : Int) (y : Int) = ((x % y : Nat) : Int) := by rw [Int.tmod_eq_emod_of_nonneg (by omega)]; simp
      have hlt := Nat.mod_lt x (show 0 < y by omega)
      have hg2 : gg n d = Nat.gcd y (x % y) := by rw [Hg.out, Nat.gcd_comm x y, Nat.gcd_rec y x, Nat.gcd_comm]
      have HG2 := Lib.hid hg2
      clear hg2 Hg HG
      generalize x % y = z at *
      go_wp2_with fail
      go_quiet (fail)
      go_wp2_with fail
      go_roundg z
      case measure => exact hlt
      case rel => exact ⟨y, z, rfl, rfl, rfl, hy, by omega, HE.out.drewN' _, HG2.out⟩

set_option maxRecDepth 100000 in
set_option maxHeartbeats 2000000 in
theorem rmk11 (n d : Int) (w : World) (n0 : -9223372036854775808 ≤ n) (n1 : n ≤ 9223372036854775807) (d0 : -9223372036854775808 ≤ d) (d1 : d ≤ 9223372036854775807) (hd : d ≠ 0) (hn : 0 < n) (hdn : 0 < d) : Calls Tryd.prog 14 #[.int .i64 n, .int .i64 d] w fun e w' => e = .returned (.tuple #[.agg #[.int .i64 (mkN n d), .int .i64 (mkD n d)], .int .i64 (mkE n d)]) ∧ Ext w w' := by
  have hgp := gg_pos (num := n) hd
  have hnl := aN_le n d
  have hdl := aD_le n d
  have hdp := aD_pos (num := n) hd
  obtain ⟨y1, y2⟩ := tdiv_neg_g n d hd
  have tz : (d == 0) = false := beq_eq_false_iff_ne.2 hd
  have t3 : decide (0 < n) = true := decide_eq_true (by omega)
  have t4 : decide (0 < d) = true := decide_eq_true (by omega)
  have HZ : Hid (Ext w (w.alloc (.cells #[.int .i64 0, .int .i64 0] 24))) := (Upd.refl _ w).alloc _
  have HB0 := Lib.hid (alloc0 w (.cells #[.int .i64 0, .int .i64 0] 24))
  have HG : Hid (gg n d = Nat.gcd n.natAbs d.natAbs) := rfl
  have Y1 := Lib.hid y1
  have Y2 := Lib.hid y2
  clear y1 y2
  go_enter Tryd.func14, Tryd.ntmps14
  go_wp2_with fail
  go_loopg [6, 7] d.natAbs (fun gk av bv wr => ∃ x y : Nat, av = .int .i64 (-(x : Int)) ∧ bv = .int .i64 (-(y : Int)) ∧ y = gk ∧ x ≤ 9223372036854775808 ∧ y ≤ 9223372036854775808 ∧ Hid (Ext (w.alloc (.cells #[.int .i64 0, .int .i64 0] 24)) wr) ∧ Hid (gg n d = Nat.gcd x y))
  case atStart => exact ⟨n.natAbs, d.natAbs, by congr 1; omega, by congr 1; omega, rfl, by omega, by omega, Upd.refl _ _, HG.out⟩
  case round =>
    obtain ⟨x, y, rfl, rfl, rfl, hx, hy, HE, Hg⟩ := hrel
    by_cases h : y = 0
    · subst h
      have hg : gg n d = x := by rw [Hg.out]; exact Nat.gcd_zero_right x
      have q1 := Y1.out
      have q2 := Y2.out
      rw [hg] at q1 q2
      have hx0 : 0 < x := by omega
      have hx1 : ¬ (-(x : Int) = 0) := by omega
      have hx2 : (-(x : Int) == 0) = false := beq_eq_false_iff_ne.2 hx1
      have hx3 : ¬ (x = 0) := by omega
      clear Hg HG
      have hb1 : -9223372036854775808 ≤ -(sg n (aN n d)) ∧ -(sg n (aN n d)) ≤ 9223372036854775808 := by unfold sg; split <;> omega
      have hb2 : -9223372036854775808 ≤ -(sg d (aD n d)) ∧ -(sg d (aD n d)) ≤ 9223372036854775808 := by unfold sg; split <;> omega
      have w1 := wrap64_W _ hb1.1 hb1.2
      have w2 := wrap64_W _ hb2.1 hb2.2
      obtain ⟨N1, hN1⟩ : ∃ N1, wrap64 (-(sg n (aN n d))) = N1 := ⟨_, rfl⟩
      obtain ⟨D1, hD1⟩ : ∃ D1, wrap64 (-(sg d (aD n d))) = D1 := ⟨_, rfl⟩
      rw [hN1] at w1
      rw [hD1] at w2
      have w1' := w1
      have w2' := w2
      unfold W64 at w1' w2'
      have w3 := wrap64_W (-N1) (by omega) (by omega)
      have w4 := wrap64_W (-D1) (by omega) (by omega)
      obtain ⟨N2, hN2⟩ : ∃ N2, wrap64 (-N1) = N2 := ⟨_, rfl⟩
      obtain ⟨D2, hD2⟩ : ∃ D2, wrap64 (-D1) = D2 := ⟨_, rfl⟩
      rw [hN2] at w3
      rw [hD2] at w4
      have hpair := ref_pair n d N1 D1 N2 D2 n0 n1 d0 d1 hd w1 w2 w3 w4
      clear w1 w2 w3 w4 w1' w2' hb1 hb2 hnl hdl hdp hgp
      generalize sg n (aN n d) = SN at *
      generalize sg d (aD n d) = SD at *
      have hbl := HE.out.heap HB0.out (fun h => h)
      have c0 := cellRow hbl 0 _ rfl
      have c1 := cellRow hbl 1 _ rfl
      have f0 := frozenRow hbl 0
      have f1 := frozenRow hbl 1
      have HEW := Lib.hid (HZ.out.ext HE.out)
      clear hbl Y1 Y2 HZ HB0 HE
      by_cases hDD : D1 < 0
      · have t9 : decide (D1 < 0) = true := decide_eq_true hDD
        have hmk := mk_of hd (hpair.1 hDD)
        clear hpair hDD
        rcases (by omega : N2 < -1073741824 ∨ (-1073741824 ≤ N2 ∧ 1073741824 < N2) ∨ (-1073741824 ≤ N2 ∧ N2 ≤ 1073741824 ∧ D2 < 1) ∨ (-1073741824 ≤ N2 ∧ N2 ≤ 1073741824 ∧ 1 ≤ D2 ∧ 1073741824 < D2) ∨ (-1073741824 ≤ N2 ∧ N2 ≤ 1073741824 ∧ 1 ≤ D2 ∧ D2 ≤ 1073741824)) with h1 | ⟨h1, h2⟩ | ⟨h1, h2, h3⟩ | ⟨h1, h2, h3, h4⟩ | ⟨h1, h2, h3, h4⟩
        · have s0 : decide (N2 < -1073741824) = true := decide_eq_true (by omega)
          have hbb : badB N2 D2 = true := by unfold badB; simp only [Bool.or_eq_true, decide_eq_true_eq]; omega
          obtain ⟨e1, e2, e3⟩ := hmk.1 hbb
          have E1 := Lib.hid e1
          have E2 := Lib.hid e2
          have E3 := Lib.hid e3
          clear e1 e2 e3 hbb hmk
          go_wp2_with fail
          refine bodyPost_ret (v := .tuple #[.agg #[.int .i64 0, .int .i64 0], .int .i64 5]) (by simp [results, Tryd.results14, go_sem, c0, c1]) rfl ⟨by rw [E1.out, E2.out, E3.out], ?_⟩
          first | exact (HEW.out.setNew (Nat.le_refl _) _).setNew (Nat.le_refl _) _ | exact HEW.out
        · have s0 : decide (N2 < -1073741824) = false := decide_eq_false (by omega)
          have s1 : decide ((1073741824 : Int) < N2) = true := decide_eq_true (by omega)
          have hbb : badB N2 D2 = true := by unfold badB; simp only [Bool.or_eq_true, decide_eq_true_eq]; omega
          obtain ⟨e1, e2, e3⟩ := hmk.1 hbb
          have E1 := Lib.hid e1
          have E2 := Lib.hid e2
          have E3 := Lib.hid e3
          clear e1 e2 e3 hbb hmk
          go_wp2_with fail
          refine bodyPost_ret (v := .tuple #[.agg #[.int .i64 0, .int .i64 0], .int .i64 5]) (by simp [results, Tryd.results14, go_sem, c0, c1]) rfl ⟨by rw [E1.out, E2.out, E3.out], ?_⟩
          first | exact (HEW.out.setNew (Nat.le_refl _) _).setNew (Nat.le_refl _) _ | exact HEW.out
        · have s0 : decide (N2 < -1073741824) = false := decide_eq_false (by omega)
          have s1 : decide ((1073741824 : Int) < N2) = false := decide_eq_false (by omega)
          have s2 : decide (D2 < 1) = true := decide_eq_true (by omega)
          have hbb : badB N2 D2 = true := by unfold badB; simp only [Bool.or_eq_true, decide_eq_true_eq]; omega
          obtain ⟨e1, e2, e3⟩ := hmk.1 hbb
          have E1 := Lib.hid e1
          have E2 := Lib.hid e2
          have E3 := Lib.hid e3
          clear e1 e2 e3 hbb hmk
          go_wp2_with fail
          refine bodyPost_ret (v := .tuple #[.agg #[.int .i64 0, .int .i64 0], .int .i64 5]) (by simp [results, Tryd.results14, go_sem, c0, c1]) rfl ⟨by rw [E1.out, E2.out, E3.out], ?_⟩
          first | exact (HEW.out.setNew (Nat.le_refl _) _).setNew (Nat.le_refl _) _ | exact HEW.out
        · have s0 : decide (N2 < -1073741824) = false := decide_eq_false (by omega)
          have s1 : decide ((1073741824 : Int) < N2) = false := decide_eq_false (by omega)
          have s2 : decide (D2 < 1) = false := decide_eq_false (by omega)
          have s3 : decide ((1073741824 : Int) < D2) = true := decide_eq_true (by omega)
          have hbb : badB N2 D2 = true := by unfold badB; simp only [Bool.or_eq_true, decide_eq_true_eq]; omega
          obtain ⟨e1, e2, e3⟩ := hmk.1 hbb
          have E1 := Lib.hid e1
          have E2 := Lib.hid e2
          have E3 := Lib.hid e3
          clear e1 e2 e3 hbb hmk
          go_wp2_with fail
          refine bodyPost_ret (v := .tuple #[.agg #[.int .i64 0, .int .i64 0], .int .i64 5]) (by simp [results, Tryd.results14, go_sem, c0, c1]) rfl ⟨by rw [E1.out, E2.out, E3.out], ?_⟩
          first | exact (HEW.out.setNew (Nat.le_refl _) _).setNew (Nat.le_refl _) _ | exact HEW.out
        · have s0 : decide (N2 < -1073741824) = false := decide_eq_false (by omega)
          have s1 : decide ((1073741824 : Int) < N2) = false := decide_eq_false (by omega)
          have s2 : decide (D2 < 1) = false := decide_eq_false (by omega)
          have s3 : decide ((1073741824 : Int) < D2) = false := decide_eq_false (by omega)
          have hbb : badB N2 D2 = false := by unfold badB; simp only [Bool.or_eq_false_iff, decide_eq_false_iff_not]; omega
          obtain ⟨e1, e2, e3⟩ := hmk.2 hbb
          have E1 := Lib.hid e1
          have E2 := Lib.hid e2
          have E3 := Lib.hid e3
          clear e1 e2 e3 hbb hmk
          go_wp2_with fail
          refine bodyPost_ret (v := .tuple #[.agg #[.int .i64 N2, .int .i64 D2], .int .i64 0]) (by simp [results, Tryd.results14, go_sem, c0, c1]) rfl ⟨by rw [E1.out, E2.out, E3.out], ?_⟩
          first | exact (HEW.out.setNew (Nat.le_refl _) _).setNew (Nat.le_refl _) _ | exact HEW.out
      · have t9 : decide (D1 < 0) = false := decide_eq_false hDD
        have hmk := mk_of hd (hpair.2 (by omega))
        clear hpair hDD
        rcases (by omega : N1 < -1073741824 ∨ (-1073741824 ≤ N1 ∧ 1073741824 < N1) ∨ (-1073741824 ≤ N1 ∧ N1 ≤ 1073741824 ∧ D1 < 1) ∨ (-1073741824 ≤ N1 ∧ N1 ≤ 1073741824 ∧ 1 ≤ D1 ∧ 1073741824 < D1) ∨ (-1073741824 ≤ N1 ∧ N1 ≤ 1073741824 ∧ 1 ≤ D1 ∧ D1 ≤ 1073741824)) with h1 | ⟨h1, h2⟩ | ⟨h1, h2, h3⟩ | ⟨h1, h2, h3, h4⟩ | ⟨h1, h2, h3, h4⟩
        · have s0 : decide (N1 < -1073741824) = true := decide_eq_true (by omega)
          have hbb : badB N1 D1 = true := by unfold badB; simp only [Bool.or_eq_true, decide_eq_true_eq]; omega
          obtain ⟨e1, e2, e3⟩ := hmk.1 hbb
          have E1 := Lib.hid e1
          have E2 := Lib.hid e2
          have E3 := Lib.hid e3
          clear e1 e2 e3 hbb hmk
          go_wp2_with fail
          refine bodyPost_ret (v := .tuple #[.agg #[.int .i64 0, .int .i64 0], .int .i64 5]) (by simp [results, Tryd.results14, go_sem, c0, c1]) rfl ⟨by rw [E1.out, E2.out, E3.out], ?_⟩
          first | exact (HEW.out.setNew (Nat.le_refl _) _).setNew (Nat.le_refl _) _ | exact HEW.out
        · have s0 : decide (N1 < -1073741824) = false := decide_eq_false (by omega)
          have s1 : decide ((1073741824 : Int) < N1) = true := decide_eq_true (by omega)
          have hbb : badB N1 D1 = true := by unfold badB; simp only [Bool.or_eq_true, decide_eq_true_eq]; omega
          obtain ⟨e1, e2, e3⟩ := hmk.1 hbb
          have E1 := Lib.hid e1
          have E2 := Lib.hid e2
          have E3 := Lib.hid e3
          clear e1 e2 e3 hbb hmk
          go_wp2_with fail
          refine bodyPost_ret (v := .tuple #[.agg #[.int .i64 0, .int .i64 0], .int .i64 5]) (by simp [results, Tryd.results14, go_sem, c0, c1]) rfl ⟨by rw [E1.out, E2.out, E3.out], ?_⟩
          first | exact (HEW.out.setNew (Nat.le_refl _) _).setNew (Nat.le_refl _) _ | exact HEW.out
        · have s0 : decide (N1 < -1073741824) = false := decide_eq_false (by omega)
          have s1 : decide ((1073741824 : Int) < N1) = false := decide_eq_false (by omega)
          have s2 : decide (D1 < 1) = true := decide_eq_true (by omega)
          have hbb : badB N1 D1 = true := by unfold badB; simp only [Bool.or_eq_true, decide_eq_true_eq]; omega
          obtain ⟨e1, e2, e3⟩ := hmk.1 hbb
          have E1 := Lib.hid e1
          have E2 := Lib.hid e2
          have E3 := Lib.hid e3
          clear e1 e2 e3 hbb hmk
          go_wp2_with fail
          refine bodyPost_ret (v := .tuple #[.agg #[.int .i64 0, .int .i64 0], .int .i64 5]) (by simp [results, Tryd.results14, go_sem, c0, c1]) rfl ⟨by rw [E1.out, E2.out, E3.out], ?_⟩
          first | exact (HEW.out.setNew (Nat.le_refl _) _).setNew (Nat.le_refl _) _ | exact HEW.out
        · have s0 : decide (N1 < -1073741824) = false := decide_eq_false (by omega)
          have s1 : decide ((1073741824 : Int) < N1) = false := decide_eq_false (by omega)
          have s2 : decide (D1 < 1) = false := decide_eq_false (by omega)
          have s3 : decide ((1073741824 : Int) < D1) = true := decide_eq_true (by omega)
          have hbb : badB N1 D1 = true := by unfold badB; simp only [Bool.or_eq_true, decide_eq_true_eq]; omega
          obtain ⟨e1, e2, e3⟩ := hmk.1 hbb
          have E1 := Lib.hid e1
          have E2 := Lib.hid e2
          have E3 := Lib.hid e3
          clear e1 e2 e3 hbb hmk
          go_wp2_with fail
          refine bodyPost_ret (v := .tuple #[.agg #[.int .i64 0, .int .i64 0], .int .i64 5]) (by simp [results, Tryd.results14, go_sem, c0, c1]) rfl ⟨by rw [E1.out, E2.out, E3.out], ?_⟩
          first | exact (HEW.out.setNew (Nat.le_refl _) _).setNew (Nat.le_refl _) _ | exact HEW.out
        · have s0 : decide (N1 < -1073741824) = false := decide_eq_false (by omega)
          have s1 : decide ((1073741824 : Int) < N1) = false := decide_eq_false (by omega)
          have s2 : decide (D1 < 1) = false := decide_eq_false (by omega)
          have s3 : decide ((1073741824 : Int) < D1) = false := decide_eq_false (by omega)
          have hbb : badB N1 D1 = false := by unfold badB; simp only [Bool.or_eq_false_iff, decide_eq_false_iff_not]; omega
          obtain ⟨e1, e2, e3⟩ := hmk.2 hbb
          have E1 := Lib.hid e1
          have E2 := Lib.hid e2
          have E3 := Lib.hid e3
          clear e1 e2 e3 hbb hmk
          go_wp2_with fail
          refine bodyPost_ret (v := .tuple #[.agg #[.int .i64 N1, .int .i64 D1], .int .i64 0]) (by simp [results, Tryd.results14, go_sem, c0, c1]) rfl ⟨by rw [E1.out, E2.out, E3.out], ?_⟩
          first | exact (HEW.out.setNew (Nat.le_refl _) _).setNew (Nat.le_refl _) _ | exact HEW.out
    · have t1 : (-(y : Int) != 0) = true := by simp; omega
      have t2 : ¬ (-(y : Int) = 0) := by omega
      have t3 : (-(y : Int) == 0) = false := beq_eq_false_iff_ne.2 t2
      have t5 : ¬ (y = 0) := h
      have m2 : Int.tmod (-(x : Int)) (-(y : Int)) = -((x % y : Nat) : Int) := by rw [Int.tmod_neg, Int.neg_tmod, Int.tmod_eq_emod_of_nonneg (by omega)]; simp
      have m4 : Int.tmod (x : Int) (y : Int) = ((x % y : Nat) : Int) := by rw [Int.tmod_eq_emod_of_nonneg (by omega)]; simp
      have hlt := Nat.mod_lt x (show 0 < y by omega)
      have hg2 : gg n d = Nat.gcd y (x % y) := by rw [Hg.out, Nat.gcd_comm x y, Nat.gcd_rec y x, Nat.gcd_comm]
      have HG2 := Lib.hid hg2
      clear hg2 Hg HG
      generalize x % y = z at *
      go_wp2_with fail
      go_quiet (fail)
      go_wp2_with fail
      go_roundg z
      case measure => exact hlt
      case rel => exact ⟨y, z, rfl, rfl, rfl, hy, by omega, HE.out.drewN' _, HG2.out⟩

end Go.Proofs.YtlipjgpfhmkdhaaDoor
