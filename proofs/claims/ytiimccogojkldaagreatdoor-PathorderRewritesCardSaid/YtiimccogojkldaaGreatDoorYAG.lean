/- The texts I32 I33 I12 I13 I14, one behind the other. -/
import Derived.Test.YtiimccogojkldaaGreatDoorYAB
import Derived.Test.YtiimccogojkldaaGreatDoorYAF
import Derived.Deep.RegionHeld3
import Derived.Deep.DeepCutAuto
/- The order: above. -/
namespace Go.Proofs.YtiimccogojkldaaGreatDoor
open Go.RowKit Go.Hw Go
set_option linter.unusedVariables false
set_option linter.unusedSimpArgs false

open Tm
set_option maxRecDepth 100000 in
set_option maxHeartbeats 2000000 in
theorem above_x (ops : List By) (R B : Nat → Prop) (base b : Nat) (N : List Nt) (hNl : N.length ≤ 100000) (m : Nat) (hg : ∀ (i j : Nat), i + j < m → i < N.length → j < N.length → ∀ W, OrdR 144 114 ops R B base W b N → Calls Tryz.prog 76 #[.pointer (some ⟨b, 0, none⟩), natV i, natV j] W fun e W' => e = .returned (.bool (gt (ixF ops) (ng N i).1 (ng N j).1)) ∧ OrdR 144 114 ops R B base W' b N ∧ Upd B W W') (i j : Nat) (hm : i + j ≤ m) (hi : i < N.length) (hj : j < N.length) (w : World) (hO : OrdR 144 114 ops R B base w b N) (hN : Num N) (hU : Uniq N) (hks : (ng N i).2.length ≤ 1000000) (hkt : (ng N j).2.length ≤ 1000000)
    (hs : (ng N i).1.sort = nul) (hin : (ng N i).1.name ∈ ops) (hjn : (ng N j).1.sort = nul → (ng N j).1.name ∈ ops) (hnc : ¬ Cov (ixF ops) (ng N i).1 (ng N j).1) :
    Calls Tryz.prog 102 #[.pointer (some ⟨b, 0, none⟩), natV i, natV j] w fun e W' => e = .returned (.bool (gt (ixF ops) (ng N i).1 (ng N j).1)) ∧ OrdR 144 114 ops R B base W' b N ∧ Upd B w W' := by
  obtain ⟨br, g, off, cap, bk, bd, hbox, hbd, hrk, hat⟩ := ord_cells hO (by omega)
  obtain ⟨sa, sc, s0', s1', s2', hsl⟩ := hat i hi
  obtain ⟨ta, tc, t0', t1', t2', htl⟩ := hat j hj
  have HZ : Hid (Ext w ((w.alloc (.cells #[.pointer (some ⟨b, 0, none⟩)] 81)).alloc (.cells #[natV i] 3))) := Lib.hid (((Upd.refl (fun _ => False) w).alloc _).alloc _)
  have HB1 : Hid (((w.alloc (.cells #[.pointer (some ⟨b, 0, none⟩)] 81)).alloc (.cells #[natV i] 3)).heap[w.heap.size]? = some (.cells #[.pointer (some ⟨b, 0, none⟩)] 81 (0, 0))) := Lib.hid (allocOld (alloc0 w (.cells #[.pointer (some ⟨b, 0, none⟩)] 81)) (.cells #[natV i] 3))
  have HB2 : Hid (((w.alloc (.cells #[.pointer (some ⟨b, 0, none⟩)] 81)).alloc (.cells #[natV i] 3)).heap[w.heap.size + 1]? = some (.cells #[natV i] 3 (0, 0))) := Lib.hid (alloc_at (w.alloc (.cells #[.pointer (some ⟨b, 0, none⟩)] 81)) (.cells #[natV i] 3) (n := w.heap.size + 1) (by simp))
  have hsz : ((w.alloc (.cells #[.pointer (some ⟨b, 0, none⟩)] 81)).alloc (.cells #[natV i] 3)).heap.size = w.heap.size + 2 := by simp
  have HLT := Lib.hid (ord_n hO)
  have HOO := Lib.hid hO
  have HG := Lib.hid hg
  have HSL := Lib.hid hsl
  have HTL := Lib.hid htl
  have HRK := Lib.hid hrk
  have HNUM := Lib.hid hN
  have HUN := Lib.hid hU
  have HNC := Lib.hid hnc
  have HS := Lib.hid hs
  have HIN := Lib.hid hin
  have HJN := Lib.hid hjn
  have HBX := Lib.hid hbox
  clear hrk hat hO hg hsl htl hN hU hnc hs hin hjn
  obtain ⟨sn, hsn⟩ : ∃ x, (ng N i).1.name = x := ⟨_, rfl⟩
  obtain ⟨tn, htn⟩ : ∃ x, (ng N j).1.name = x := ⟨_, rfl⟩
  obtain ⟨sb, hsb⟩ : ∃ x, (!decide ((ng N i).1.sort = nul)) = x := ⟨_, rfl⟩
  obtain ⟨tb, htb⟩ : ∃ x, (!decide ((ng N j).1.sort = nul)) = x := ⟨_, rfl⟩
  obtain ⟨KX, hKX⟩ : ∃ x, (ng N i).2 = x := ⟨_, rfl⟩
  obtain ⟨KY, hKY⟩ : ∃ x, (ng N j).2 = x := ⟨_, rfl⟩
  rw [hsn] at s0'
  rw [hsb] at s1'
  rw [hKX] at s2' hks HSL
  rw [htn] at t0'
  rw [htb] at t1'
  rw [hKY] at t2' hkt HTL
  have HSN := Lib.hid hsn
  have HTN := Lib.hid htn
  have HTB := Lib.hid htb
  have HKX := Lib.hid hKX
  have HKY := Lib.hid hKY
  clear hsn htn hsb htb hKX hKY
  have z0 : (0 : Int) ≤ (i : Int) := by omega
  have z1 : (i : Int) < (N.length : Int) := by omega
  have z2 : (0 : Int) ≤ (j : Int) := by omega
  have z3 : (j : Int) < (N.length : Int) := by omega
  have b0 := cellRow HB1.out 0 (.pointer (some ⟨b, 0, none⟩)) rfl
  have b1 := cellRow HB2.out 0 (natV i) rfl
  have o1 := cellRow (HZ.out.heap hbox (fun h => h)) 1 (.slice (some ⟨g, off, none⟩) N.length cap) rfl
  have s0 := HZ.out.cell s0' (fun h => h)
  have s1 := HZ.out.cell s1' (fun h => h)
  have s2 := HZ.out.cell s2' (fun h => h)
  have t0 := HZ.out.cell t0' (fun h => h)
  have t1 := HZ.out.cell t1' (fun h => h)
  have t2 := HZ.out.cell t2' (fun h => h)
  clear s0' s1' s2' t0' t1' t2' hbox
  go_enter Tryz.func102, Tryz.ntmps102
  go_upto_region 1 with fail
  generalize hw3 : ((w.alloc (.cells #[.pointer (some ⟨b, 0, none⟩)] 81)).alloc (.cells #[natV i] 3)) = w3 at *
  have HW3 := Lib.hid hw3
  have HSZ := Lib.hid hsz
  clear hw3 hsz
  go_cut [7, 8] (fun p7 p8 ww => ∃ n7 n8 : Nat, p7 = .pointer (some ⟨n7, 0, none⟩) ∧ p8 = .pointer (some ⟨n8, 0, none⟩) ∧ Hid (w3.heap.size ≤ n7 ∧ w3.heap.size ≤ n8) ∧ Hid (Ext w3 ww) ∧ Hid (ww.heap[n7]? = some (.cells #[.string sn, .bool sb, .slice sa KX.length sc] 144 (0, 0))) ∧ Hid (ww.heap[n8]? = some (.cells #[.string tn, .bool tb, .slice ta KY.length tc] 144 (0, 0))))
  case first =>
    have eb0 := World.new_ne w3 _ b0
    have eb1 := World.new_ne w3 _ b1
    have eo1 := World.new_ne w3 _ o1
    have es0 := World.new_ne w3 _ s0
    have es1 := World.new_ne w3 _ s1
    have es2 := World.new_ne w3 _ s2
    have et0 := World.new_ne w3 _ t0
    have et1 := World.new_ne w3 _ t1
    have et2 := World.new_ne w3 _ t2
    go_region_held3 (fun w' => w'.cell? ⟨w.heap.size, 0, none⟩ = some (.pointer (some ⟨b, 0, none⟩)) ∧ w'.cell? ⟨w.heap.size + 1, 0, none⟩ = some (natV i) ∧ w'.cell? ⟨b, 1, none⟩ = some (.slice (some ⟨g, off, none⟩) N.length cap) ∧ w'.cell? ⟨g, off + i * 3, none⟩ = some (.string sn) ∧ w'.cell? ⟨g, off + i * 3 + 1, none⟩ = some (.bool sb) ∧ w'.cell? ⟨g, off + i * 3 + 2, none⟩ = some (.slice sa KX.length sc) ∧ w'.cell? ⟨g, off + j * 3, none⟩ = some (.string tn) ∧ w'.cell? ⟨g, off + j * 3 + 1, none⟩ = some (.bool tb) ∧ w'.cell? ⟨g, off + j * 3 + 2, none⟩ = some (.slice ta KY.length tc)) (go_keep) (fail)
    all_goals (try (go_wp2_with fail))
    all_goals go_meet
    all_goals first
      | exact ⟨_, _, rfl, rfl, Lib.hid ⟨Nat.le_refl _, Nat.le_succ _⟩, Lib.hid (((Upd.refl (fun _ => False) w3).alloc _).alloc _).drew, Lib.hid (allocOld (alloc0 w3 (.cells #[.string sn, .bool sb, .slice sa KX.length sc] 144)) _), Lib.hid (alloc_at (w3.alloc (.cells #[.string sn, .bool sb, .slice sa KX.length sc] 144)) (.cells #[.string tn, .bool tb, .slice ta KY.length tc] 144) (n := w3.heap.size + 1) (by simp))⟩
      | exact ⟨_, _, rfl, rfl, Lib.hid ⟨Nat.le_succ _, Nat.le_refl _⟩, Lib.hid (((Upd.refl (fun _ => False) w3).alloc _).alloc _).drew, Lib.hid (alloc_at (w3.alloc (.cells #[.string tn, .bool tb, .slice ta KY.length tc] 144)) (.cells #[.string sn, .bool sb, .slice sa KX.length sc] 144) (n := w3.heap.size + 1) (by simp)), Lib.hid (allocOld (alloc0 w3 (.cells #[.string tn, .bool tb, .slice ta KY.length tc] 144)) _)⟩
  case rest =>
  obtain ⟨n7, n8, rfl, rfl, HN, H3, HC7, HC8⟩ := hcut
  clear b0 b1 o1 s0 s1 s2 t0 t1 t2 HBX
  have x70 := cellRow HC7.out 0 (.string sn) rfl
  have x72 := cellRow HC7.out 2 (.slice sa KX.length sc) rfl
  have x80 := cellRow HC8.out 0 (.string tn) rfl
  have x81 := cellRow HC8.out 1 (.bool tb) rfl
  have x82 := cellRow HC8.out 2 (.slice ta KY.length tc) rfl
  have HQ1 := Lib.hid (H3.out.heap HB1.out (fun h => h))
  have HQ2 := Lib.hid (H3.out.heap HB2.out (fun h => h))
  have HU := Lib.hid (HZ.out.trans H3.out)
  cases tb
  · have htj : (ng N j).1.sort = nul := by
      have := HTB.out
      rw [Bool.not_eq_false', decide_eq_true_eq] at this
      exact this
    have HTJ := Lib.hid htj
    have HV1 : Hid (KY.any (fun k => !gt (ixF ops) (ng N i).1 (ng N k).1) = true ↔ ∃ k ∈ (ng N j).1.kids, gt (ixF ops) (ng N i).1 k = false) := Lib.hid (by rw [← HKY.out]; exact par_any HNUM.out hj)
    have hkid : ∀ k ∈ KY, k < j := fun k hk => HNUM.out.kid j hj k (by rw [HKY.out]; exact hk)
    have HKD := Lib.hid hkid
    have HC := Lib.hid (con125_x (.pointer (some ⟨w.heap.size, 0, none⟩)) (.pointer (some ⟨w.heap.size + 1, 0, none⟩)) (fun k => !gt (ixF ops) (ng N i).1 (ng N k).1) (fun W => OrdR 144 114 ops R B base W b N ∧ Upd B wc W) (fun W W' h hE => ⟨h.1.ext hE, h.2.ext hE⟩) (fun k => ¬ B k) (.slice ta KY.length tc) KY wc ⟨HOO.out.ext HU.out, Upd.refl _ _⟩ hkt
      (fun W h => HTL.out W h.1 ((HU.out.mono (fun _ _ x => x.elim)).trans h.2)) (fun k hk W h => by
        have hkj := hkid k hk
        exact clo2_x k i b w.heap.size (w.heap.size + 1) _ (fun W => OrdR 144 114 ops R B base W b N ∧ Upd B wc W) W (h.2.heap HQ1.out (fun hb => by have := HLT.out _ hb; omega)) (h.2.heap HQ2.out (fun hb => by have := HLT.out _ hb; omega)) ⟨by omega, by omega⟩
          ((HG.out i k (by omega) hi (by omega) W h.1).mono (fun e W' ⟨h1, h2, h3⟩ => ⟨h1, h2, h.2.trans h3⟩))))
    clear htj hkid
    generalize (KY.any fun k => !gt (ixF ops) (ng N i).1 (ng N k).1) = V at *
    go_wp2_with fail
    refine HC.out.mono ?_
    rintro e w5 ⟨rfl, hw5, hu5⟩
    have H5 := Lib.hid hw5
    have HU5 := Lib.hid hu5
    have hq7 := Lib.hid (hu5.heap HC7.out (fun hb => by have := HLT.out _ hb; have := HN.out; have := HSZ.out; omega))
    have hq8 := Lib.hid (hu5.heap HC8.out (fun hb => by have := HLT.out _ hb; have := HN.out; have := HSZ.out; omega))
    have hq1 := Lib.hid (hu5.heap HQ1.out (fun hb => by have := HLT.out _ hb; omega))
    clear hw5 hu5 x70 x72 x80 x81 x82 HC7 HC8
    have x70 := cellRow hq7.out 0 (.string sn) rfl
    have x72 := cellRow hq7.out 2 (.slice sa KX.length sc) rfl
    have x80 := cellRow hq8.out 0 (.string tn) rfl
    have x81 := cellRow hq8.out 1 (.bool false) rfl
    have x82 := cellRow hq8.out 2 (.slice ta KY.length tc) rfl
    have HUF := Lib.hid ((HU.out.mono (fun _ _ x => x.elim)).trans HU5.out)
    cases V
    · have HAL : Hid (∀ k ∈ (ng N j).1.kids, gt (ixF ops) (ng N i).1 k = true) := Lib.hid (fun k hk => by
        cases hc : gt (ixF ops) (ng N i).1 k
        · have := HV1.out.2 ⟨k, hk, hc⟩; cases this
        · rfl)
      by_cases hne : sn = tn
      · subst hne
        have HNE : Hid ((ng N i).1.name = (ng N j).1.name) := Lib.hid (by rw [HSN.out, HTN.out])
        have hlx : KX.length = (ng N i).1.kids.length := by rw [← HKX.out]; exact HNUM.out.len hi
        have hly : KY.length = (ng N j).1.kids.length := by rw [← HKY.out]; exact HNUM.out.len hj
        have HLX := Lib.hid hlx
        have HLY := Lib.hid hly
        clear hlx hly
        by_cases hln : KX.length = KY.length
        · have t2 : ((KX.length : Int) != (KY.length : Int)) = false := by rw [hln]; simp
          have t3 : (KX.length : Int) = (KY.length : Int) := by rw [hln]
          have HLN := Lib.hid hln
          have HV0 : Hid (gt (ixF ops) (ng N i).1 (ng N j).1 = lexG (gt (ixF ops)) (ng N i).1.kids (ng N j).1.kids) := Lib.hid (gt_lex _ HNC.out HS.out HTJ.out HAL.out HNE.out (by rw [← HLX.out, ← HLY.out, hln]))
          clear hln
          go_wp2_with fail
          obtain ⟨wa, hwa⟩ : ∃ wa, wa = w5 := ⟨_, rfl⟩
          have HR0 : Hid (Ext wa w5) := Lib.hid (by rw [hwa]; exact Upd.refl _ _)
          rw [← hwa] at H5 HUF hq8 hq7 hq1
          clear hwa t2 t3 x70 x72 x80 x81 x82 HC HV1 HU5
          go_loopg [63] KX.length (fun gk iv wr => ∃ k : Nat, iv = .int .i64 (k : Int) ∧ gk = KX.length - k ∧ k ≤ KX.length ∧ Hid (∀ l, l < k → KX.getD l 0 = KY.getD l 0) ∧ Hid (Ext wa wr))
          case atStart => exact ⟨0, rfl, rfl, Nat.zero_le _, Lib.hid (fun l h => absurd h (Nat.not_lt_zero _)), HR0⟩
          case round =>
            clear HR0
            obtain ⟨k, rfl, rfl, hk, HC, HE⟩ := hrel
            have y82 := cellRow (HE.out.heap hq8.out (fun h => h)) 2 (.slice ta KY.length tc) rfl
            have y1 := cellRow (HE.out.heap hq1.out (fun h => h)) 0 (.pointer (some ⟨b, 0, none⟩)) rfl
            by_cases hlt : k < KX.length
            · have hltY : k < KY.length := by have := HLN.out; omega
              obtain ⟨gx, ox, hgx, _, hatx⟩ := SlR.one_at (d := 0) (SlR.kept (HSL.out wa H5.out HUF.out) HE.out (fun _ _ h => h)) (by omega)
              obtain ⟨gy, oy, hgy, _, haty⟩ := SlR.one_at (d := 0) (SlR.kept (HTL.out wa H5.out HUF.out) HE.out (fun _ _ h => h)) (by omega)
              subst hgx
              subst hgy
              have q0 := hatx k hlt
              have q1 := haty k hltY
              have hpx := HNUM.out.part hi (k := k) (by rw [HKX.out]; exact hlt)
              have hpy := HNUM.out.part hj (k := k) (by rw [HKY.out]; exact hltY)
              rw [HKX.out] at hpx
              rw [HKY.out] at hpy
              obtain ⟨p, hp⟩ : ∃ p, KX.getD k 0 = p := ⟨_, rfl⟩
              obtain ⟨q, hq⟩ : ∃ q, KY.getD k 0 = q := ⟨_, rfl⟩
              rw [hp] at q0 hpx
              rw [hq] at q1 hpy
              have z0 : (0 : Int) ≤ (k : Int) := by omega
              have z1 : (k : Int) < (KX.length : Int) := by omega
              have z1' : (k : Int) < (KY.length : Int) := by omega
              have z2 : decide ((k : Int) < (KX.length : Int)) = true := decide_eq_true z1
              have HPR := Lib.hid (And.intro hpx hpy)
              have HPQ := Lib.hid (And.intro hp hq)
              have HEQ : Hid (∀ l, l < k → tg (ng N i).1.kids l = tg (ng N j).1.kids l) := Lib.hid (fun l hl => by
                have e1 := (HNUM.out.part hi (k := l) (by rw [HKX.out]; omega)).2
                have e2 := (HNUM.out.part hj (k := l) (by rw [HKY.out]; omega)).2
                rw [HKX.out, HC.out l hl] at e1
                rw [HKY.out] at e2
                rw [← e1, ← e2])
              clear hatx haty hpx hpy hp hq
              by_cases hpq : p = q
              · subst hpq
                have t4 : ((p : Int) != (p : Int)) = false := by simp
                have HNX : Hid (∀ l, l < k + 1 → KX.getD l 0 = KY.getD l 0) := Lib.hid (fun l hl => by
                  rcases Nat.lt_succ_iff_lt_or_eq.1 hl with h5 | h5
                  · exact HC.out l h5
                  · rw [h5, HPQ.out.1, HPQ.out.2])
                go_wp2_with fail
                go_roundg (KX.length - (k + 1))
                case measure => omega
                case rel => exact ⟨k + 1, by go_num, rfl, by omega, HNX, HE⟩
              · have t4 : ((p : Int) != (q : Int)) = true := by simp; omega
                have t5 : ¬ ((p : Int) = (q : Int)) := by omega
                have HV : Hid (gt (ixF ops) (ng N i).1 (ng N j).1 = gt (ixF ops) (ng N p).1 (ng N q).1) := Lib.hid (by
                  have hp2 := HPR.out.1
                  have hq2 := HPR.out.2
                  rw [HV0.out, lexG_at (gt (ixF ops)) k _ _ (by rw [← HLX.out]; exact hlt) (by rw [← HLY.out]; exact hltY) HEQ.out (by
                    rw [← hp2.2, ← hq2.2]
                    exact fun e => hpq (HUN.out p q (by omega) (by omega) e)), hp2.2, hq2.2])
                have HGX := Lib.hid (fun W (hW : Ext wr W) => HG.out p q (by have := HPR.out; omega) (by have := HPR.out; omega) (by have := HPR.out; omega) W ((H5.out.ext HE.out).ext hW))
                have HUR := Lib.hid (HUF.out.ext HE.out)
                generalize gt (ixF ops) (ng N p).1 (ng N q).1 = GV at *
                clear hpq HPR HPQ HEQ
                go_wp2_with fail
                go_still_tail 7, (by kernel_rfl)
                change wpList _ _ _ _ _ wr.drew
                go_wp2_with fail
                refine (HGX.out wr.drew ((Upd.refl _ wr).drewN' 1)).mono ?_
                rintro e w6 ⟨rfl, hw6, hu6⟩
                have H6 := Lib.hid hw6
                have HU6 := Lib.hid ((HUR.out.drew).trans hu6)
                clear hw6 hu6 y82 y1 q0 q1
                go_wp2_with fail
                go_ret
                rw [HV.out]
                exact ⟨rfl, H6.out, HU6.out⟩
            · obtain rfl : k = KX.length := by omega
              have z2 : decide ((KX.length : Int) < (KX.length : Int)) = false := decide_eq_false (by omega)
              have z4 : decide (KX.length < KY.length) = false := decide_eq_false (by have := HLN.out; omega)
              have z5 : decide ((KX.length : Int) < (KY.length : Int)) = false := decide_eq_false (by have := HLN.out; omega)
              have HV : Hid (gt (ixF ops) (ng N i).1 (ng N j).1 = false) := Lib.hid (by
                rw [HV0.out]
                refine lexG_all _ (by rw [← HLX.out, ← HLY.out, HLN.out]) (fun l hl => ?_)
                have hl2 : l < KX.length := by rw [HLX.out]; exact hl
                have e1 := (HNUM.out.part hi (k := l) (by rw [HKX.out]; exact hl2)).2
                have e2 := (HNUM.out.part hj (k := l) (by rw [HKY.out, ← HLN.out]; exact hl2)).2
                rw [HKX.out, HC.out l hl2] at e1
                rw [HKY.out] at e2
                rw [← e1, ← e2])
              go_wp2_with fail
              go_ret
              rw [HV.out]
              exact ⟨rfl, H5.out.ext HE.out, HUF.out.ext HE.out⟩
        · have t2 : ((KX.length : Int) != (KY.length : Int)) = true := by simp; omega
          have t3 : ¬ (KX.length : Int) = (KY.length : Int) := by omega
          have HV : Hid (gt (ixF ops) (ng N i).1 (ng N j).1 = false) := Lib.hid (gt_len _ HNC.out HNE.out (by rw [← HLX.out, ← HLY.out]; exact hln))
          clear hln
          go_wp2_with fail
          go_ret
          rw [HV.out]
          exact ⟨rfl, H5.out, HUF.out⟩
      · have t1 := str_ne hne
        have hNE : (ng N i).1.name ≠ (ng N j).1.name := by rw [HSN.out, HTN.out]; exact hne
        have HV : Hid (gt (ixF ops) (ng N i).1 (ng N j).1 = decide (ixF ops sn < ixF ops tn)) := Lib.hid (by rw [gt_name _ HNC.out HS.out HTJ.out HAL.out hNE, HSN.out, HTN.out])
        obtain ⟨br5, g5, off5, cap5, bk5, bd5, hbox5, _, ⟨rl5, hrk5, hrs5⟩, _⟩ := ord_cells H5.out (by omega)
        have o0 := cellRow hbox5 0 (.map (some br5)) rfl
        have o81 := cellRow hq1.out 0 (.pointer (some ⟨b, 0, none⟩)) rfl
        have hl1 := fun n => MpR.get (P := Tryz.prog) (t := 110) (strKey Tryz.underlying9) Tryz.underlying110 (z := .int .i64 0) (Tryz.zeroValue3 (w5.drewN n)) (show MpR strV (w5.drewN n) br5 rl5 from hrk5) sn false
        have hl2 := fun n => MpR.get (P := Tryz.prog) (t := 110) (strKey Tryz.underlying9) Tryz.underlying110 (z := .int .i64 0) (Tryz.zeroValue3 (w5.drewN n)) (show MpR strV (w5.drewN n) br5 rl5 from hrk5) tn false
        rw [hrs5 sn (by rw [← HSN.out]; exact HIN.out)] at hl1
        rw [hrs5 tn (by rw [← HTN.out]; exact HJN.out HTJ.out)] at hl2
        simp only [Bool.false_eq_true, if_false, Option.getD_some] at hl1 hl2
        have HT2x : Hid (decide ((ixF ops sn : Int) < (ixF ops tn : Int)) = decide (ixF ops sn < ixF ops tn)) := Lib.hid (by rw [Bool.eq_iff_iff, decide_eq_true_eq, decide_eq_true_eq]; omega)
        clear hbox5 hrs5 hrk5 hNE
        generalize hA : ixF ops sn = A at *
        generalize hB : ixF ops tn = C at *
        clear hA hB
        go_wp2_with fail
        go_quiet (fail)
        go_wp2_with fail
        go_ret
        rw [HV.out]
        first
          | exact ⟨rfl, H5.out.upd (Upd.refl (fun _ => False) _) (fun _ h => h.elim), HUF.out.drewN' _⟩
          | (rw [← HT2x.out]; exact ⟨rfl, H5.out.ext ((Upd.refl _ _).drewN' _), HUF.out.drewN' _⟩)
    · have HV : Hid (gt (ixF ops) (ng N i).1 (ng N j).1 = false) := Lib.hid (by
        obtain ⟨k, hk, hf⟩ := HV1.out.1 rfl
        exact gt_part _ HNC.out hk hf)
      go_wp2_with fail
      go_ret
      rw [HV.out]
      exact ⟨rfl, H5.out, HUF.out⟩
  · have HV : Hid (gt (ixF ops) (ng N i).1 (ng N j).1 = false) := Lib.hid (gt_var _ HNC.out (fun e => by have := HTB.out; rw [e] at this; simp at this))
    go_wp2_with fail
    go_ret
    rw [HV.out]
    exact ⟨rfl, HOO.out.ext HU.out, HU.out.mono (fun _ _ x => x.elim)⟩

end Go.Proofs.YtiimccogojkldaaGreatDoor

/- The order: greater. -/
namespace Go.Proofs.YtiimccogojkldaaGreatDoor
open Go.RowKit Go.Hw Go
set_option linter.unusedVariables false
set_option linter.unusedSimpArgs false

open Tm
theorem gt_cov' {r : By → Nat} {s t : Tm} (hs : s.sort = nul) (h : Cov r s t) : gt r s t = true := (gt_iff r s t).2 ⟨hs, .inl h⟩
theorem pairK : KeyEnc Tryz.prog 145 pairV := by
  obtain ⟨i, hi⟩ := info_of_underlying (P := Tryz.prog) Tryz.underlying3
  exact pairKey Tryz.underlying145 Tryz.underlying3 hi (by kernel_rfl)
set_option maxRecDepth 100000 in
set_option maxHeartbeats 2000000 in
theorem greater_step (ops : List By) (R B : Nat → Prop) (base b : Nat) (N : List Nt) (hNl : N.length ≤ 100000) (hkl : ∀ i, i < N.length → (ng N i).2.length ≤ 1000000) (m : Nat) (hg : ∀ (i j : Nat), i + j < m → i < N.length → j < N.length → ∀ W, OrdR 144 114 ops R B base W b N → Calls Tryz.prog 76 #[.pointer (some ⟨b, 0, none⟩), natV i, natV j] W fun e W' => e = .returned (.bool (gt (ixF ops) (ng N i).1 (ng N j).1)) ∧ OrdR 144 114 ops R B base W' b N ∧ Upd B W W') (i j : Nat) (hm : i + j ≤ m) (hi : i < N.length) (hj : j < N.length) (w : World) (hO : OrdR 144 114 ops R B base w b N) :
    Calls Tryz.prog 76 #[.pointer (some ⟨b, 0, none⟩), natV i, natV j] w fun e W' => e = .returned (.bool (gt (ixF ops) (ng N i).1 (ng N j).1)) ∧ OrdR 144 114 ops R B base W' b N ∧ Upd B w W' := by
  obtain ⟨nv, br, bk, bd, us, G, rl, kl, dl, hX⟩ := id hO
  obtain ⟨g0, cap, hnv, _, _, hat⟩ := hX.at_ (by omega)
  subst hnv
  obtain ⟨a, c, _, s1', _, _⟩ := hat i hi
  obtain ⟨off, hoff⟩ : ∃ o, o = 0 := ⟨_, rfl⟩
  rw [← hoff, ← Nat.add_assoc] at s1'
  have HX := Lib.hid hX
  have HG := Lib.hid hg
  have HO := Lib.hid hO
  have HNUM := Lib.hid hX.num
  have HUN := Lib.hid hX.uniq
  have HKL := Lib.hid hkl
  have hbox : w.heap[b]? = some (.cells #[.map (some br), .slice (some ⟨g0, off, none⟩) N.length cap, .map (some bk), .map (some bd)] 114 (0, 0)) := by rw [hoff]; exact hX.box
  have HIN := Lib.hid hX.nin
  have HANS := Lib.hid (hX.ans (i, j))
  have HDN := Lib.hid hX.done
  have HLT := Lib.hid (fun k hk => (hX.lt k hk).2.1)
  clear hg hO hat hX hkl hoff
  have o1 := cellRow hbox 1 (.slice (some ⟨g0, off, none⟩) N.length cap) rfl
  have z0 : (0 : Int) ≤ (i : Int) := by omega
  have z1 : (i : Int) < (N.length : Int) := by omega
  by_cases hs : (ng N i).1.sort = nul
  · have hsb : (!decide ((ng N i).1.sort = nul)) = false := by rw [decide_eq_true hs]; rfl
    rw [hsb] at s1'
    have HS := Lib.hid hs
    clear hs hsb
    by_cases hij : i = j
    · subst hij
      have HV : Hid (gt (ixF ops) (ng N i).1 (ng N i).1 = false) := Lib.hid (gt_irrefl _ _)
      have t0 : ((i : Int) == (i : Int)) = true := by simp
      rw [HV.out]
      clear hbox
      go_enter Tryz.func76, Tryz.ntmps76
      go_wp2_with fail
      go_ret
      exact ⟨rfl, HO.out, Upd.refl _ _⟩
    · have t0 : ((i : Int) == (j : Int)) = false := by simp; omega
      have t0' : ¬ ((i : Int) = (j : Int)) := by omega
      have HZ : Hid (Ext w (w.alloc (.cells #[natV i, natV j] 145))) := Lib.hid ((Upd.refl (fun _ => False) w).alloc _)
      have HBP : Hid ((w.alloc (.cells #[natV i, natV j] 145)).heap[w.heap.size]? = some (.cells #[natV i, natV j] 145 (0, 0))) := Lib.hid (alloc0 w (.cells #[natV i, natV j] 145))
      have o3 := cellRow (HZ.out.heap hbox (fun h => h)) 3 (.map (some bd)) rfl
      have p0 := cellRow HBP.out 0 (natV i) rfl
      have p1 := cellRow HBP.out 1 (natV j) rfl
      have hl := fun n => MpR.get (P := Tryz.prog) (t := 111) pairK Tryz.underlying111 (z := .bool false) (Tryz.zeroValue4 ((w.alloc (.cells #[natV i, natV j] 145)).drewN n)) (show MpR pairV ((w.alloc (.cells #[natV i, natV j] 145)).drewN n) bd dl from HDN.out.ext (HZ.out.drewN' n)) (i, j) true
      simp only [if_true, pairV] at hl
      clear hbox
      obtain ⟨GV, hGV⟩ : ∃ v, gt (ixF ops) (ng N i).1 (ng N j).1 = v := ⟨_, rfl⟩
      rw [hGV]
      cases hf : afind dl (i, j) with
      | some v =>
        obtain ⟨_, _, hv⟩ := HANS.out v hf
        simp only at hv
        rw [hGV] at hv
        subst hv
        rw [hf] at hl
        simp only [Option.getD_some, Option.isSome_some] at hl
        clear hf hGV
        go_enter Tryz.func76, Tryz.ntmps76
        go_wp2_with fail
        go_quiet (fail)
        go_wp2_with fail
        go_ret
        exact ⟨rfl, HO.out.ext (HZ.out.drewN' _), (HZ.out.mono (fun _ _ x => x.elim)).drewN' _⟩
      | none =>
        rw [hf] at hl
        simp only [Option.getD_none, Option.isSome_none] at hl
        clear hf
        have HCV := Lib.hid (fun W (hW : Ext w W) => covers_x ops R B base b N hNl m HG.out i j hm hi hj W (HO.out.ext hW) (HKL.out i hi) (HNUM.out.kid i hi))
        have HCI : Hid (((ng N i).2.any fun k => decide (k = j) || gt (ixF ops) (ng N k).1 (ng N j).1) = true ↔ Cov (ixF ops) (ng N i).1 (ng N j).1) := Lib.hid (cov_any HNUM.out HUN.out hi hj)
        have HAB := Lib.hid (fun (hn : ¬ Cov (ixF ops) (ng N i).1 (ng N j).1) W (hW : OrdR 144 114 ops R B base W b N) => above_x ops R B base b N hNl m HG.out i j hm hi hj W hW HNUM.out HUN.out (HKL.out i hi) (HKL.out j hj) HS.out (HIN.out i hi HS.out) (HIN.out j hj) hn)
        generalize ((ng N i).2.any fun k => decide (k = j) || gt (ixF ops) (ng N k).1 (ng N j).1) = CB at *
        rw [hGV] at HAB
        have HGV := Lib.hid hGV
        clear hGV
        have HSS := Lib.hid (gt_cov' (r := ixF ops) (s := (ng N i).1) (t := (ng N j).1) HS.out)
        go_enter Tryz.func76, Tryz.ntmps76
        go_wp2_with fail
        go_quiet (fail)
        go_wp2_with fail
        generalize hwq : (w.alloc (.cells #[natV i, natV j] 145)).drewN nq = wq at *
        have HEQ : Hid (Ext w wq) := Lib.hid (by rw [← hwq]; exact HZ.out.drewN' nq)
        have HBQ : Hid (wq.heap[w.heap.size]? = some (.cells #[natV i, natV j] 145 (0, 0))) := Lib.hid (by rw [← hwq]; exact HBP.out)
        clear hwq hl o3 p0 p1 s1' o1
        refine (HCV.out wq HEQ.out).mono ?_
        rintro e w5 ⟨rfl, hO5, hu5⟩
        have H5 := Lib.hid hO5
        have HU5 : Hid (Upd B w w5) := Lib.hid ((HEQ.out.mono (fun _ _ x => x.elim)).trans hu5)
        have HB5 : Hid (w5.heap[w.heap.size]? = some (.cells #[natV i, natV j] 145 (0, 0))) := Lib.hid (hu5.heap HBQ.out (fun hb => by have := HLT.out _ hb; omega))
        clear hO5 hu5 HCV
        cases CB
        · have HNC : Hid (¬ Cov (ixF ops) (ng N i).1 (ng N j).1) := Lib.hid (fun h => by have := HCI.out.2 h; cases this)
          go_wp2_with fail
          refine (HAB.out HNC.out w5 H5.out).mono ?_
          rintro e w6 ⟨rfl, hO6, hu6⟩
          have HU6 : Hid (Upd B w w6) := Lib.hid (HU5.out.trans hu6)
          have HB6 : Hid (w6.heap[w.heap.size]? = some (.cells #[natV i, natV j] 145 (0, 0))) := Lib.hid (hu6.heap HB5.out (fun hb => by have := HLT.out _ hb; omega))
          have HOU := Lib.hid hO6
          clear hO6 hu6 HB5 HU5 H5 HAB
          obtain ⟨nv6, br6, bk6, bd6, us6, G6, rl6, kl6, dl6, hX6⟩ := HOU.out
          have HX6 := Lib.hid hX6
          have o36 := cellRow hX6.box 3 (.map (some bd6)) rfl
          have p06 := cellRow HB6.out 0 (natV i) rfl
          have p16 := cellRow HB6.out 1 (natV j) rfl
          obtain ⟨W2, hput, hmp2, hu2⟩ := MpR.put (P := Tryz.prog) (t := 111) pairK Tryz.underlying111 (show MpR pairV w6.drew bd6 dl6 from hX6.done) (i, j) (.bool GV)
          simp only [pairV] at hput
          have HM2 := Lib.hid hmp2
          have HU2 := Lib.hid hu2
          clear hX6 hmp2 hu2
          go_wp2_with fail
          go_still_tail 6, (by kernel_rfl)
          change wpList _ _ _ _ _ w6.drew
          go_wp2_with fail
          go_ret
          exact ⟨rfl, ⟨_, _, _, _, _, _, _, _, _, (HX6.out.put hi hj (by rw [HGV.out]) (Upd.ofDrew HU2.out) HM2.out)⟩, HU6.out.trans' (Upd.ofDrew HU2.out) (fun k hk e => by rw [e]; exact HX6.out.bb.2.2.2)⟩
        · have hgv : GV = true := by rw [← HGV.out]; exact HSS.out (HCI.out.1 rfl)
          subst hgv
          have HU6 := HU5
          have HB6 := HB5
          have HOU := H5
          clear HB5 HU5 H5 HAB
          obtain ⟨w6, hw6⟩ : ∃ w6, w5 = w6 := ⟨_, rfl⟩
          rw [hw6] at HU6 HB6 HOU ⊢
          clear hw6
          obtain ⟨nv6, br6, bk6, bd6, us6, G6, rl6, kl6, dl6, hX6⟩ := HOU.out
          have HX6 := Lib.hid hX6
          have o36 := cellRow hX6.box 3 (.map (some bd6)) rfl
          have p06 := cellRow HB6.out 0 (natV i) rfl
          have p16 := cellRow HB6.out 1 (natV j) rfl
          obtain ⟨W2, hput, hmp2, hu2⟩ := MpR.put (P := Tryz.prog) (t := 111) pairK Tryz.underlying111 (show MpR pairV w6.drew bd6 dl6 from hX6.done) (i, j) (.bool true)
          simp only [pairV] at hput
          have HM2 := Lib.hid hmp2
          have HU2 := Lib.hid hu2
          clear hX6 hmp2 hu2
          go_wp2_with fail
          go_still_tail 6, (by kernel_rfl)
          change wpList _ _ _ _ _ w6.drew
          go_wp2_with fail
          go_ret
          exact ⟨rfl, ⟨_, _, _, _, _, _, _, _, _, (HX6.out.put hi hj (by rw [HGV.out]) (Upd.ofDrew HU2.out) HM2.out)⟩, HU6.out.trans' (Upd.ofDrew HU2.out) (fun k hk e => by rw [e]; exact HX6.out.bb.2.2.2)⟩
  · have HV : Hid (gt (ixF ops) (ng N i).1 (ng N j).1 = false) := Lib.hid (gt_leaf _ hs)
    have hsb : (!decide ((ng N i).1.sort = nul)) = true := by rw [decide_eq_false hs]; rfl
    rw [hsb] at s1'
    rw [HV.out]
    clear hs hsb hbox
    go_enter Tryz.func76, Tryz.ntmps76
    go_wp2_with fail
    go_ret
    exact ⟨rfl, HO.out, Upd.refl _ _⟩
theorem greater_x (ops : List By) (R B : Nat → Prop) (base b : Nat) (N : List Nt) (hNl : N.length ≤ 100000) (hkl : ∀ i, i < N.length → (ng N i).2.length ≤ 1000000) : ∀ m, ∀ (i j : Nat), i + j < m → i < N.length → j < N.length → ∀ W, OrdR 144 114 ops R B base W b N → Calls Tryz.prog 76 #[.pointer (some ⟨b, 0, none⟩), natV i, natV j] W fun e W' => e = .returned (.bool (gt (ixF ops) (ng N i).1 (ng N j).1)) ∧ OrdR 144 114 ops R B base W' b N ∧ Upd B W W'
  | 0 => fun i j h => absurd h (Nat.not_lt_zero _)
  | m + 1 => fun i j hm hi hj W hO => greater_step ops R B base b N hNl hkl m (greater_x ops R B base b N hNl hkl m) i j (by omega) hi hj W hO

end Go.Proofs.YtiimccogojkldaaGreatDoor

/- Formed of the reference. -/
namespace Go.Proofs.YtiimccogojkldaaGreatDoor
open Go.RowKit Go.Hw Go
set_option linter.unusedVariables false
set_option linter.unusedSimpArgs false

open Tm
theorem flat_room {β : Type} (f : Tm → List β) (hf : ∀ t, (f t).length ≤ t.size) (L : List Tm) (k : Nat) (h : k < L.length) : ((L.take k).flatMap f).length + (tg L k).size ≤ sizes L := by
  have hle : ∀ M : List Tm, (M.flatMap f).length ≤ sizes M := by
    intro M
    induction M with
    | nil => simp [sizes]
    | cons a M ih =>
      have := hf a
      simp only [List.flatMap_cons, List.length_append, sizes]; omega
  have h1 := hle (L.take k)
  have h2 : sizes L = sizes (L.take (k + 1)) + sizes (L.drop (k + 1)) := by rw [← sizes_append, List.take_append_drop]
  rw [tk_snoc L k h, sizes_append] at h2
  have h3 : sizes [tg L k] = (tg L k).size := by simp [sizes]
  omega
theorem flat_snoc {β : Type} (f : Tm → List β) (L : List Tm) (k : Nat) (h : k < L.length) : (L.take (k + 1)).flatMap f = (L.take k).flatMap f ++ f (tg L k) := by
  rw [tk_snoc L k h, List.flatMap_append, List.flatMap_cons, List.flatMap_nil, List.append_nil]
theorem wf_formed {t : Tm} (h : wf nmB t = true) : formed nmB t = true := by
  unfold wf at h
  rw [Bool.and_eq_true] at h
  exact h.1
theorem formed_nd {t : Tm} (h : formed nmB t = true) : t.size ≤ 1000 ∧ ∀ x ∈ sbts t, nmB x.name = true ∧ x.kids.length ≤ 6 ∧ (x.sort = nul ∨ nmB x.sort = true ∧ x.kids = []) := by
  obtain ⟨h1, h2⟩ := (formed_iff nmB t).1 h
  refine ⟨h1, fun x hx => ?_⟩
  have hx1 : x ∈ (nodesD 1 t).map (·.1) := by rw [nodesD_fst t 1 0]; exact hx
  obtain ⟨p, hp, rfl⟩ := List.mem_map.1 hx1
  have h3 := h2 p hp
  unfold okN at h3
  simp only [Bool.and_eq_true, Bool.or_eq_true, decide_eq_true_eq] at h3
  refine ⟨h3.2.1, h3.2.2.1, ?_⟩
  rcases h3.2.2.2 with h | h
  · exact .inl h
  · exact .inr ⟨h.1, List.eq_nil_of_length_eq_zero h.2⟩
theorem formed_VL {t : Tm} (h : formed nmB t = true) : VL t := fun x hx hs => by
  rcases ((formed_nd h).2 x hx).2.2 with e | e
  · exact absurd e hs
  · exact e.2
set_option maxRecDepth 100000 in
set_option maxHeartbeats 2000000 in
theorem rformed_x (t : Tm) (v : Value) (S : Nat → Prop) (w : World) (hR : TmR S w t v) : Calls Tryz.prog 26 #[v] w fun e w' => e = .returned (.bool (wf nmB t)) ∧ Ext w w' := by
  have HR := Lib.hid hR
  obtain ⟨a, cap, rfl, hT⟩ := hR
  have HSM := Lib.hid (fun W (hW : Ext w W) => small_x t 1 1000 _ S W (HR.out.ext hW) (by omega) (by omega) (by omega))
  have HSF := Lib.hid (small_formed nmB t)
  dsimp only [tV] at HSM ⊢
  have HZ := Lib.hid ((Upd.refl (fun _ => False) w).alloc (.cells #[.string t.name, .string t.sort, .slice a t.kids.length cap] 25))
  have HB := Lib.hid (alloc0 w (.cells #[.string t.name, .string t.sort, .slice a t.kids.length cap] 25))
  have c0 := cellRow HB.out 0 (.string t.name) rfl
  have c1 := cellRow HB.out 1 (.string t.sort) rfl
  have c2 := cellRow HB.out 2 (.slice a t.kids.length cap) rfl
  by_cases hf : formed nmB t = true
  · have hsz := (formed_nd hf).1
    have HVA := Lib.hid (fun W (hW : Ext w W) => vars_x t [] (.slice none 0 0) _ S S W (HR.out.ext hW) (SlR.nil S W 2) (formed_VL hf) (by show 0 + t.size ≤ 100000; omega))
    have HV : Hid (wf nmB t = (vFold [] (vl (sbts t))).2) := Lib.hid (by unfold wf; rw [hf, Bool.true_and, varsT_ok])
    have z1 : ¬ (small nmB 1 1000 t < 0) := by
      have := HSF.out
      rw [hf] at this
      have := of_decide_eq_true this.symm
      omega
    dsimp only [tV] at HVA
    clear hT hf hsz
    generalize small nmB 1 1000 t = R at *
    generalize (vFold [] (vl (sbts t))).2 = B at *
    go_enter Tryz.func26, Tryz.ntmps26
    go_wp2_with fail
    refine (HSM.out _ HZ.out).mono ?_
    rintro e w4 ⟨rfl, hw4⟩
    have H4 := Lib.hid (HZ.out.ext hw4)
    have HB4 := Lib.hid (hw4.heap HB.out (fun h => h))
    clear hw4 c0 c1 c2
    have c0 := cellRow HB4.out 0 (.string t.name) rfl
    have c1 := cellRow HB4.out 1 (.string t.sort) rfl
    have c2 := cellRow HB4.out 2 (.slice a t.kids.length cap) rfl
    go_wp2_with fail
    refine (HVA.out _ H4.out).mono ?_
    rintro e w5 ⟨r, rfl, _, hw5⟩
    have H5 := Lib.hid (H4.out.ext hw5)
    clear hw5 c0 c1 c2
    go_wp2_with fail
    go_ret
    rw [HV.out]
    exact ⟨rfl, H5.out⟩
  · have HV : Hid (wf nmB t = false) := Lib.hid (by unfold wf; rw [Bool.eq_false_iff.2 hf]; rfl)
    have z1 : small nmB 1 1000 t < 0 := by
      have h1 := HSF.out
      rw [Bool.eq_false_iff.2 hf] at h1
      have := of_decide_eq_false h1.symm
      omega
    clear hT hf
    generalize small nmB 1 1000 t = R at *
    go_enter Tryz.func26, Tryz.ntmps26
    go_wp2_with fail
    refine (HSM.out _ HZ.out).mono ?_
    rintro e w4 ⟨rfl, hw4⟩
    have H4 := Lib.hid (HZ.out.ext hw4)
    clear hw4 c0 c1 c2
    go_wp2_with fail
    go_ret
    rw [HV.out]
    exact ⟨rfl, H4.out⟩
theorem infoS : (Tryz.prog.info? 9).map (fun i => (i.zero, i.size, i.bytes)) = some (some (.string ⟨#[]⟩), 1, 16) := by kernel_rfl
theorem strs_one (l : List By) : ∀ u ∈ l.map Value.string, u.oneCell' = true := by
  intro u hu
  obtain ⟨x, _, rfl⟩ := List.mem_map.1 hu
  rfl
theorem str_own {S : Nat → Prop} {base e : Nat} {W : World} {v : Value} {l : List By} (h : W.ownsRow base e 1 v l.length (l.map Value.string)) : StR (fun j => S j ∨ base ≤ j) W v l := SlR.weaken (SlR.of_own h) (fun j hj => .inr (h.lt j hj).1)

end Go.Proofs.YtiimccogojkldaaGreatDoor

/- Ops of the reference. -/
namespace Go.Proofs.YtiimccogojkldaaGreatDoor
open Go.RowKit Go.Hw Go
set_option linter.unusedVariables false
set_option linter.unusedSimpArgs false

open Tm
/-- a row of strings is no box of a term -/
theorem own_not_box {W : World} {base : Nat} {v : Value} {n : Nat} {xs : List Value} {e t size : Nat} {b : Nat} {cs : Array Value} {mk : Nat × Nat} (hne : e ≠ t) (h : W.ownsRow base e size v n xs) (hb : W.heap[b]? = some (.cells cs t mk)) (ho : v.ownBlock = some b) : False := by
  rcases h.2 with ⟨rfl, _⟩ | ⟨g, cap, cur, rfl, _, hg, _⟩
  · simp [Value.ownBlock] at ho
  · simp only [Value.ownBlock, Option.some.injEq] at ho
    subst ho
    rw [hg] at hb
    injection hb with hb
    injection hb with h1 h2 h3
    exact hne h2
set_option maxRecDepth 100000 in
set_option maxHeartbeats 2000000 in
theorem rops_x : ∀ (t : Tm) (l : List By) (v v' : Value) (S T : Nat → Prop) (w : World), TmR T w t v' → StR S w v l → l.length + t.size ≤ 100000 →
    Calls Tryz.prog 50 #[v, v'] w fun e w' => ∃ r, e = .returned r ∧ StR (fun k => S k ∨ w.heap.size ≤ k) w' r (aFold l (opN t)) ∧ Ext w w' := by
  refine Tm.ind (fun nm so L ih => ?_)
  intro l v v' S T w hT hF hsz
  obtain ⟨a, cap, rfl, hT⟩ := hT
  dsimp only [tV, Tm.name, Tm.sort, Tm.kids] at hT ⊢
  have HTL := Lib.hid hT
  have HIH := Lib.hid ih
  have HF := Lib.hid hF
  obtain ⟨fa, fc, rfl⟩ := SlR.shape hF
  clear ih hT hF
  have hroom : l.length + sizes L + 1 ≤ 100000 := by rw [size_eq] at hsz; exact hsz
  have HR0 := Lib.hid hroom
  have hll : l.length ≤ 100000 := by omega
  have hlL : L.length ≤ 100000 := by have h1 := length_le_sizes L; omega
  clear hsz hroom
  have HZ := Lib.hid ((Upd.refl (fun _ => False) w).alloc (.cells #[.string nm, .string so, .slice a L.length cap] 25))
  have HB := Lib.hid (alloc0 w (.cells #[.string nm, .string so, .slice a L.length cap] 25))
  have HNB : Hid (∀ (W : World) (v : Value) (n : Nat) (xs : List Value), W.ownsRow w.heap.size 9 1 v n xs → W.heap[w.heap.size]? = some (.cells #[.string nm, .string ⟨#[]⟩, .slice a L.length cap] 25 (0, 0)) → v.ownBlock = some w.heap.size → False) := Lib.hid (fun W v n xs h1 h2 h3 => own_not_box (by decide) h1 h2 h3)
  have c0 := cellRow HB.out 0 (.string nm) rfl
  have c1 := cellRow HB.out 1 (.string so) rfl
  have c2 := cellRow HB.out 2 (.slice a L.length cap) rfl
  by_cases hs0 : so.size = 0
  · have hse := empty_is _ hs0
    subst hse
    have HIX0 := Lib.hid (fun W (hW : Ext w W) => index_x l nm _ S W (StR.ext HF.out hW) (by omega))
    have HNG := Lib.hid (ixI_neg l nm)
    by_cases hm : nm ∈ l
    · have z1 : ¬ (ixI l nm < 0) := by have := ixI_neg l nm; rw [decide_eq_true hm] at this; exact of_decide_eq_false this
      have HOPN : Hid (aFold l (opN (.mk nm ⟨#[]⟩ L)) = aFold l (L.flatMap opN)) := Lib.hid (by
        rw [opN_mk, if_pos (show (⟨#[]⟩ : By) = nul from rfl), aFold_append]
        unfold aFold aIns
        simp [hm])
      have HL0 : Hid (l.length ≤ l.length + 1) := Lib.hid (Nat.le_succ _)
      clear hm HNG
      generalize ixI l nm = IXV at *
      go_enter Tryz.func50, Tryz.ntmps50
      go_wp2_with fail
      refine (HIX0.out _ HZ.out).mono ?_
      rintro e w4 ⟨rfl, rfl⟩
      go_wp2_with fail
      clear c0 c1 c2 z1
      go_loopg [0, 5] L.length (fun gk lv iv wr => ∃ k : Nat, iv = .int .i64 (k : Int) ∧ gk = L.length - k ∧ k ≤ L.length ∧ Hid (StR (fun j => S j ∨ w.heap.size ≤ j) wr lv (aFold (l) ((L.take k).flatMap opN))) ∧ Hid (Ext w wr) ∧ Hid (wr.heap[w.heap.size]? = some (.cells #[.string nm, .string ⟨#[]⟩, .slice a L.length cap] 25 (0, 0))))
      case atStart => exact ⟨0, rfl, rfl, Nat.zero_le _, Lib.hid (SlR.weaken (StR.ext HF.out HZ.out) (fun j h => .inl h)), HZ, HB⟩
      case round =>
        obtain ⟨k, rfl, rfl, hk, HFk, HE, HBr⟩ := hrel
        have c2 := cellRow HBr.out 2 (.slice a L.length cap) rfl
        by_cases hlt : k < L.length
        · obtain ⟨g, off, rfl, _, hat⟩ := (HTL.out.ext HE.out).at_ (by omega)
          obtain ⟨ka, kc, q0, q1, q2, hkid⟩ := hat k hlt
          have z0 : (0 : Int) ≤ (k : Int) := by omega
          have z1 : (k : Int) < (L.length : Int) := by omega
          have z2 : decide ((k : Int) < (L.length : Int)) = true := decide_eq_true z1
          have z2' : decide (k < L.length) = true := decide_eq_true hlt
          have hmem := tg_mem L k hlt
          have hrm := flat_room opN opN_len L k hlt
          have hln := aFold_len ((L.take k).flatMap opN) (l)
          have hl0 := HL0.out
          have hsn := flat_snoc opN L k hlt
          have HIX := Lib.hid (HIH.out (tg L k) hmem _ _ _ _ T wr ⟨ka, kc, rfl, hkid⟩ HFk.out (by have := HR0.out; omega))
          dsimp only [tV] at HIX
          rw [← aFold_append, ← hsn] at HIX
          obtain ⟨x, hx⟩ : ∃ x, tg L k = x := ⟨_, rfl⟩
          rw [hx] at q0 q1 q2 HIX
          rw [← Nat.add_assoc] at q1 q2
          obtain ⟨fa, fc, hlv⟩ := SlR.shape HFk.out
          subst hlv
          clear hmem hrm hln hl0 hsn hx hat hkid
          go_wp2_with fail
          refine HIX.out.mono ?_
          rintro e w8 ⟨r, rfl, hr, hw8⟩
          have HE8 := Lib.hid (HE.out.trans hw8)
          have HB8 := Lib.hid (hw8.heap HBr.out (fun h => h))
          have HFr := Lib.hid (SlR.weaken hr (fun j h => by
            rcases h with h | h
            · exact h
            · exact .inr (Nat.le_trans HE.out.size h)) : StR (fun j => S j ∨ w.heap.size ≤ j) w8 r (aFold (l) ((L.take (k + 1)).flatMap opN)))
          clear hr hw8 c2 q0 q1 q2 HIX
          go_wp2_with fail
          go_roundg (L.length - (k + 1))
          case measure => omega
          case rel => exact ⟨k + 1, by go_num, rfl, by omega, HFr, HE8, HB8⟩
        · obtain rfl : k = L.length := by omega
          have z2 : decide ((L.length : Int) < (L.length : Int)) = false := decide_eq_false (by omega)
          have HFL := HFk.out
          rw [List.take_length] at HFL
          have HFQ := Lib.hid HFL
          clear HFL
          go_wp2_with fail
          go_ret
          rw [HOPN.out]
          exact ⟨_, rfl, HFQ.out, HE.out⟩
    · have z1 : ixI l nm < 0 := by have := ixI_neg l nm; rw [decide_eq_false hm] at this; exact of_decide_eq_true this
      have HOPN : Hid (aFold l (opN (.mk nm ⟨#[]⟩ L)) = aFold (l ++ [nm]) (L.flatMap opN)) := Lib.hid (by
        rw [opN_mk, if_pos (show (⟨#[]⟩ : By) = nul from rfl), aFold_append]
        unfold aFold aIns
        simp [hm])
      have HL0 : Hid ((l ++ [nm]).length ≤ l.length + 1) := Lib.hid (by simp)
      clear hm HNG
      generalize ixI l nm = IXV at *
      go_enter Tryz.func50, Tryz.ntmps50
      go_wp2_with fail
      refine (HIX0.out _ HZ.out).mono ?_
      rintro e w4 ⟨rfl, rfl⟩
      go_wp2_with fail
      clear c0 c1 c2 z1
      have c0 := cellRow HB.out 0 (.string nm) rfl
      have xf0 := fun x : XW (w.alloc (.cells #[.string nm, .string ⟨#[]⟩, .slice a L.length cap] 25)) => x.ext.cell c0 (fun h => h)
      clear c0
      generalize hwz : w.alloc (.cells #[.string nm, .string ⟨#[]⟩, .slice a L.length cap] 25) = wz at *
      clear hwz
      refine wp_region_parF (α := Option Addr × Nat) 6 [] 6 [(6, 2), (7, 2)] [[], [], [0, 1], [], [3], [3, 4], [0, 1, 2, 3, 4, 5], [0, 1, 2, 3, 4, 5, 6]]
        [some ⟨fun x => .slice x.1 0 0, fun x W => W.ownsRow w.heap.size 9 1 (.slice x.1 0 0) 0 [], fun x W W' h hE => own_kept h hE (fun _ _ h => h)⟩, none, some ⟨fun x => .slice x.1 l.length x.2, fun x W => W.ownsRow w.heap.size 9 1 (.slice x.1 l.length x.2) l.length (l.map Value.string), fun x W W' h hE => own_kept h hE (fun _ _ h => h)⟩, none, none, some ⟨fun x => .slice x.1 1 x.2, fun x W => StR (fun j => w.heap.size ≤ j) W (.slice x.1 1 x.2) [nm], fun x W W' h hE => StR.ext h hE⟩]
        [true, false, true, false, false, true] (by kernel_rfl) (by kernel_rfl) rfl (fun _ _ d _ _ h => by cases d <;> exact h) ?_
      simp only [List.take_succ_cons, List.take_zero, pickO, List.getElem?_cons_zero, List.getElem?_cons_succ]
      refine can_mem _ rfl (by go_simp) (fun W hW hG K hK => ?_) (fun K zz0 hK => ?_)
      · go_simp
        exact hK (some ⟨W.heap.size, 0, none⟩, 0) _ ((Upd.refl (fun _ => False) W).alloc _) (World.ownsRow_lit (base := w.heap.size) (e := 9) (size := 1) W #[] 0 (Nat.le_trans HZ.out.size hW.size) (by unfold maxLen; omega) (by simp))
      refine hK _ ?_; clear hK K
      dsimp only
      refine can_pure0 rfl (fun K hK => ?_); go_simp; refine hK _ ?_; clear hK K
      obtain ⟨iS, hi, hz0, hz1, hz2⟩ := info_parts infoS
      refine can_mem _ rfl (by go_simp) (fun W hW hG K hK => ?_) (fun K zz2 hK => ?_)
      · have g0 := hG _ (List.mem_singleton.2 rfl) (by show (0 : Nat) ∈ _; decide)
        have hsl : StR S W (.slice fa l.length fc) l := (StR.ext HF.out HZ.out).ext hW
        refine step_append_new _ (.tmp 16) (.tmp 17) 22 rfl w.heap.size 9 iS (.string ⟨#[]⟩) 1 16 Tryz.underlying22 hi hz0 hz1 hz2 rfl (by decide) _ rfl g0 S _ l.length _ rfl hsl (strs_one _) (by unfold maxLen; omega) (by omega) (Nat.le_trans HZ.out.size hW.size) ?_
        intro v' w' hE4 hO4
        obtain ⟨p4, c4, rfl⟩ := own_shape hO4
        exact hK (p4, c4) _ hE4 hO4
      refine hK _ ?_; clear hK K
      dsimp only
      iterate 2 (refine can_pure0 rfl (fun K hK => ?_); go_simp; refine hK _ ?_; clear hK K)
      refine can_mem _ rfl (by go_simp) (fun W hW hG K hK => ?_) (fun K zz5 hK => ?_)
      · go_simp
        exact hK (some ⟨W.heap.size, 0, none⟩, 1) _ ((Upd.refl (fun _ => False) W).alloc _) (SlR.weaken (SlR.of_own (World.ownsRow_lit (base := w.heap.size) (e := 9) (size := 1) W #[.string nm] 1 (Nat.le_trans HZ.out.size hW.size) (by unfold maxLen; omega) (by simp))) (fun k hk => by injection hk with hk; rw [← hk]; exact Nat.le_trans HZ.out.size hW.size))
      refine hK _ ?_; clear hK K
      dsimp only
      refine can_end (fun w8 hW hG => ?_)
      have g2 := hG _ (List.mem_append_left _ (List.mem_append_right _ (List.mem_singleton.2 rfl)))
      have g5 := hG _ (List.mem_append_right _ (List.mem_singleton.2 rfl))
      dsimp only at g2 g5
      have hW8 : Hid (Ext w w8) := Lib.hid (HZ.out.trans hW)
      have HB8 := Lib.hid (hW.heap HB.out (fun h => h))
      clear hG hW
      refine mix_two (fun K hK => ?_)
      rw [if_pos (by go_simp)]
      refine step_append_sl _ (.tmp 18) (.tmp 21) 22 rfl w.heap.size 9 iS (.string ⟨#[]⟩) 1 16 Tryz.underlying22 hi hz0 hz1 hz2 rfl (by decide) (.slice zz2.1 l.length zz2.2) l.length _ rfl g2 (fun j => w.heap.size ≤ j) (.slice zz5.1 1 zz5.2) 1 _ rfl g5 (strs_one _) (by unfold maxLen; omega) (by omega) hW8.out.size ?_
      intro v7 w9 hG7
      refine hK _ _ ?_; clear hK K
      refine mix_two (fun K hK => ?_); go_simp; refine hK _ _ ?_; clear hK K
      simp only [wpMix]
      have hW9 : Hid (Ext w w9) := Lib.hid (hW8.out.trans' hG7.upd (fun j hj h => absurd (g2.lt j h).1 (by omega)))
      have HB9 : Hid (w9.heap[w.heap.size]? = some (.cells #[.string nm, .string ⟨#[]⟩, .slice a L.length cap] 25 (0, 0))) := Lib.hid (hG7.upd.heap HB8.out (fun h => HNB.out w8 _ _ _ g2 HB8.out h))
      have HF9 : Hid (StR (fun j => S j ∨ w.heap.size ≤ j) w9 v7 (l ++ [nm])) := Lib.hid (by
        have h1 := hG7.own
        have h2 : (l ++ [nm]).length = l.length + 1 := by simp
        have h3 : (l ++ [nm]).map Value.string = l.map Value.string ++ [nm].map Value.string := by simp
        unfold StR
        rw [h2, h3]
        exact SlR.weaken (SlR.of_own h1) (fun j hj => .inr (h1.lt j hj).1))
      obtain ⟨fa9, fc9, hv7⟩ := SlR.shape HF9.out
      rw [List.length_append, List.length_singleton] at hv7
      subst hv7
      clear hG7 g2 g5 hW8 HB8 HZ HB xf0 hi hz0 hz1 hz2
      have c2 := cellRow HB9.out 2 (.slice a L.length cap) rfl
      go_wp2_with fail
      clear c2
      go_loopg [0, 5] L.length (fun gk lv iv wr => ∃ k : Nat, iv = .int .i64 (k : Int) ∧ gk = L.length - k ∧ k ≤ L.length ∧ Hid (StR (fun j => S j ∨ w.heap.size ≤ j) wr lv (aFold (l ++ [nm]) ((L.take k).flatMap opN))) ∧ Hid (Ext w wr) ∧ Hid (wr.heap[w.heap.size]? = some (.cells #[.string nm, .string ⟨#[]⟩, .slice a L.length cap] 25 (0, 0))))
      case atStart => exact ⟨0, rfl, rfl, Nat.zero_le _, HF9, hW9, HB9⟩
      case round =>
        obtain ⟨k, rfl, rfl, hk, HFk, HE, HBr⟩ := hrel
        have c2 := cellRow HBr.out 2 (.slice a L.length cap) rfl
        by_cases hlt : k < L.length
        · obtain ⟨g, off, rfl, _, hat⟩ := (HTL.out.ext HE.out).at_ (by omega)
          obtain ⟨ka, kc, q0, q1, q2, hkid⟩ := hat k hlt
          have z0 : (0 : Int) ≤ (k : Int) := by omega
          have z1 : (k : Int) < (L.length : Int) := by omega
          have z2 : decide ((k : Int) < (L.length : Int)) = true := decide_eq_true z1
          have z2' : decide (k < L.length) = true := decide_eq_true hlt
          have hmem := tg_mem L k hlt
          have hrm := flat_room opN opN_len L k hlt
          have hln := aFold_len ((L.take k).flatMap opN) (l ++ [nm])
          have hl0 := HL0.out
          have hsn := flat_snoc opN L k hlt
          have HIX := Lib.hid (HIH.out (tg L k) hmem _ _ _ _ T wr ⟨ka, kc, rfl, hkid⟩ HFk.out (by have := HR0.out; omega))
          dsimp only [tV] at HIX
          rw [← aFold_append, ← hsn] at HIX
          obtain ⟨x, hx⟩ : ∃ x, tg L k = x := ⟨_, rfl⟩
          rw [hx] at q0 q1 q2 HIX
          rw [← Nat.add_assoc] at q1 q2
          obtain ⟨fa, fc, hlv⟩ := SlR.shape HFk.out
          subst hlv
          clear hmem hrm hln hl0 hsn hx hat hkid
          go_wp2_with fail
          refine HIX.out.mono ?_
          rintro e w8 ⟨r, rfl, hr, hw8⟩
          have HE8 := Lib.hid (HE.out.trans hw8)
          have HB8 := Lib.hid (hw8.heap HBr.out (fun h => h))
          have HFr := Lib.hid (SlR.weaken hr (fun j h => by
            rcases h with h | h
            · exact h
            · exact .inr (Nat.le_trans HE.out.size h)) : StR (fun j => S j ∨ w.heap.size ≤ j) w8 r (aFold (l ++ [nm]) ((L.take (k + 1)).flatMap opN)))
          clear hr hw8 c2 q0 q1 q2 HIX
          go_wp2_with fail
          go_roundg (L.length - (k + 1))
          case measure => omega
          case rel => exact ⟨k + 1, by go_num, rfl, by omega, HFr, HE8, HB8⟩
        · obtain rfl : k = L.length := by omega
          have z2 : decide ((L.length : Int) < (L.length : Int)) = false := decide_eq_false (by omega)
          have HFL := HFk.out
          rw [List.take_length] at HFL
          have HFQ := Lib.hid HFL
          clear HFL
          go_wp2_with fail
          go_ret
          rw [HOPN.out]
          exact ⟨_, rfl, HFQ.out, HE.out⟩
  · obtain ⟨e1, e2, e3, e4⟩ := nonempty_t so (Nat.pos_of_ne_zero hs0)
    have HOPN : Hid (aFold l (opN (.mk nm so L)) = aFold l (L.flatMap opN)) := Lib.hid (by
      rw [opN_mk, if_neg (fun e => hs0 (by rw [e]; rfl))]; rfl)
    have HL0 : Hid (l.length ≤ l.length + 1) := Lib.hid (Nat.le_succ _)
    go_enter Tryz.func50, Tryz.ntmps50
    go_wp2_with fail
    clear c0 c1 c2 e1 e2 e3 e4
    go_loopg [0, 5] L.length (fun gk lv iv wr => ∃ k : Nat, iv = .int .i64 (k : Int) ∧ gk = L.length - k ∧ k ≤ L.length ∧ Hid (StR (fun j => S j ∨ w.heap.size ≤ j) wr lv (aFold (l) ((L.take k).flatMap opN))) ∧ Hid (Ext w wr) ∧ Hid (wr.heap[w.heap.size]? = some (.cells #[.string nm, .string so, .slice a L.length cap] 25 (0, 0))))
    case atStart => exact ⟨0, rfl, rfl, Nat.zero_le _, Lib.hid (SlR.weaken (StR.ext HF.out HZ.out) (fun j h => .inl h)), HZ, HB⟩
    case round =>
      obtain ⟨k, rfl, rfl, hk, HFk, HE, HBr⟩ := hrel
      have c2 := cellRow HBr.out 2 (.slice a L.length cap) rfl
      by_cases hlt : k < L.length
      · obtain ⟨g, off, rfl, _, hat⟩ := (HTL.out.ext HE.out).at_ (by omega)
        obtain ⟨ka, kc, q0, q1, q2, hkid⟩ := hat k hlt
        have z0 : (0 : Int) ≤ (k : Int) := by omega
        have z1 : (k : Int) < (L.length : Int) := by omega
        have z2 : decide ((k : Int) < (L.length : Int)) = true := decide_eq_true z1
        have z2' : decide (k < L.length) = true := decide_eq_true hlt
        have hmem := tg_mem L k hlt
        have hrm := flat_room opN opN_len L k hlt
        have hln := aFold_len ((L.take k).flatMap opN) (l)
        have hl0 := HL0.out
        have hsn := flat_snoc opN L k hlt
        have HIX := Lib.hid (HIH.out (tg L k) hmem _ _ _ _ T wr ⟨ka, kc, rfl, hkid⟩ HFk.out (by have := HR0.out; omega))
        dsimp only [tV] at HIX
        rw [← aFold_append, ← hsn] at HIX
        obtain ⟨x, hx⟩ : ∃ x, tg L k = x := ⟨_, rfl⟩
        rw [hx] at q0 q1 q2 HIX
        rw [← Nat.add_assoc] at q1 q2
        obtain ⟨fa, fc, hlv⟩ := SlR.shape HFk.out
        subst hlv
        clear hmem hrm hln hl0 hsn hx hat hkid
        go_wp2_with fail
        refine HIX.out.mono ?_
        rintro e w8 ⟨r, rfl, hr, hw8⟩
        have HE8 := Lib.hid (HE.out.trans hw8)
        have HB8 := Lib.hid (hw8.heap HBr.out (fun h => h))
        have HFr := Lib.hid (SlR.weaken hr (fun j h => by
          rcases h with h | h
          · exact h
          · exact .inr (Nat.le_trans HE.out.size h)) : StR (fun j => S j ∨ w.heap.size ≤ j) w8 r (aFold (l) ((L.take (k + 1)).flatMap opN)))
        clear hr hw8 c2 q0 q1 q2 HIX
        go_wp2_with fail
        go_roundg (L.length - (k + 1))
        case measure => omega
        case rel => exact ⟨k + 1, by go_num, rfl, by omega, HFr, HE8, HB8⟩
      · obtain rfl : k = L.length := by omega
        have z2 : decide ((L.length : Int) < (L.length : Int)) = false := decide_eq_false (by omega)
        have HFL := HFk.out
        rw [List.take_length] at HFL
        have HFQ := Lib.hid HFL
        clear HFL
        go_wp2_with fail
        go_ret
        rw [HOPN.out]
        exact ⟨_, rfl, HFQ.out, HE.out⟩

end Go.Proofs.YtiimccogojkldaaGreatDoor

/- Knows, occurs of the reference. -/
namespace Go.Proofs.YtiimccogojkldaaGreatDoor
open Go.RowKit Go.Hw Go
set_option linter.unusedVariables false
set_option linter.unusedSimpArgs false

open Tm
theorem knowsP_fold (ops : List By) (t : Tm) : knowsP ops t = (aFold [] (opN t)).all fun s => decide (s ∈ ops) := by
  rw [Bool.eq_iff_iff, knowsP_iff, List.all_eq_true]
  constructor
  · intro h s hs
    rw [mem_aFold] at hs
    rcases hs with hs | hs
    · simp at hs
    · exact decide_eq_true (h s hs)
  · intro h s hs
    exact of_decide_eq_true (h s (mem_aFold.2 (.inr hs)))
set_option maxRecDepth 100000 in
set_option maxHeartbeats 2000000 in
theorem rknows_x (ops : List By) (t : Tm) (v v' : Value) (S T : Nat → Prop) (w : World) (hO : StR S w v ops) (hR : TmR T w t v') (hol : ops.length ≤ 1000000) (hsz : t.size ≤ 100000) :
    Calls Tryz.prog 27 #[v, v'] w fun e w' => e = .returned (.bool (knowsP ops t)) ∧ Ext w w' := by
  have HO := Lib.hid hO
  obtain ⟨oa, oc, rfl⟩ := SlR.shape hO
  have HR := Lib.hid hR
  obtain ⟨a, cap, rfl, hT⟩ := hR
  have HOPS := Lib.hid (fun W (hW : Ext w W) => rops_x t [] (.slice none 0 0) _ S T W (HR.out.ext hW) (SlR.nil S W 1) (by show 0 + t.size ≤ 100000; omega))
  have HKP := Lib.hid (knowsP_fold ops t)
  have hlen := aFold_len (opN t) []
  have hlo := opN_len t
  dsimp only [tV] at HOPS ⊢
  have hl2 : (aFold [] (opN t)).length ≤ 100000 := by simp only [List.length_nil] at hlen; omega
  clear hlen hlo hT hO
  generalize aFold [] (opN t) = M at *
  have HZ := Lib.hid ((Upd.refl (fun _ => False) w).alloc (.cells #[.string t.name, .string t.sort, .slice a t.kids.length cap] 25))
  have HB := Lib.hid (alloc0 w (.cells #[.string t.name, .string t.sort, .slice a t.kids.length cap] 25))
  have c0 := cellRow HB.out 0 (.string t.name) rfl
  have c1 := cellRow HB.out 1 (.string t.sort) rfl
  have c2 := cellRow HB.out 2 (.slice a t.kids.length cap) rfl
  rw [HKP.out]
  go_enter Tryz.func27, Tryz.ntmps27
  go_wp2_with fail
  refine (HOPS.out _ HZ.out).mono ?_
  rintro e w4 ⟨r, rfl, hr, hw4⟩
  obtain ⟨ra, rc, rfl⟩ := SlR.shape hr
  have HM := Lib.hid hr
  have H4 := Lib.hid (HZ.out.ext hw4)
  clear hr hw4 c0 c1 c2
  go_wp2_with fail
  go_loopg [6] M.length (fun gk iv wr => ∃ k : Nat, iv = .int .i64 (k : Int) ∧ gk = M.length - k ∧ k ≤ M.length ∧ Hid (∀ j, j < k → bg M j ∈ ops) ∧ Hid (Ext w4 wr))
  case atStart => exact ⟨0, rfl, rfl, Nat.zero_le _, Lib.hid (fun j h => absurd h (Nat.not_lt_zero _)), Lib.hid (Upd.refl _ _)⟩
  case round =>
    obtain ⟨k, rfl, rfl, hk, HC, HE⟩ := hrel
    by_cases hlt : k < M.length
    · obtain ⟨g, off, rfl, _, hat⟩ := StR.at_ (StR.ext HM.out HE.out) (by omega)
      have q0 := hat k hlt
      have z0 : (0 : Int) ≤ (k : Int) := by omega
      have z1 : (k : Int) < (M.length : Int) := by omega
      have z2 : decide ((k : Int) < (M.length : Int)) = true := decide_eq_true z1
      have z2' : decide (k < M.length) = true := decide_eq_true hlt
      clear hat
      obtain ⟨x, hx⟩ : ∃ x, bg M k = x := ⟨_, rfl⟩
      have HX := Lib.hid hx
      rw [hx] at q0
      clear hx
      have HIX := Lib.hid (index_e ops x _ S wr (StR.ext (StR.ext HO.out H4.out) HE.out) hol)
      have HNG := Lib.hid (ixI_neg ops x)
      by_cases hm : x ∈ ops
      · have z3 : ¬ (ixI ops x < 0) := by have := HNG.out; rw [decide_eq_true hm] at this; exact of_decide_eq_false this
        have HN : Hid (∀ j, j < k + 1 → bg M j ∈ ops) := Lib.hid (fun j hj => by
          rcases Nat.lt_succ_iff_lt_or_eq.1 hj with h5 | h5
          · exact HC.out j h5
          · rw [h5, HX.out]; exact hm)
        clear hm HNG
        generalize ixI ops x = IXV at *
        go_wp2_with fail
        refine HIX.out.mono ?_
        rintro e w8 ⟨rfl, hw8⟩
        have HE8 := Lib.hid (HE.out.trans hw8)
        clear hw8
        go_wp2_with fail
        go_roundg (M.length - (k + 1))
        case measure => omega
        case rel => exact ⟨k + 1, by go_num, rfl, by omega, HN, HE8⟩
      · have z3 : ixI ops x < 0 := by have := HNG.out; rw [decide_eq_false hm] at this; exact of_decide_eq_true this
        have HV : Hid ((M.all fun s => decide (s ∈ ops)) = false) := Lib.hid (by
          rw [Bool.eq_false_iff]
          intro h
          have h2 := List.all_eq_true.1 h x (by rw [← HX.out, bg_at M k hlt]; exact List.getElem_mem hlt)
          exact hm (of_decide_eq_true h2))
        clear hm HNG
        generalize ixI ops x = IXV at *
        go_wp2_with fail
        refine HIX.out.mono ?_
        rintro e w8 ⟨rfl, hw8⟩
        have HE8 := Lib.hid (HE.out.trans hw8)
        clear hw8
        go_wp2_with fail
        go_ret
        rw [HV.out]
        exact ⟨rfl, H4.out.trans HE8.out⟩
    · obtain rfl : k = M.length := by omega
      have z2 : decide ((M.length : Int) < (M.length : Int)) = false := decide_eq_false (by omega)
      have HV : Hid ((M.all fun s => decide (s ∈ ops)) = true) := Lib.hid (by
        rw [List.all_eq_true]
        intro x hx
        obtain ⟨i, hi, rfl⟩ := List.mem_iff_getElem.1 hx
        have := HC.out i hi
        rw [bg_at M i hi] at this
        exact decide_eq_true this)
      go_wp2_with fail
      go_ret
      rw [HV.out]
      exact ⟨rfl, H4.out.trans HE.out⟩
set_option maxRecDepth 100000 in
set_option maxHeartbeats 2000000 in
theorem occurs_x (vn vs : By) (VK : List Tm) : ∀ (t : Tm) (vv vt' : Value) (S T : Nat → Prop) (w : World), TmR T w t vt' → TmR S w (.mk vn vs VK) vv → t.size ≤ 1000000 →
    Calls Tryz.prog 104 #[vt', vv] w fun e w' => e = .returned (.bool (occ (.mk vn vs VK) t)) ∧ Ext w w' := by
  refine Tm.ind (fun nm so L ih => ?_)
  intro vv vt' S T w hT hF hsz
  have HVR := Lib.hid hF
  obtain ⟨a, cap, rfl, hT⟩ := hT
  obtain ⟨va, vc, rfl, hV⟩ := hF
  dsimp only [tV, Tm.name, Tm.sort, Tm.kids] at hT hV HVR ⊢
  have HTL := Lib.hid hT
  have HIH := Lib.hid ih
  have hlL : L.length ≤ 1000000 := by have h1 := length_le_sizes L; rw [size_eq] at hsz; simp only [Tm.kids] at hsz; omega
  have HSZ : Hid (∀ x ∈ L, x.size ≤ 1000000) := Lib.hid (fun x hx => by have := size_kid (t := .mk nm so L) hx; omega)
  clear ih hT hV hsz
  have HZ := Lib.hid (((Upd.refl (fun _ => False) w).alloc (.cells #[.string nm, .string so, .slice a L.length cap] 25)).alloc (.cells #[.string vn, .string vs, .slice va VK.length vc] 25))
  have HB := Lib.hid (allocOld (alloc0 w (.cells #[.string nm, .string so, .slice a L.length cap] 25)) (.cells #[.string vn, .string vs, .slice va VK.length vc] 25))
  have HVB := Lib.hid (alloc_at (w.alloc (.cells #[.string nm, .string so, .slice a L.length cap] 25)) (.cells #[.string vn, .string vs, .slice va VK.length vc] 25) (n := w.heap.size + 1) (by simp))
  have c0 := cellRow HB.out 0 (.string nm) rfl
  have c1 := cellRow HB.out 1 (.string so) rfl
  have c2 := cellRow HB.out 2 (.slice a L.length cap) rfl
  have d0 := cellRow HVB.out 0 (.string vn) rfl
  have d1 := cellRow HVB.out 1 (.string vs) rfl
  have d2 := cellRow HVB.out 2 (.slice va VK.length vc) rfl
  by_cases hs0 : so.size = 0
  · have hse := empty_is _ hs0
    subst hse
    have HV0 : Hid (occ (.mk vn vs VK) (.mk nm ⟨#[]⟩ L) = L.any (occ (.mk vn vs VK))) := Lib.hid (by unfold occ; rw [if_pos (show (⟨#[]⟩ : By) = nul from rfl), occs_any])
    rw [HV0.out]
    go_enter Tryz.func104, Tryz.ntmps104
    go_wp2_with fail
    clear c0 c1 c2 d0 d1 d2
    go_loopg [5] L.length (fun gk iv wr => ∃ k : Nat, iv = .int .i64 (k : Int) ∧ gk = L.length - k ∧ k ≤ L.length ∧ Hid (∀ j, j < k → occ (.mk vn vs VK) (tg L j) = false) ∧ Hid (Ext w wr) ∧ Hid (wr.heap[w.heap.size]? = some (.cells #[.string nm, .string ⟨#[]⟩, .slice a L.length cap] 25 (0, 0))) ∧ Hid (wr.heap[w.heap.size + 1]? = some (.cells #[.string vn, .string vs, .slice va VK.length vc] 25 (0, 0))))
    case atStart => exact ⟨0, rfl, rfl, Nat.zero_le _, Lib.hid (fun j h => absurd h (Nat.not_lt_zero _)), HZ, HB, HVB⟩
    case round =>
      obtain ⟨k, rfl, rfl, hk, HC, HE, HBr, HVr⟩ := hrel
      have c2 := cellRow HBr.out 2 (.slice a L.length cap) rfl
      by_cases hlt : k < L.length
      · obtain ⟨g, off, rfl, _, hat⟩ := (HTL.out.ext HE.out).at_ (by omega)
        obtain ⟨ka, kc, q0, q1, q2, hkid⟩ := hat k hlt
        have z0 : (0 : Int) ≤ (k : Int) := by omega
        have z1 : (k : Int) < (L.length : Int) := by omega
        have z2 : decide ((k : Int) < (L.length : Int)) = true := decide_eq_true z1
        have z2' : decide (k < L.length) = true := decide_eq_true hlt
        have hmem := tg_mem L k hlt
        have HIX := Lib.hid (fun W (hW : Ext wr W) => HIH.out (tg L k) hmem _ _ S T W (TmR.ext ⟨ka, kc, rfl, hkid⟩ hW) ((HVR.out.ext HE.out).ext hW) (HSZ.out _ hmem))
        dsimp only [tV] at HIX
        obtain ⟨x, hx⟩ : ∃ x, tg L k = x := ⟨_, rfl⟩
        have HX := Lib.hid hx
        have HXM : Hid (x ∈ L) := Lib.hid (by rw [← hx]; exact hmem)
        rw [hx] at q0 q1 q2 HIX
        rw [← Nat.add_assoc] at q1 q2
        have d0 := cellRow HVr.out 0 (.string vn) rfl
        have d1 := cellRow HVr.out 1 (.string vs) rfl
        have d2 := cellRow HVr.out 2 (.slice va VK.length vc) rfl
        have xq0 := fun x : XW wr => x.ext.cell q0 (fun h => h)
        have xq1 := fun x : XW wr => x.ext.cell q1 (fun h => h)
        have xq2 := fun x : XW wr => x.ext.cell q2 (fun h => h)
        have xd0 := fun x : XW wr => x.ext.cell d0 (fun h => h)
        have xd1 := fun x : XW wr => x.ext.cell d1 (fun h => h)
        have xd2 := fun x : XW wr => x.ext.cell d2 (fun h => h)
        have xc2 := fun x : XW wr => x.ext.cell c2 (fun h => h)
        have hrfs := Upd.refl (fun _ => False) wr
        clear hmem hx hat hkid q0 q1 q2 d0 d1 d2
        obtain ⟨b, hb⟩ : ∃ b, occ (.mk vn vs VK) x = b := ⟨_, rfl⟩
        have HBB := Lib.hid hb
        rw [hb] at HIX
        clear hb
        go_wp2_with fail
        clear c2
        refine wp_region_ext wr (by assumption) (by kernel_rfl) (by kernel_rfl) ?_
        repeat (first | go_big_quiet_skip | (go_big_quiet_want; go_big_quiet_op; first | go_big_quiet_on | (apply Exists.intro; refine ⟨fun x => ?_, ?_⟩; (go_at_call 104; exact XW.call (HIX.out x.val x.ext)); go_big_quiet_on)))
        refine wpQuiet_nil ?_
        rintro w8 ⟨⟨_, hyw8⟩, rfl⟩
        try dsimp only
        have HE8 := Lib.hid (HE.out.trans hyw8)
        have HB8 := Lib.hid (hyw8.heap HBr.out (fun h => h))
        have HV8 := Lib.hid (hyw8.heap HVr.out (fun h => h))
        clear xq0 xq1 xq2 xd0 xd1 xd2 xc2 hrfs hyw8 HIX
        cases b
        · have HN : Hid (∀ j, j < k + 1 → occ (.mk vn vs VK) (tg L j) = false) := Lib.hid (fun j hj => by
            rcases Nat.lt_succ_iff_lt_or_eq.1 hj with h5 | h5
            · exact HC.out j h5
            · rw [h5, HX.out]; exact HBB.out)
          go_wp2_with fail
          go_roundg (L.length - (k + 1))
          case measure => omega
          case rel => exact ⟨k + 1, by go_num, rfl, by omega, HN, HE8, HB8, HV8⟩
        · have HV : Hid (L.any (occ (.mk vn vs VK)) = true) := Lib.hid (List.any_eq_true.2 ⟨x, HXM.out, HBB.out⟩)
          go_wp2_with fail
          go_ret
          rw [HV.out]
          exact ⟨rfl, HE8.out⟩
      · obtain rfl : k = L.length := by omega
        have z2 : decide ((L.length : Int) < (L.length : Int)) = false := decide_eq_false (by omega)
        have HV : Hid (L.any (occ (.mk vn vs VK)) = false) := Lib.hid (by
          rw [Bool.eq_false_iff]
          intro h
          obtain ⟨x, hx, hx2⟩ := List.any_eq_true.1 h
          obtain ⟨i, hi, rfl⟩ := List.mem_iff_getElem.1 hx
          have h3 := HC.out i hi
          have h4 : tg L i = L[i] := by unfold tg; rw [List.getD_eq_getElem?_getD, List.getElem?_eq_getElem hi]; rfl
          rw [h4, hx2] at h3; cases h3)
        go_wp2_with fail
        go_ret
        rw [HV.out]
        exact ⟨rfl, HE.out⟩
  · obtain ⟨e1, e2, e3, e4⟩ := nonempty_t so (Nat.pos_of_ne_zero hs0)
    have HV0 : Hid (occ (.mk vn vs VK) (.mk nm so L) = (decide (nm = vn) && decide (so = vs))) := Lib.hid (by unfold occ; rw [if_neg (fun e => hs0 (by rw [e]; rfl))]; rfl)
    rw [HV0.out]
    have t1 := str_dec nm vn
    have t2 := str_dec so vs
    obtain ⟨b1, hb1⟩ : ∃ b, decide (nm = vn) = b := ⟨_, rfl⟩
    rw [hb1] at t1
    obtain ⟨b2, hb2⟩ : ∃ b, decide (so = vs) = b := ⟨_, rfl⟩
    rw [hb2] at t2
    rw [hb1, hb2]
    clear hb1 hb2 hs0
    cases b1
    · go_enter Tryz.func104, Tryz.ntmps104
      go_wp2_with fail
      go_ret
      exact ⟨rfl, HZ.out⟩
    · go_enter Tryz.func104, Tryz.ntmps104
      go_wp2_with fail
      go_ret
      exact ⟨rfl, HZ.out⟩

end Go.Proofs.YtiimccogojkldaaGreatDoor
