/- Generate of the reference. -/
import Derived.Test.YthpekfpeoglbgaaW17
import Derived.Deep.RegionHeld3
namespace Go.Proofs.Ythpekfpeoglbgaa
open Go.RowKit Go.Hw
set_option linter.unusedVariables false
set_option linter.unusedSimpArgs false

set_option maxRecDepth 100000 in
set_option maxHeartbeats 4000000 in
/-- heartwoodref51.Generate -/
theorem rgen_ok (S : Nat → Prop) (p : Prof) (wv : Value) (w : World) (h : NumR S w wv p.ws) (seed : Int) (n : Nat) (hv : validP p = true) (hs : seedB seed = true) (hn : n ≤ 2000) :
    Calls Try.prog 17 #[.agg #[.int .i64 p.kind, wv, .int .i64 p.low, .int .i64 p.high], .int .i64 seed, .int .i64 n] w fun e w' => ∃ v L, e = .returned v ∧ OpsR (fun k => k < w'.heap.size) w' v L ∧ opsL L = gens p seed n ∧ Ext w w' := by
  obtain ⟨a, cap, hv'⟩ := h.shape
  subst hv'
  have HN := Lib.hid h
  have vp := (validP_iff p).1 hv
  obtain ⟨i0, hi, hz0, hz1, hz2⟩ := info_parts info3
  obtain ⟨i5, hi5, hz50, hz51, hz52⟩ := info_parts info50
  have hl8 : p.ws.length ≤ 8 := by have := vp.len; have := nW_le p.kind; omega
  generalize hm : p.ws.length = m at *
  have HM := Lib.hid hm
  clear hm
  have hsd : 1 ≤ seed ∧ seed < 2147483647 := by unfold seedB at hs; simpa using hs
  have HS : Hid (∀ k, 0 ≤ sq seed k ∧ sq seed k < 2147483647) := sq_bd seed (by omega) (by omega)
  have VP' := Lib.hid vp
  have HSQ : Hid (∀ W, Calls Try.prog 14 #[.int .i64 seed, .int .i64 (6 * (n : Int) + 2)] W fun e w' => ∃ v, e = .returned v ∧ w'.ownsRow W.heap.size 3 1 v (6 * n + 2) (nums (sqL seed (6 * n + 2))) ∧ Ext W w') := fun W => by
    have := seq_any seed (6 * n + 2) W hs (by omega) (by omega)
    rw [show ((6 * n + 2 : Nat) : Int) = 6 * (n : Int) + 2 by omega] at this
    exact this
  have HCO : Hid (∀ W k, NumR S W (.slice a m cap) p.ws → Calls Try.prog 40 #[.agg #[.int .i64 p.kind, .slice a m cap, .int .i64 p.low, .int .i64 p.high], .int .i64 (sq seed k)] W fun e w' => e = .returned (.int .i64 (gCode p seed k)) ∧ Ext W w') := fun W k hN =>
    rcode_any S p _ (sq seed k) W hN vp.ws vp.sum_pos (by rw [HM.out]; omega) (HS.out k).1 (by have := (HS.out k).2; omega)
  have HGB : Hid (∀ k, 1 ≤ gCode p seed k ∧ gCode p seed k ≤ nW p.kind) := fun k => gCode_bd p seed k vp
  have HAR : Hid (∀ k W, Calls Try.prog 41 #[.int .i64 p.kind, .int .i64 (gCode p seed k)] W fun e w' => e = .returned (.int .i64 (ar p.kind (gCode p seed k))) ∧ Ext W w') := fun k W => rarity_any p.kind _ W (HGB.out k).1 (HGB.out k).2
  have HARN : Hid (∀ k, ar p.kind (gCode p seed k) < 0 ↔ charsB p.kind (gCode p seed k) = true) := fun k => ar_neg p.kind _ (HGB.out k).1 (HGB.out k).2
  have hu : Ext w (w.alloc (.cells #[.int .i64 p.kind, .slice a m cap, .int .i64 p.low, .int .i64 p.high] 24)) := (Upd.refl _ w).alloc _
  have HU := Lib.hid hu
  have hB : (w.alloc (.cells #[.int .i64 p.kind, .slice a m cap, .int .i64 p.low, .int .i64 p.high] 24)).heap[w.heap.size]? = some (.cells #[.int .i64 p.kind, .slice a m cap, .int .i64 p.low, .int .i64 p.high] 24) := alloc0 _ _
  have HB := Lib.hid hB
  have hs1 : (w.alloc (.cells #[.int .i64 p.kind, .slice a m cap, .int .i64 p.low, .int .i64 p.high] 24)).heap.size = w.heap.size + 1 := alloc_size _ _
  have Hs1 := Lib.hid hs1
  clear h hu hB hv hs vp hsd hs1
  go_enter Try.func17, Try.ntmps17
  go_wp2_with fail
  refine (HSQ.out _).mono ?_
  rintro e w2 ⟨rv, rfl, hown, h2⟩
  have HR := Lib.hid hown
  have H2 := Lib.hid (HU.out.ext h2)
  have HB2 := Lib.hid (h2.heap HB.out (fun h => h))
  have hrl := own_shape hown
  obtain ⟨ra, rc, hrv⟩ := hrl
  subst hrv
  have hzz2 := h2.size
  rw [Hs1.out] at hzz2
  generalize hb : w.heap.size = b at *
  have Hb := Lib.hid hb
  have hrow : ∀ k, (Value.slice ra (6 * n + 2) rc).ownBlock = some k → b < k ∧ k < w2.heap.size := fun k hk => by have := hown.lt k hk; rw [Hs1.out] at this; omega
  have HRow := Lib.hid hrow
  obtain ⟨rg, rcap, hrv, hrb, hrgl, hrc, hrcell, _⟩ := ownAt hown (by omega)
  injection hrv with q1 q2 q3
  subst q1; subst q3
  have HRC : Hid (∀ W, Ext w2 W → ∀ k, k < 6 * n + 2 → W.cell? ⟨rg, k, none⟩ = some (.int .i64 (sq seed k))) := fun W hW k hk => by
    refine hW.cell ?_ (fun h => h)
    rw [hrcell k (by omega), nums_get _ k (by rw [sqL_length]; exact hk), sqL_get _ _ _ hk]
  have HBx : Hid (∀ W, Ext w2 W → W.heap[b]? = some (.cells #[.int .i64 p.kind, .slice a m cap, .int .i64 p.low, .int .i64 p.high] 24)) := fun W hW => hW.heap HB2.out (fun h => h)
  have hrn : ((6 * n + 2 : Nat) : Int) = 6 * (n : Int) + 2 := by omega
  clear hown h2 hb hrow hrcell hrb hrc q2
  generalize hNR : 6 * n + 2 = NR at *
  have HNR := Lib.hid hNR
  clear hNR hrn
  have hNR5 : 5 * n + 2 ≤ NR := by have := HNR.out; omega
  have hNRb : NR ≤ 12002 := by have := HNR.out; omega
  have hbl2 : b < w2.heap.size := (Array.getElem?_eq_some_iff.1 HB2.out).1
  go_wp2_with fail
  go_loopg [8, 9] n (fun gk at_ out wr => ∃ (t : Nat) (L : List OpV) (P : Nat), at_ = .int .i64 P ∧ gk = n - t ∧ t ≤ n ∧ Hid (gPos p seed t = P) ∧ Hid (Ext w2 wr) ∧ Hid (GenR w2.heap.size b wr out L) ∧ Hid (opsL L = gens p seed t))
  case atStart => exact ⟨0, [], 1, rfl, rfl, Nat.zero_le _, rfl, Upd.refl _ _, GenR.nil _ _ _, rfl⟩
  case round =>
    obtain ⟨t, L, P, rfl, rfl, ht, HPt, HUt, HGt, HLt⟩ := hrel
    obtain ⟨oa, oc, hov⟩ := own_shape HGt.out.own
    have HLL : Hid (L.length = t) := by have := congrArg List.length HLt.out; rw [opsL_length, gens_length] at this; exact this
    rw [HLL.out] at hov
    subst hov
    by_cases hlt : t < n
    · have hP5 : P ≤ 5 * t + 1 := by have := gPos_le p seed t; have := HPt.out; omega
      have hP1 : 1 ≤ P := by have := gPos_pos p seed t; have := HPt.out; omega
      have b0 := cellRow (HBx.out wr HUt.out) 0 (.int .i64 p.kind) rfl
      have b1 := cellRow (HBx.out wr HUt.out) 1 (.slice a m cap) rfl
      have b2 := cellRow (HBx.out wr HUt.out) 2 (.int .i64 p.low) rfl
      have b3 := cellRow (HBx.out wr HUt.out) 3 (.int .i64 p.high) rfl
      have rc0 := HRC.out wr HUt.out P (by omega)
      have i0' : (0 : Int) ≤ (P : Int) := by omega
      have i1' : (P : Int) < (NR : Int) := by omega
      have HCO2 : Hid (∀ W, Ext wr W → Calls Try.prog 40 #[.agg #[.int .i64 p.kind, .slice a m cap, .int .i64 p.low, .int .i64 p.high], .int .i64 (sq seed P)] W fun e w' => e = .returned (.int .i64 (gCode p seed P)) ∧ Ext W w') := fun W hW => HCO.out W P (HN.out.kept ((H2.out.ext HUt.out).ext hW) (fun _ _ h => h))
      have Hc0 : Hid (∀ W, Ext wr W → W.cell? ⟨b, 0, none⟩ = some (.int .i64 p.kind) ∧ W.cell? ⟨b, 1, none⟩ = some (.slice a m cap) ∧ W.cell? ⟨b, 2, none⟩ = some (.int .i64 p.low) ∧ W.cell? ⟨b, 3, none⟩ = some (.int .i64 p.high) ∧ W.cell? ⟨rg, P, none⟩ = some (.int .i64 (sq seed P))) := fun W hW => ⟨hW.cell b0 (fun h => h), hW.cell b1 (fun h => h), hW.cell b2 (fun h => h), hW.cell b3 (fun h => h), hW.cell rc0 (fun h => h)⟩
      have HGBP := Lib.hid (HGB.out P)
      have HARP := Lib.hid (HAR.out P)
      have HARNP := Lib.hid (HARN.out P)
      have HARBP := Lib.hid (ar_bd p.kind (gCode p seed P))
      have HGK : Hid (gK p seed P = if charsB p.kind (gCode p seed P) then (1 + sq seed (P + 1) % 3).toNat else (ar p.kind (gCode p seed P)).toNat) := rfl
      have HGT : Hid (gAt p seed P = if charsB p.kind (gCode p seed P) then P + 2 else P + 1) := rfl
      have HGO : Hid (gOp p seed P = ⟨gCode p seed P, gArgs p seed (gAt p seed P) (gK p seed P)⟩) := rfl
      generalize hGC : gCode p seed P = GC at *
      have HGC := Lib.hid hGC
      clear hGC
      generalize hXP : sq seed P = XP at *
      have HXP := Lib.hid hXP
      clear hXP
      have hwr0 : Ext wr wr.drew := (Upd.refl _ wr).drew
      go_wp2_with fail
      go_region_held3 (fun w' => w'.cell? ⟨b, 0, none⟩ = some (.int .i64 p.kind) ∧ w'.cell? ⟨b, 1, none⟩ = some (.slice a m cap) ∧ w'.cell? ⟨b, 2, none⟩ = some (.int .i64 p.low) ∧ w'.cell? ⟨b, 3, none⟩ = some (.int .i64 p.high) ∧ w'.cell? ⟨rg, P, none⟩ = some (.int .i64 XP))
        (first | go_keep | (exact Hc0.out _ (by first | assumption | exact hwr0.alloc _)) | (exact Hc0.out _ (hy5.alloc _)) | (exact Hc0.out _ ((hy5.setNew (Nat.le_refl _) _).setNew (Nat.le_refl _) _)) | (exact Hc0.out _ (hwr0.alloc _)))
        ((go_at_call 40; refine (HCO2.out _ (by first | assumption | exact hwr0.alloc _)).mono ?_; rintro e w5 ⟨rfl, hx5⟩; have hy5 : Ext wr w5 := Upd.ext (by first | assumption | exact hwr0.alloc _) hx5
          first | (have hz5 : w5.heap[wr.heap.size]? = some (.cells #[.int .i64 0, .slice none 0 0] 50) := hx5.heap (alloc0 wr.drew _) (fun h => h)
                   have z0 := cellRow hz5 0 (.int .i64 0) rfl; have z1 := cellRow hz5 1 (.slice none 0 0) rfl; have f0 := frozenRow hz5 0; have f1 := frozenRow hz5 1
                   have hzl : b < wr.heap.size := Nat.lt_of_lt_of_le hbl2 HUt.out.size; have hzr : rg < wr.heap.size := Nat.lt_of_lt_of_le hrgl HUt.out.size) | skip))
      have hbw := Nat.lt_of_lt_of_le hbl2 HUt.out.size
      all_goals
        have hwos := HUt.out.size
        obtain ⟨wo, hwo⟩ : ∃ wo, wo = wr := ⟨_, rfl⟩
        subst hwo
      all_goals first
        | (have hz6 := setBlock (setBlock hz5 0 (.int .i64 GC)) 1 (.slice none 0 0)
           have HO6 : Hid (((w5.setCell ⟨wo.heap.size, 0, none⟩ (.int .i64 GC)).setCell ⟨wo.heap.size, 1, none⟩ (.slice none 0 0)).heap[wo.heap.size]? = some (.cells #[.int .i64 GC, .slice none 0 0] 50)) := hz6
           have HE6 : Hid (Ext wo ((w5.setCell ⟨wo.heap.size, 0, none⟩ (.int .i64 GC)).setCell ⟨wo.heap.size, 1, none⟩ (.slice none 0 0))) := (hy5.setNew (Nat.le_refl _) _).setNew (Nat.le_refl _) _
           have HW6 : Hid (wo.heap.size ≤ wo.heap.size) := Nat.le_refl _
           clear hz5 hz6 z0 z1 f0 f1 hzl hzr hx5 hy5
           generalize (w5.setCell ⟨wo.heap.size, 0, none⟩ (.int .i64 GC)).setCell ⟨wo.heap.size, 1, none⟩ (.slice none 0 0) = w6 at *
           obtain ⟨oB, hoB⟩ : ∃ oB, oB = wo.heap.size := ⟨_, rfl⟩
           rw [← hoB] at HO6
           rw [show wo.heap.size = oB from hoB.symm]
           replace HW6 : Hid (wo.heap.size ≤ oB) := Nat.le_of_eq hoB.symm
           have HoB := Lib.hid hoB
           clear hoB)
        | (have HO6 : Hid ((w5.alloc (.cells #[.int .i64 GC, .slice none 0 0] 50)).heap[w5.heap.size]? = some (.cells #[.int .i64 GC, .slice none 0 0] 50)) := alloc0 _ _
           have HE6 : Hid (Ext wo (w5.alloc (.cells #[.int .i64 GC, .slice none 0 0] 50))) := hy5.alloc _
           have HW6 : Hid (wo.heap.size ≤ w5.heap.size) := hy5.size
           clear hx5 hy5
           generalize w5.alloc (.cells #[.int .i64 GC, .slice none 0 0] 50) = w6 at *
           generalize hoB : w5.heap.size = oB at *
           have HoB := Lib.hid hoB
           clear hoB)
      all_goals
        have e0 := cellRow (HBx.out w6 (HUt.out.ext HE6.out)) 0 (.int .i64 p.kind) rfl
        have o0 := cellRow HO6.out 0 (.int .i64 GC) rfl
        have H7 := Lib.hid (HARP.out w6)
        clear b0 b1 b2 b3 rc0
        cases hch : charsB p.kind GC with
        | true =>
          have hneg : ar p.kind GC < 0 := HARNP.out.2 hch
          rw [hch] at HGK HGT
          have HCH := Lib.hid hch
          clear hch
          generalize ar p.kind GC = AQ at *
          have tneg : decide (AQ < 0) = true := by simpa using hneg
          obtain ⟨U, hU⟩ : ∃ U, U = P + 1 := ⟨_, rfl⟩
          have HUe := Lib.hid hU
          have HAT : Hid (gAt p seed P = U + 1) := by show _ = _; rw [HGT.out, hU]; rfl
          rw [← hU] at HGK
          have hU5 : U + 1 + 3 ≤ 5 * t + 6 := by omega
          have hb9 := HS.out U
          obtain ⟨KK, hKK⟩ := Int.eq_ofNat_of_zero_le (show 0 ≤ 1 + sq seed U % 3 by omega)
          have hKK2 : gK p seed P = KK := by rw [HGK.out, hKK]; first | done | rfl
          have HKK2 := Lib.hid hKK2
          have hK3 : KK ≤ 3 := by omega
          have hUKn : U + 1 + KK < NR := by omega
          have hU0 : (P : Int) + 1 = (U : Int) := by omega
          have hU1 : (0 : Int) ≤ (U : Int) := by omega
          have hU2 : (U : Int) < (NR : Int) := by omega
          have HKe := Lib.hid hKK
          clear hKK2 hneg hU
          go_wp2_with fail
          refine H7.out.mono ?_
          rintro e w7 ⟨rfl, h7⟩
          have HE7 := Lib.hid (HE6.out.ext h7)
          have HO7 := Lib.hid (h7.heap HO6.out (fun h => h))
          have rc1 := HRC.out w7 (HUt.out.ext (HE6.out.ext h7)) U (by omega)
          have hXU : sq seed U = sq seed U := rfl
          generalize hXu : sq seed U = XU at *
          have HXU := Lib.hid hXu
          clear hXu h7 hXU
          have hKK := HKe.out
          go_wp2_with fail
          go_loopg [8, 12] KK (fun gk at_ i wr => ∃ (t4 : Nat) (av : Value), at_ = .int .i64 ((U + 1 + t4 : Nat) : Int) ∧ i = .int .i64 t4 ∧ gk = KK - t4 ∧ t4 ≤ KK ∧ Hid (Ext wo wr) ∧ Hid (wr.heap[oB]? = some (.cells #[.int .i64 GC, av] 50)) ∧ Hid (wr.ownsRow (oB + 1) 3 1 av t4 (nums (gArgs p seed (U + 1) t4))) ∧ Hid (oB + 1 ≤ wr.heap.size))
          case atStart =>
            have hue := HUe.out
            exact ⟨0, _, by first | (congr 1; done) | (congr 1; omega), rfl, rfl, Nat.zero_le _, HE7.out, HO7.out, World.ownsRow_nil _ _ _ _, (Array.getElem?_eq_some_iff.1 HO7.out).1⟩
          case round =>
            obtain ⟨t4, av, rfl, rfl, rfl, ht4, HU4, HO4, Hown, HZ4⟩ := hrel
            obtain ⟨aA, cA, hav⟩ := own_shape Hown.out
            subst hav
            have HU64 := Lib.hid (HUt.out.ext HU4.out)
            have hzz := HZ4.out
            have hboB : b < oB := by have := HW6.out; omega
            have hrgB : rg < oB := by have := HW6.out; omega
            have HboB := Lib.hid hboB
            by_cases hlt4 : t4 < KK
            · obtain ⟨AT, hAT⟩ : ∃ AT, AT = U + 1 + t4 := ⟨_, rfl⟩
              have HATe := Lib.hid hAT
              rw [← hAT]
              have b2 : wr.cell? ⟨b, 2, none⟩ = some (.int .i64 p.low) := cellRow (HBx.out wr HU64.out) 2 _ rfl
              have b3 : wr.cell? ⟨b, 3, none⟩ = some (.int .i64 p.high) := cellRow (HBx.out wr HU64.out) 3 _ rfl
              have o1 : wr.cell? ⟨oB, 1, none⟩ = some (.slice aA t4 cA) := cellRow HO4.out 1 _ rfl
              have r1 : wr.cell? ⟨rg, AT, none⟩ = some (.int .i64 (sq seed AT)) := HRC.out wr HU64.out AT (by omega)
              have hbX := HS.out AT
              have HGA : Hid (nums (gArgs p seed (U + 1) (t4 + 1)) = nums (gArgs p seed (U + 1) t4) ++ [.int .i64 (p.low + sq seed AT % (p.high - p.low + 1))]) := by
                show _ = _
                rw [gArgs_succ, nums_append]
                unfold gArg
                rw [← hAT]
                rfl
              have hlo := VP'.out.low
              have hhi := VP'.out.high
              have hle := VP'.out.le
              have hA0 : (0 : Int) ≤ (AT : Int) := by omega
              have hA1 : (AT : Int) < (NR : Int) := by omega
              generalize hXn : sq seed AT = Xn at *
              have HXn := Lib.hid hXn
              clear hXn hAT
              generalize p.low = lo at *
              generalize p.high = hi' at *
              have hr0 : 0 ≤ Xn % (hi' - lo + 1) := Int.emod_nonneg _ (by omega)
              have hr1 : Xn % (hi' - lo + 1) < hi' - lo + 1 := Int.emod_lt_of_pos _ (by omega)
              have s1 : IntKind.i64.wrap (hi' - lo) = hi' - lo := IntWalk.i64_in _ (by omega)
              have s2 : IntKind.i64.wrap (hi' - lo + 1) = hi' - lo + 1 := IntWalk.i64_in _ (by omega)
              have s3 : Xn.tmod (hi' - lo + 1) = Xn % (hi' - lo + 1) := Int.tmod_eq_emod_of_nonneg hbX.1
              have s4 : IntKind.i64.wrap (Xn % (hi' - lo + 1)) = Xn % (hi' - lo + 1) := IntWalk.i64_in _ (by omega)
              have s5 : IntKind.i64.wrap (lo + Xn % (hi' - lo + 1)) = lo + Xn % (hi' - lo + 1) := IntWalk.i64_in _ (by omega)
              have s6 : ¬ (hi' - lo + 1 = 0) := by omega
              have H7 : Hid (t4 + 1 ≤ maxLen) := by show t4 + 1 ≤ maxLen; unfold maxLen; omega
              have H7b : Hid ((t4 + 1) * 8 ≤ 140737488355328) := by show _ ≤ _; omega
              have H6 : Hid (∀ u ∈ [Value.int .i64 (lo + Xn % (hi' - lo + 1))], u.oneCell' = true) := fun u hu => by simp at hu; subst hu; rfl
              have hX1 : ∀ x : XF (fun _ => False) wr, x.val.cell? ⟨oB, 1, none⟩ = some (.slice aA t4 cA) := fun x => x.upd.cell o1 (fun h => h)
              have hX2 : ∀ x : XF (fun _ => False) wr, x.val.cell? ⟨b, 2, none⟩ = some (.int .i64 lo) := fun x => x.upd.cell b2 (fun h => h)
              have hX3 : ∀ x : XF (fun _ => False) wr, x.val.cell? ⟨b, 3, none⟩ = some (.int .i64 hi') := fun x => x.upd.cell b3 (fun h => h)
              have hX4 : ∀ x : XF (fun _ => False) wr, x.val.cell? ⟨rg, AT, none⟩ = some (.int .i64 Xn) := fun x => x.upd.cell r1 (fun h => h)
              have HO5 : Hid ((wr.drew.alloc (.cells #[.int .i64 (lo + Xn % (hi' - lo + 1))] 3)).ownsRow (oB + 1) 3 1 (.slice aA t4 cA) t4 (nums (gArgs p seed (U + 1) t4))) := (World.ownsRow.drew Hown.out).alloc _
              have HZ5 : Hid (oB + 1 ≤ (wr.drew.alloc (.cells #[.int .i64 (lo + Xn % (hi' - lo + 1))] 3)).heap.size) := by
                have h2 := HZ4.out
                rw [alloc_size]; exact Nat.le_succ_of_le h2
              have HN5 : Hid (∀ j u, [Value.int .i64 (lo + Xn % (hi' - lo + 1))][j]? = some u → (wr.drew.alloc (.cells #[.int .i64 (lo + Xn % (hi' - lo + 1))] 3)).cell? ((⟨wr.heap.size, 0, none⟩ : Addr).add j) = some u) := cell_one_new _ _ _
              have HS0 : Hid (∃ x : XF (fun _ => False) wr, wr.drew = x.val) := ⟨⟨_, (Upd.refl _ wr).drew⟩, rfl⟩
              have HS1 : Hid (∃ x : XF (fun _ => False) wr, wr.drew.alloc (.cells #[.int .i64 (lo + Xn % (hi' - lo + 1))] 3) = x.val) := ⟨⟨_, ((Upd.refl _ wr).drew).alloc _⟩, rfl⟩
              go_wp2_with fail
              refine wp_region_mix [(0, 0), (1, 0), (2, 0), (3, 0), (4, 0), (5, 0), (6, 0), (7, 0), (8, 0), (9, 0), (10, 0), (11, 0), (12, 0), (13, 0), (14, 0), (15, 0), (16, 1), (17, 2), (18, 2), (19, 2)] 17 (fun W => ∃ x : XF (fun _ => False) wr, W = x.val) (by kernel_rfl) (by kernel_rfl) (fun _ _ d _ _ h => by cases d <;> exact h) HS0.out ?_
              simp only [pickO, List.getElem?_cons_zero, List.getElem?_cons_succ]
              iterate 16 (refine mix_take (fun K hK => ?_); go_simp; refine hK _ ?_; clear hK K)
              refine mix_one (fun K hK hS => ?_) HS0.out
              go_simp
              refine hK _ _ HS1.out ?_
              clear hK K hS
              refine mix_two (fun K hK => ?_)
              rw [if_pos (by rfl)]
              refine step_append_at _ (.tmp 52) (.tmp 67) 22 rfl (oB + 1) 3 i0 (.int .i64 0) 1 8 Try.underlying22 hi hz0 hz1 hz2 rfl (Nat.lt_succ_self 0) (.slice aA t4 cA) _ _ rfl HO5.out ⟨wr.heap.size, 0, none⟩ 1 1 [.int .i64 (lo + Xn % (hi' - lo + 1))] rfl rfl HN5.out H6.out H7.out H7b.out HZ5.out ?_
              intro v7 w7' G7
              obtain ⟨a7, c7, hv7⟩ := own_shape G7.own
              subst hv7
              have hU7 : Ext wo w7' := ((HU4.out.drew).alloc (.cells #[.int .i64 (lo + Xn % (hi' - lo + 1))] 3)).trans' G7.upd (fun k hk e => by have h1 := (Hown.out.lt k e).1; have h2 := HW6.out; omega)
              have hB7 : w7'.heap[oB]? = some (.cells #[.int .i64 GC, .slice aA t4 cA] 50) := G7.upd.heap (allocOld (w := wr.drew) HO4.out _) (fun e => by have h1 := (Hown.out.lt _ e).1; omega)
              have hw7s : wr.heap.size ≤ w7'.heap.size := Nat.le_trans (((Upd.refl (fun _ => False) wr).drew).alloc (.cells #[.int .i64 (lo + Xn % (hi' - lo + 1))] 3)).size G7.upd.size
              have HB8 := Lib.hid (setBlock hB7 1 (.slice a7 (t4 + 1) c7))
              have g0 := cellRow hB7 1 (.slice aA t4 cA) rfl
              have gf := frozenRow hB7 1
              have hst : Upd (fun k => k = oB) w7' (w7'.setCell ⟨oB, 1, none⟩ (.slice a7 (t4 + 1) c7)) := (Upd.refl (fun k => k = oB) w7').setCell (p := ⟨oB, 1, none⟩) (.inl rfl) _
              have HU8 : Hid (Ext wo (w7'.setCell ⟨oB, 1, none⟩ (.slice a7 (t4 + 1) c7))) := hU7.setNew HW6.out _
              have HO8' : Hid ((w7'.setCell ⟨oB, 1, none⟩ (.slice a7 (t4 + 1) c7)).ownsRow (oB + 1) 3 1 (.slice a7 (t4 + 1) c7) (t4 + 1) (nums (gArgs p seed (U + 1) (t4 + 1)))) := by
                rw [HGA.out]
                exact own_kept G7.own hst (fun k hk e => by have := (G7.own.lt k hk).1; omega)
              have HZ8 : Hid (oB + 1 ≤ (w7'.setCell ⟨oB, 1, none⟩ (.slice a7 (t4 + 1) c7)).heap.size) := by have h1 := hst.size; have h3 := HZ4.out; exact Nat.le_trans h3 (Nat.le_trans hw7s h1)
              clear hU7 hB7 hst G7 hw7s hX1 hX2 hX3 hX4 b2 b3 o1 r1
              refine hK _ _ ?_
              clear hK K
              iterate 2 (refine mix_two (fun K hK => ?_); go_simp; refine hK _ _ ?_; clear hK K)
              simp only [wpMix]
              have hATe : (AT : Int) + 1 = ((U + 1 + (t4 + 1) : Nat) : Int) := by have := HATe.out; omega
              go_wp2_with fail
              go_roundg (KK - (t4 + 1))
              case measure => omega
              case rel => exact ⟨t4 + 1, _, by first | rfl | go_num, by go_num, rfl, by omega, HU8.out, HB8.out, HO8'.out, HZ8.out⟩
            · obtain rfl : t4 = KK := by omega
              have o0 : wr.cell? ⟨oB, 0, none⟩ = some (.int .i64 GC) := cellRow HO4.out 0 _ rfl
              have o1 : wr.cell? ⟨oB, 1, none⟩ = some (.slice aA t4 cA) := cellRow HO4.out 1 _ rfl
              have hUb : Upd (fun k => k = b) wo wr := HU4.out.mono (fun k _ h => h.elim)
              have HG4 := Lib.hid (HGt.out.kept hUb)
              have hLt : L.length ≤ 2000 := by have := HLL.out; omega
              have hw6s : w2.heap.size ≤ wr.heap.size := HU64.out.size
              have htl : (t : Int) = (L.length : Int) := by have := HLL.out; omega
              have HTL := Lib.hid htl
              clear htl
              have hown9 := HG4.out.own.alloc (.cells #[.int .i64 GC, .slice aA t4 cA] 50)
              rw [HLL.out] at hown9
              have HO9 := Lib.hid hown9
              clear hown9
              go_wp2_with (at_builtin; refine wpList_append_at _ rfl (.tmp 72) (.tmp 74) 32 rfl w2.heap.size 50 i5 (.agg #[.int .i64 0, .slice none 0 0]) 2 32 Try.underlying32 hi5 hz50 hz51 hz52 rfl (by decide) (.slice oa t oc) t _ rfl HO9.out ⟨wr.heap.size, 0, none⟩ 1 1 [.int .i64 GC, .slice aA t4 cA] rfl rfl ?d1 ?d2 ?d3 ?d4 ?d5 ?_)
              case d1 =>
                intro j u hj
                match j, hj with
                | 0, hj => simp at hj; subst hj; simp [Addr.add]
                | 1, hj => simp at hj; subst hj; simp [Addr.add]
              case d2 => intro u hu; simp at hu; rcases hu with rfl | rfl <;> rfl
              case d3 => unfold maxLen; omega
              case d4 => omega
              case d5 => simp; omega
              intro v5 w5 hG
              have hu1 : Upd (fun k => k = b) wo (wr.alloc (.cells #[.int .i64 GC, .slice aA t4 cA] 50)) := hUb.alloc _
              have hno : NumR (fun k => wo.heap.size ≤ k ∧ k < (wr.alloc (.cells #[.int .i64 GC, .slice aA t4 cA] 50)).heap.size ∧ k ≠ b) (wr.alloc (.cells #[.int .i64 GC, .slice aA t4 cA] 50)) (.slice aA t4 cA) (gArgs p seed (U + 1) t4) := by
                unfold NumR
                rw [gArgs_length]
                refine (SlR.of_own (Hown.out.alloc _)).weaken (fun k hk => ?_)
                obtain ⟨q1, q2⟩ := Hown.out.lt k hk
                have h1 := HW6.out
                refine ⟨by omega, by rw [alloc_size]; omega, by have := HboB.out; omega⟩
              have hpush := HGt.out.push (o := ⟨⟨GC, gArgs p seed (U + 1) t4⟩, .slice aA t4 cA⟩) hu1 hno (by omega) (by rw [HLL.out]; exact hG)
              have hnew : opsL (L ++ [⟨⟨GC, gArgs p seed (U + 1) t4⟩, .slice aA t4 cA⟩]) = gens p seed (t + 1) := by
                rw [gens_succ, ← HLt.out, HPt.out, HGO.out, HAT.out, HKK2.out]
                simp [opsL]
              have hpos : gPos p seed (t + 1) = U + 1 + t4 := by
                show gAt p seed (gPos p seed t) + gK p seed (gPos p seed t) = _
                rw [HPt.out, HAT.out, HKK2.out]
              have hu5 : Ext w2 w5 := (HU64.out.alloc (.cells #[.int .i64 GC, .slice aA t4 cA] 50)).trans' hG.upd (fun k hk e => by have := (HO9.out.lt k e).1; omega)
              have R2 := Lib.hid hu5
              have R3 := Lib.hid hpush
              have R4 := Lib.hid hnew
              have R5 := Lib.hid hpos
              clear hu1 hno hpush hnew hpos hu5 hG o0 o1 hUb
              go_wp2_with fail
              go_roundg (n - (t + 1))
              case measure => omega
              case rel => exact ⟨t + 1, _, U + 1 + t4, rfl, rfl, by omega, R5.out, R2.out, R3.out, R4.out⟩
        | false =>
          have hge : 0 ≤ ar p.kind GC := by
            rcases Int.lt_or_le (ar p.kind GC) 0 with h | h
            · have := HARNP.out.1 h; rw [hch] at this; cases this
            · exact h
          rw [hch] at HGK HGT
          have HCH := Lib.hid hch
          clear hch
          obtain ⟨KK, hKK⟩ := Int.eq_ofNat_of_zero_le hge
          have hKK2 : gK p seed P = KK := by rw [HGK.out, hKK]; first | done | rfl
          have HKK2 := Lib.hid hKK2
          have hK4 : KK ≤ 4 := by have := HARBP.out; omega
          rw [hKK] at H7
          obtain ⟨U, hU⟩ : ∃ U, U = P := ⟨_, rfl⟩
          have HUe := Lib.hid hU
          have HAT : Hid (gAt p seed P = U + 1) := by show _ = _; rw [HGT.out, hU]; rfl
          have hUKn : U + 1 + KK < NR := by omega
          have hUP : U = P := hU
          have HUP := Lib.hid hU
          clear hKK2 hKK hge hU hUP
          go_wp2_with fail
          refine H7.out.mono ?_
          rintro e w7 ⟨rfl, h7⟩
          have HE7 := Lib.hid (HE6.out.ext h7)
          have HO7 := Lib.hid (h7.heap HO6.out (fun h => h))
          clear h7
          go_wp2_with fail
          go_loopg [8, 12] KK (fun gk at_ i wr => ∃ (t4 : Nat) (av : Value), at_ = .int .i64 ((U + 1 + t4 : Nat) : Int) ∧ i = .int .i64 t4 ∧ gk = KK - t4 ∧ t4 ≤ KK ∧ Hid (Ext wo wr) ∧ Hid (wr.heap[oB]? = some (.cells #[.int .i64 GC, av] 50)) ∧ Hid (wr.ownsRow (oB + 1) 3 1 av t4 (nums (gArgs p seed (U + 1) t4))) ∧ Hid (oB + 1 ≤ wr.heap.size))
          case atStart =>
            have hue := HUe.out
            exact ⟨0, _, by first | (congr 1; done) | (congr 1; omega), rfl, rfl, Nat.zero_le _, HE7.out, HO7.out, World.ownsRow_nil _ _ _ _, (Array.getElem?_eq_some_iff.1 HO7.out).1⟩
          case round =>
            obtain ⟨t4, av, rfl, rfl, rfl, ht4, HU4, HO4, Hown, HZ4⟩ := hrel
            obtain ⟨aA, cA, hav⟩ := own_shape Hown.out
            subst hav
            have HU64 := Lib.hid (HUt.out.ext HU4.out)
            have hzz := HZ4.out
            have hboB : b < oB := by have := HW6.out; omega
            have hrgB : rg < oB := by have := HW6.out; omega
            have HboB := Lib.hid hboB
            by_cases hlt4 : t4 < KK
            · obtain ⟨AT, hAT⟩ : ∃ AT, AT = U + 1 + t4 := ⟨_, rfl⟩
              have HATe := Lib.hid hAT
              rw [← hAT]
              have b2 : wr.cell? ⟨b, 2, none⟩ = some (.int .i64 p.low) := cellRow (HBx.out wr HU64.out) 2 _ rfl
              have b3 : wr.cell? ⟨b, 3, none⟩ = some (.int .i64 p.high) := cellRow (HBx.out wr HU64.out) 3 _ rfl
              have o1 : wr.cell? ⟨oB, 1, none⟩ = some (.slice aA t4 cA) := cellRow HO4.out 1 _ rfl
              have r1 : wr.cell? ⟨rg, AT, none⟩ = some (.int .i64 (sq seed AT)) := HRC.out wr HU64.out AT (by omega)
              have hbX := HS.out AT
              have HGA : Hid (nums (gArgs p seed (U + 1) (t4 + 1)) = nums (gArgs p seed (U + 1) t4) ++ [.int .i64 (p.low + sq seed AT % (p.high - p.low + 1))]) := by
                show _ = _
                rw [gArgs_succ, nums_append]
                unfold gArg
                rw [← hAT]
                rfl
              have hlo := VP'.out.low
              have hhi := VP'.out.high
              have hle := VP'.out.le
              have hA0 : (0 : Int) ≤ (AT : Int) := by omega
              have hA1 : (AT : Int) < (NR : Int) := by omega
              generalize hXn : sq seed AT = Xn at *
              have HXn := Lib.hid hXn
              clear hXn hAT
              generalize p.low = lo at *
              generalize p.high = hi' at *
              have hr0 : 0 ≤ Xn % (hi' - lo + 1) := Int.emod_nonneg _ (by omega)
              have hr1 : Xn % (hi' - lo + 1) < hi' - lo + 1 := Int.emod_lt_of_pos _ (by omega)
              have s1 : IntKind.i64.wrap (hi' - lo) = hi' - lo := IntWalk.i64_in _ (by omega)
              have s2 : IntKind.i64.wrap (hi' - lo + 1) = hi' - lo + 1 := IntWalk.i64_in _ (by omega)
              have s3 : Xn.tmod (hi' - lo + 1) = Xn % (hi' - lo + 1) := Int.tmod_eq_emod_of_nonneg hbX.1
              have s4 : IntKind.i64.wrap (Xn % (hi' - lo + 1)) = Xn % (hi' - lo + 1) := IntWalk.i64_in _ (by omega)
              have s5 : IntKind.i64.wrap (lo + Xn % (hi' - lo + 1)) = lo + Xn % (hi' - lo + 1) := IntWalk.i64_in _ (by omega)
              have s6 : ¬ (hi' - lo + 1 = 0) := by omega
              have H7 : Hid (t4 + 1 ≤ maxLen) := by show t4 + 1 ≤ maxLen; unfold maxLen; omega
              have H7b : Hid ((t4 + 1) * 8 ≤ 140737488355328) := by show _ ≤ _; omega
              have H6 : Hid (∀ u ∈ [Value.int .i64 (lo + Xn % (hi' - lo + 1))], u.oneCell' = true) := fun u hu => by simp at hu; subst hu; rfl
              have hX1 : ∀ x : XF (fun _ => False) wr, x.val.cell? ⟨oB, 1, none⟩ = some (.slice aA t4 cA) := fun x => x.upd.cell o1 (fun h => h)
              have hX2 : ∀ x : XF (fun _ => False) wr, x.val.cell? ⟨b, 2, none⟩ = some (.int .i64 lo) := fun x => x.upd.cell b2 (fun h => h)
              have hX3 : ∀ x : XF (fun _ => False) wr, x.val.cell? ⟨b, 3, none⟩ = some (.int .i64 hi') := fun x => x.upd.cell b3 (fun h => h)
              have hX4 : ∀ x : XF (fun _ => False) wr, x.val.cell? ⟨rg, AT, none⟩ = some (.int .i64 Xn) := fun x => x.upd.cell r1 (fun h => h)
              have HO5 : Hid ((wr.drew.alloc (.cells #[.int .i64 (lo + Xn % (hi' - lo + 1))] 3)).ownsRow (oB + 1) 3 1 (.slice aA t4 cA) t4 (nums (gArgs p seed (U + 1) t4))) := (World.ownsRow.drew Hown.out).alloc _
              have HZ5 : Hid (oB + 1 ≤ (wr.drew.alloc (.cells #[.int .i64 (lo + Xn % (hi' - lo + 1))] 3)).heap.size) := by
                have h2 := HZ4.out
                rw [alloc_size]; exact Nat.le_succ_of_le h2
              have HN5 : Hid (∀ j u, [Value.int .i64 (lo + Xn % (hi' - lo + 1))][j]? = some u → (wr.drew.alloc (.cells #[.int .i64 (lo + Xn % (hi' - lo + 1))] 3)).cell? ((⟨wr.heap.size, 0, none⟩ : Addr).add j) = some u) := cell_one_new _ _ _
              have HS0 : Hid (∃ x : XF (fun _ => False) wr, wr.drew = x.val) := ⟨⟨_, (Upd.refl _ wr).drew⟩, rfl⟩
              have HS1 : Hid (∃ x : XF (fun _ => False) wr, wr.drew.alloc (.cells #[.int .i64 (lo + Xn % (hi' - lo + 1))] 3) = x.val) := ⟨⟨_, ((Upd.refl _ wr).drew).alloc _⟩, rfl⟩
              go_wp2_with fail
              refine wp_region_mix [(0, 0), (1, 0), (2, 0), (3, 0), (4, 0), (5, 0), (6, 0), (7, 0), (8, 0), (9, 0), (10, 0), (11, 0), (12, 0), (13, 0), (14, 0), (15, 0), (16, 1), (17, 2), (18, 2), (19, 2)] 17 (fun W => ∃ x : XF (fun _ => False) wr, W = x.val) (by kernel_rfl) (by kernel_rfl) (fun _ _ d _ _ h => by cases d <;> exact h) HS0.out ?_
              simp only [pickO, List.getElem?_cons_zero, List.getElem?_cons_succ]
              iterate 16 (refine mix_take (fun K hK => ?_); go_simp; refine hK _ ?_; clear hK K)
              refine mix_one (fun K hK hS => ?_) HS0.out
              go_simp
              refine hK _ _ HS1.out ?_
              clear hK K hS
              refine mix_two (fun K hK => ?_)
              rw [if_pos (by rfl)]
              refine step_append_at _ (.tmp 52) (.tmp 67) 22 rfl (oB + 1) 3 i0 (.int .i64 0) 1 8 Try.underlying22 hi hz0 hz1 hz2 rfl (Nat.lt_succ_self 0) (.slice aA t4 cA) _ _ rfl HO5.out ⟨wr.heap.size, 0, none⟩ 1 1 [.int .i64 (lo + Xn % (hi' - lo + 1))] rfl rfl HN5.out H6.out H7.out H7b.out HZ5.out ?_
              intro v7 w7' G7
              obtain ⟨a7, c7, hv7⟩ := own_shape G7.own
              subst hv7
              have hU7 : Ext wo w7' := ((HU4.out.drew).alloc (.cells #[.int .i64 (lo + Xn % (hi' - lo + 1))] 3)).trans' G7.upd (fun k hk e => by have h1 := (Hown.out.lt k e).1; have h2 := HW6.out; omega)
              have hB7 : w7'.heap[oB]? = some (.cells #[.int .i64 GC, .slice aA t4 cA] 50) := G7.upd.heap (allocOld (w := wr.drew) HO4.out _) (fun e => by have h1 := (Hown.out.lt _ e).1; omega)
              have hw7s : wr.heap.size ≤ w7'.heap.size := Nat.le_trans (((Upd.refl (fun _ => False) wr).drew).alloc (.cells #[.int .i64 (lo + Xn % (hi' - lo + 1))] 3)).size G7.upd.size
              have HB8 := Lib.hid (setBlock hB7 1 (.slice a7 (t4 + 1) c7))
              have g0 := cellRow hB7 1 (.slice aA t4 cA) rfl
              have gf := frozenRow hB7 1
              have hst : Upd (fun k => k = oB) w7' (w7'.setCell ⟨oB, 1, none⟩ (.slice a7 (t4 + 1) c7)) := (Upd.refl (fun k => k = oB) w7').setCell (p := ⟨oB, 1, none⟩) (.inl rfl) _
              have HU8 : Hid (Ext wo (w7'.setCell ⟨oB, 1, none⟩ (.slice a7 (t4 + 1) c7))) := hU7.setNew HW6.out _
              have HO8' : Hid ((w7'.setCell ⟨oB, 1, none⟩ (.slice a7 (t4 + 1) c7)).ownsRow (oB + 1) 3 1 (.slice a7 (t4 + 1) c7) (t4 + 1) (nums (gArgs p seed (U + 1) (t4 + 1)))) := by
                rw [HGA.out]
                exact own_kept G7.own hst (fun k hk e => by have := (G7.own.lt k hk).1; omega)
              have HZ8 : Hid (oB + 1 ≤ (w7'.setCell ⟨oB, 1, none⟩ (.slice a7 (t4 + 1) c7)).heap.size) := by have h1 := hst.size; have h3 := HZ4.out; exact Nat.le_trans h3 (Nat.le_trans hw7s h1)
              clear hU7 hB7 hst G7 hw7s hX1 hX2 hX3 hX4 b2 b3 o1 r1
              refine hK _ _ ?_
              clear hK K
              iterate 2 (refine mix_two (fun K hK => ?_); go_simp; refine hK _ _ ?_; clear hK K)
              simp only [wpMix]
              have hATe : (AT : Int) + 1 = ((U + 1 + (t4 + 1) : Nat) : Int) := by have := HATe.out; omega
              go_wp2_with fail
              go_roundg (KK - (t4 + 1))
              case measure => omega
              case rel => exact ⟨t4 + 1, _, by first | rfl | go_num, by go_num, rfl, by omega, HU8.out, HB8.out, HO8'.out, HZ8.out⟩
            · obtain rfl : t4 = KK := by omega
              have o0 : wr.cell? ⟨oB, 0, none⟩ = some (.int .i64 GC) := cellRow HO4.out 0 _ rfl
              have o1 : wr.cell? ⟨oB, 1, none⟩ = some (.slice aA t4 cA) := cellRow HO4.out 1 _ rfl
              have hUb : Upd (fun k => k = b) wo wr := HU4.out.mono (fun k _ h => h.elim)
              have HG4 := Lib.hid (HGt.out.kept hUb)
              have hLt : L.length ≤ 2000 := by have := HLL.out; omega
              have hw6s : w2.heap.size ≤ wr.heap.size := HU64.out.size
              have htl : (t : Int) = (L.length : Int) := by have := HLL.out; omega
              have HTL := Lib.hid htl
              clear htl
              have hown9 := HG4.out.own.alloc (.cells #[.int .i64 GC, .slice aA t4 cA] 50)
              rw [HLL.out] at hown9
              have HO9 := Lib.hid hown9
              clear hown9
              go_wp2_with (at_builtin; refine wpList_append_at _ rfl (.tmp 72) (.tmp 74) 32 rfl w2.heap.size 50 i5 (.agg #[.int .i64 0, .slice none 0 0]) 2 32 Try.underlying32 hi5 hz50 hz51 hz52 rfl (by decide) (.slice oa t oc) t _ rfl HO9.out ⟨wr.heap.size, 0, none⟩ 1 1 [.int .i64 GC, .slice aA t4 cA] rfl rfl ?d1 ?d2 ?d3 ?d4 ?d5 ?_)
              case d1 =>
                intro j u hj
                match j, hj with
                | 0, hj => simp at hj; subst hj; simp [Addr.add]
                | 1, hj => simp at hj; subst hj; simp [Addr.add]
              case d2 => intro u hu; simp at hu; rcases hu with rfl | rfl <;> rfl
              case d3 => unfold maxLen; omega
              case d4 => omega
              case d5 => simp; omega
              intro v5 w5 hG
              have hu1 : Upd (fun k => k = b) wo (wr.alloc (.cells #[.int .i64 GC, .slice aA t4 cA] 50)) := hUb.alloc _
              have hno : NumR (fun k => wo.heap.size ≤ k ∧ k < (wr.alloc (.cells #[.int .i64 GC, .slice aA t4 cA] 50)).heap.size ∧ k ≠ b) (wr.alloc (.cells #[.int .i64 GC, .slice aA t4 cA] 50)) (.slice aA t4 cA) (gArgs p seed (U + 1) t4) := by
                unfold NumR
                rw [gArgs_length]
                refine (SlR.of_own (Hown.out.alloc _)).weaken (fun k hk => ?_)
                obtain ⟨q1, q2⟩ := Hown.out.lt k hk
                have h1 := HW6.out
                refine ⟨by omega, by rw [alloc_size]; omega, by have := HboB.out; omega⟩
              have hpush := HGt.out.push (o := ⟨⟨GC, gArgs p seed (U + 1) t4⟩, .slice aA t4 cA⟩) hu1 hno (by omega) (by rw [HLL.out]; exact hG)
              have hnew : opsL (L ++ [⟨⟨GC, gArgs p seed (U + 1) t4⟩, .slice aA t4 cA⟩]) = gens p seed (t + 1) := by
                rw [gens_succ, ← HLt.out, HPt.out, HGO.out, HAT.out, HKK2.out]
                simp [opsL]
              have hpos : gPos p seed (t + 1) = U + 1 + t4 := by
                show gAt p seed (gPos p seed t) + gK p seed (gPos p seed t) = _
                rw [HPt.out, HAT.out, HKK2.out]
              have hu5 : Ext w2 w5 := (HU64.out.alloc (.cells #[.int .i64 GC, .slice aA t4 cA] 50)).trans' hG.upd (fun k hk e => by have := (HO9.out.lt k e).1; omega)
              have R2 := Lib.hid hu5
              have R3 := Lib.hid hpush
              have R4 := Lib.hid hnew
              have R5 := Lib.hid hpos
              clear hu1 hno hpush hnew hpos hu5 hG o0 o1 hUb
              go_wp2_with fail
              go_roundg (n - (t + 1))
              case measure => omega
              case rel => exact ⟨t + 1, _, U + 1 + t4, rfl, rfl, by omega, R5.out, R2.out, R3.out, R4.out⟩
    · obtain rfl : t = n := by omega
      go_wp2_with fail
      go_ret
      exact ⟨_, L, rfl, HGt.out.ops, HLt.out, H2.out.ext HUt.out⟩

end Go.Proofs.Ythpekfpeoglbgaa
