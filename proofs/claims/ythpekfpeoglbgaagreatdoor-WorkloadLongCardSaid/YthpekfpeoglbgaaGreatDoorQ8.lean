/- workload.Parse: the lines. -/
import Derived.Test.YthpekfpeoglbgaaGreatDoorQ7
namespace Go.Proofs.YthpekfpeoglbgaaGreatDoor
open Go.RowKit Go.Hw
set_option linter.unusedVariables false
set_option linter.unusedSimpArgs false

set_option maxHeartbeats 1000000 in
set_option maxRecDepth 100000 in
theorem wparse_ok (L : List UInt8) (w : World) (hE : Env w) (hs : L.length ≤ 1000000) (hb : ¬ 65536 < L.length) (A1 A2 : List UInt8) (hcut : Lib.cut L [10] = (A1, A2, true)) (hfine : Lib.hasPrefix A1 [115, 99, 114, 105, 112, 116, 32] = true) (K : Int) (hK : 1 + Lib.idxOfS kws (bs (Lib.trimPrefix A1 [115, 99, 114, 105, 112, 116, 32])) = K) (hK1 : 1 ≤ K) (hK6 : K ≤ 6) (hl2 : A2.length ≤ 1000000) (RES : PR) (HR0 : Hid (lns K 2000 A2 [] = RES)) : Calls Tryz.prog 7 #[.string (bs L)] w (PPost RES w) := by
  obtain ⟨i5, hi5, hz50, hz51, hz52⟩ := info_parts info50
  have hsz := bs_size L
  have t1 : decide ((65536 : Int) < ((bs L).size : Int)) = false := decide_eq_false (by omega)
  have t1' : decide (65536 < (bs L).size) = false := decide_eq_false (by omega)
  have HW1 : Hid (Ext w (w.alloc (.cells #[.int .i64 0, .int .i64 0] 25))) := (Upd.refl _ w).alloc _
  have HZ1 : Hid (∀ W, Ext (w.alloc (.cells #[.int .i64 0, .int .i64 0] 25)) W → W.heap[w.heap.size]? = some (.cells #[.int .i64 0, .int .i64 0] 25)) := fun W hW => hW.heap (alloc0 w _) (fun h => h)
  have hlt1 : w.heap.size < (w.alloc (.cells #[.int .i64 0, .int .i64 0] 25)).heap.size := by simp
  have CC : Hid (∀ (R : List UInt8) (W : World), Ext w W → R.length ≤ 1000000 → Calls Tryz.prog 19 #[.string (bs R), .string ⟨#[10]⟩] W fun e w' => e = .returned (.tuple #[.string (bs (Lib.cut R [10]).1), .string (bs (Lib.cut R [10]).2.1), .bool (Lib.cut R [10]).2.2]) ∧ Ext W w') := fun R W hW hR => cut_x R 10 W (hE.ext hW) hR
  have CC1 := Lib.hid (fun (W : World) (hW : Ext w W) => CC.out L W hW hs)
  have CK : Hid (∀ W : World, Calls Tryz.prog 22 #[] W fun e w' => ∃ g, e = .returned (.slice (some ⟨g, 0, none⟩) 6 6) ∧ Ext W w' ∧ ∀ i : Nat, i < 6 → w'.cell? ⟨g, i, none⟩ = some (.string (bs (kWd ((i : Int) + 1))))) := fun W => kwords_any W
  rw [hcut] at CC1
  dsimp only at CC1
  have CP : Hid (∀ W : World, Calls Tryz.prog 20 #[.string (bs A1), .string ⟨#[115, 99, 114, 105, 112, 116, 32]⟩] W fun e w' => e = .returned (.tuple #[.string (bs (Lib.trimPrefix A1 [115, 99, 114, 105, 112, 116, 32])), .bool true]) ∧ W = w') := fun W => by
    have := cutp_x A1 [115, 99, 114, 105, 112, 116, 32] W
    rw [hfine] at this
    exact this
  have CI : Hid (∀ (g : Nat) (W : World), (∀ i : Nat, i < 6 → W.cell? ⟨g, i, none⟩ = some (.string (bs (kWd ((i : Int) + 1))))) → Calls Tryz.prog 21 #[.slice (some ⟨g, 0, none⟩) 6 6, .string (bs (Lib.trimPrefix A1 [115, 99, 114, 105, 112, 116, 32]))] W fun e w' => e = .returned (.int .i64 (Lib.idxOfS kws (bs (Lib.trimPrefix A1 [115, 99, 114, 105, 112, 116, 32])))) ∧ W = w') := fun g W hc => (Tryz.slices_Index_string g 0 6 6 kws (bs (Lib.trimPrefix A1 [115, 99, 114, 105, 112, 116, 32])) W (by decide) (by decide) (kws_cells hc)).mono fun e w' ⟨h1, h2⟩ => ⟨h1, h2.symm⟩
  have hkb := kws_bd (bs (Lib.trimPrefix A1 [115, 99, 114, 105, 112, 116, 32]))
  clear hcut hfine
  have CM : Hid (∀ (R : List UInt8) (W : World), Ext w W → R.length ≤ 1000000 → Calls Tryz.prog 23 #[.int .i64 K, .string (bs R)] W (MPost K (bs R) W)) := fun R W hW hR => mparse_x K (bs R) W ⟨hK1, hK6⟩ (hE.ext hW) (by rw [bs_size]; exact hR)
  have e1 : ((K : Int) == 0) = false := beq_eq_false_iff_ne.2 (by omega)
  clear hE hsz
  generalize bs L = t at *
  generalize Lib.idxOfS kws (bs (Lib.trimPrefix A1 [115, 99, 114, 105, 112, 116, 32])) = X at *
  generalize bs (Lib.trimPrefix A1 [115, 99, 114, 105, 112, 116, 32]) = WD at *
  have hKX : X = K - 1 := by omega
  subst hKX
  have e2 : 1 + (K - 1) = K := by omega
  have e3 : IntKind.i64.wrap (1 + (K - 1)) = K := by rw [e2]; exact IntWalk.i64_in _ (by omega)
  go_enter Tryz.func7, Tryz.ntmps7
  go_wp2_with fail
  generalize w.alloc (.cells #[.int .i64 0, .int .i64 0] 25) = w1 at *
  refine (CC1.out _ HW1.out).mono ?_
  rintro e w2 ⟨rfl, h2⟩
  have HE2 := Lib.hid h2
  clear h2
  go_wp2_with fail
  refine (CP.out _).mono ?_
  rintro e w3 ⟨rfl, rfl⟩
  go_wp2_with fail
  refine (CK.out _).mono ?_
  rintro e w3 ⟨g, rfl, h3, hg⟩
  have HE3 := Lib.hid (HE2.out.ext h3)
  have CI2 := Lib.hid (CI.out g w3 hg)
  clear h3 hg
  go_wp2_with fail
  refine CI2.out.mono ?_
  rintro e w4 ⟨rfl, rfl⟩
  generalize hA2 : bs A2 = rA at *
  have HA2 := Lib.hid hA2
  clear hA2
  go_wp2_with fail
  go_loopg [7, 12, 13] 2000 (fun gk r lv n wx => ∃ (R : List UInt8) (L2 : List OpV), r = .string (bs R) ∧ n = .int .i64 (2002 - (gk : Int)) ∧ gk ≤ 2000 ∧ Hid (lns K gk R (opsL L2) = RES) ∧ R.length ≤ 1000000 ∧ L2.length = 2000 - gk ∧ Hid (Ext w1 wx) ∧ Hid (GenR w1.heap.size w.heap.size wx lv L2))
  case atStart => exact ⟨A2, [], by rw [HA2.out], rfl, Nat.le_refl _, HR0.out, hl2, rfl, HE3.out, GenR.nil _ _ _⟩
  case round =>
    obtain ⟨R, L2, rfl, rfl, hgk, HL, hRl, hL2, HE, HG⟩ := hrel
    have HL2 := Lib.hid hL2
    have hL2b : L2.length ≤ 2000 := by omega
    clear hL2
    obtain ⟨la, lc, hlv⟩ := own_shape HG.out.own
    subst hlv
    have hszr := HE.out.size
    have HEW := Lib.hid (HW1.out.ext HE.out)
    have hRs := bs_size R
    by_cases hr : R = []
    · subst hr
      have HRES : Hid (RES = ⟨K, opsL L2, 0, 0⟩) := Lib.hid (by rw [← HL.out, lns_nil])
      rw [bs_nil]
      have hz6 := HZ1.out _ HE.out
      have z0 := cellRow hz6 0 _ rfl
      have z1 := cellRow hz6 1 _ rfl
      have m0 := frozenRow hz6 0
      have m1 := frozenRow hz6 1
      have hfin := setBlock (setBlock hz6 0 (.int .i64 0)) 1 (.int .i64 0)
      have y0 := cellRow hfin 0 _ rfl
      have y1 := cellRow hfin 1 _ rfl
      clear hz6 hfin hRs
      simp at y0 y1
      go_wp2_with fail
      refine bodyPost_ret (v := .tuple #[.int .i64 K, .slice la L2.length lc, .agg #[.int .i64 0, .int .i64 0], .int .i64 0]) (by simp [results, Tryz.results7, go_sem, z0, z1, y0, y1]) rfl ⟨_, L2, by rw [HRES.out]; rfl, ?_, by rw [HRES.out], ?_⟩
      · have hu : Upd (fun k => k = w.heap.size) wr ((wr.setCell ⟨w.heap.size, 0, none⟩ (.int .i64 0)).setCell ⟨w.heap.size, 1, none⟩ (.int .i64 0)) := (updAt (w := wr) (g := w.heap.size) (j := 0) (.int .i64 0)).trans (updAt (g := w.heap.size) (j := 1) (.int .i64 0))
        exact (HG.out.kept hu).ops
      · exact (HEW.out.setNew (Nat.le_refl _) _).setNew (Nat.le_refl _) _
    · have n0 : (bs R).toList = R := by rw [Lib.toList_data]; exact bs_data R
      have n1 : (bs R).toList.isEmpty = false := by rw [n0]; cases R with
        | nil => exact absurd rfl hr
        | cons a b => rfl
      have n2 : ((bs R).toList == []) = false := by rw [n0]; exact beq_eq_false_iff_ne.2 hr
      have n3 : ((bs R).toList != []) = true := by rw [n0]; exact bne_iff_ne.2 hr
      have CC2 := Lib.hid (fun (W : World) (hW : Ext w W) => CC.out R W hW hRl)
      obtain ⟨N, hN⟩ : ∃ N : Int, 2002 - (gk : Int) = N := ⟨_, rfl⟩
      rw [hN]
      have hN2 : 2 ≤ N ∧ N ≤ 2002 := by omega
      have hbA := alloc0 wr (.cells #[.int .i64 N, .int .i64 1] 25)
      have HE5 : Hid (Ext wr (wr.alloc (.cells #[.int .i64 N, .int .i64 1] 25))) := (Upd.refl _ wr).alloc _
      have k0 := cellRow hbA 0 _ rfl
      have k1 := cellRow hbA 1 _ rfl
      have HBA := Lib.hid hbA
      clear hbA
      cases gk with
      | zero =>
        have HRES : Hid (RES = ⟨0, [], 2002, 4⟩) := Lib.hid (by rw [← HL.out]; exact lns_full K R _ hr)
        obtain rfl : N = 2002 := by omega
        clear n0 hr hN CC2
        generalize bs R = rr at *
        go_wp2_with fail
        generalize wr.alloc (.cells #[.int .i64 2002, .int .i64 1] 25) = w5 at *
        have hX0 : ∀ x : XW w5, x.val.cell? ⟨wr.heap.size, 0, none⟩ = some (.int .i64 2002) := fun x => x.ext.cell k0 (fun h => h)
        have hX1 : ∀ x : XW w5, x.val.cell? ⟨wr.heap.size, 1, none⟩ = some (.int .i64 1) := fun x => x.ext.cell k1 (fun h => h)
        refine wp_region_par (α := Nat) 3 [(3, 2), (4, 2)] [[], [], [1], [0, 1, 2], [0, 1, 2, 3]]
          [none, none, none] [false, false, false] (by kernel_rfl) (by kernel_rfl) rfl (fun _ _ d _ _ h => by cases d <;> exact h) ?_
        simp only [List.take_succ_cons, List.take_zero, pickO, List.getElem?_cons_zero, List.getElem?_cons_succ]
        iterate 3 (refine can_pure0 rfl (fun K hK => ?_); go_simp; refine hK _ ?_; clear hK K)
        refine can_end (fun w8 hW hG => ?_)
        clear hG
        have HE8 := Lib.hid ((HE.out.ext HE5.out).ext hW)
        clear hW
        have hz6 := HZ1.out _ HE8.out
        have z0 := cellRow hz6 0 _ rfl
        have z1 := cellRow hz6 1 _ rfl
        have m0 := frozenRow hz6 0
        have m1 := frozenRow hz6 1
        have hfin := setBlock (setBlock hz6 0 (.int .i64 2002)) 1 (.int .i64 1)
        have y0 := cellRow hfin 0 _ rfl
        have y1 := cellRow hfin 1 _ rfl
        clear hz6 hfin
        simp at y0 y1
        iterate 2 (refine mix_two (fun K hK => ?_); go_simp; refine hK _ _ ?_; clear hK K)
        simp only [wpMix]
        go_wp2_with fail
        refine bodyPost_ret (v := .tuple #[.int .i64 0, .slice none 0 0, .agg #[.int .i64 2002, .int .i64 1], .int .i64 4]) (by simp [results, Tryz.results7, go_sem, z0, z1, y0, y1]) rfl ⟨_, [], by rw [HRES.out]; first | rfl | (simp only; rw [if_pos (by omega)]), ?_, by rw [HRES.out]; rfl, ?_⟩
        · exact ⟨SlR.nil _ _ _, fun o ho => by cases ho⟩
        · exact ((HW1.out.ext HE8.out).setNew (Nat.le_refl _) _).setNew (Nat.le_refl _) _
      | succ g =>
        have m1 : ((N : Int) == 2002) = false := beq_eq_false_iff_ne.2 (by omega)
        obtain ⟨⟨C1, C2, okc⟩, hC⟩ : ∃ q, Lib.cut R [10] = q := ⟨_, rfl⟩
        have hCl : C1.length ≤ 1000000 ∧ C2.length ≤ 1000000 := by
          rcases cut_cases 10 R with ⟨a, b, e, _, hcc⟩ | ⟨_, hcc⟩
          · rw [hC] at hcc
            injection hcc with h1 h2
            injection h2 with h2 h3
            have := congrArg List.length e
            rw [List.length_append, List.length_cons] at this
            rw [h1, h2]
            omega
          · rw [hC] at hcc
            injection hcc with h1 h2
            injection h2 with h2 h3
            rw [h1, h2]
            exact ⟨hRl, by simp⟩
        have CM2 := Lib.hid (fun (W : World) (hW : Ext w W) => CM.out C1 W hW hCl.1)
        have HST : Hid (∀ o, okc = true → Good K (bs C1) o → lns K g C2 (opsL L2 ++ [o]) = RES) := fun o h1 h2 => by
          rw [← HL.out, lns_step K g R _ o hr (by rw [hC]; exact h1) (by rw [hC]; exact opOf_some h2), hC]
        have HBD : Hid (okc = false ∨ (∀ o, ¬ Good K (bs C1) o) → RES = ⟨0, [], N, 7⟩) := fun h => by
          rw [← HL.out, lns_bad K g R _ hr (by rw [hC]; exact h.imp id (fun h => opOf_none h))]
          congr 1
          omega
        rw [hC] at CC2
        dsimp only at CC2
        clear n0 hr HL
        generalize bs R = rr at *
        generalize hC1 : bs C1 = r1 at *
        generalize hC2 : bs C2 = r2 at *
        have HC2 := Lib.hid hC2
        clear hC hC1 hC2
        go_wp2_with fail
        generalize wr.alloc (.cells #[.int .i64 N, .int .i64 1] 25) = w5 at *
        refine (CC2.out _ (HEW.out.ext HE5.out)).mono ?_
        rintro e w6 ⟨rfl, h6⟩
        have HE6 := Lib.hid (HE5.out.ext h6)
        have HF6 := Lib.hid h6
        clear h6
        go_wp2_with fail
        refine (CM2.out _ (HEW.out.ext HE6.out)).mono ?_
        rintro e w7 (⟨o, v, hgo, rfl, hno, h7⟩ | ⟨hno, rfl, h7⟩)
        · have HE7 := Lib.hid (HE6.out.ext h7)
          have HF7 := Lib.hid (HF6.out.ext h7)
          have HGO := Lib.hid hgo
          have HNO := Lib.hid (NumR.lt hno)
          obtain ⟨va, vc, hvs⟩ := hno.shape
          subst hvs
          have hbo := alloc0 w7 (.cells #[.int .i64 o.code, .slice va o.args.length vc] 40)
          have HE8 := Lib.hid (HE7.out.alloc (.cells #[.int .i64 o.code, .slice va o.args.length vc] 40))
          have HF8 := Lib.hid (HF7.out.alloc (.cells #[.int .i64 o.code, .slice va o.args.length vc] 40))
          have HN8 := Lib.hid ((HNO.out).kept ((Upd.refl (fun _ => False) w7).alloc (.cells #[.int .i64 o.code, .slice va o.args.length vc] 40)) (fun _ _ h => h))
          have hs8 := alloc_size w7 (.cells #[.int .i64 o.code, .slice va o.args.length vc] 40)
          have q0 := cellRow hbo 0 _ rfl
          have q1 := cellRow hbo 1 _ rfl
          have hsz5 := HE5.out.size
          have hsz6 := HE6.out.size
          have hsz7 := h7.size
          clear h7 hgo hno hbo k0 k1 HNO
          cases okc with
          | false =>
            have HRES := Lib.hid (HBD.out (Or.inl rfl))
            have hbA := HF8.out.heap HBA.out (fun h => h)
            have k0 := cellRow hbA 0 _ rfl
            have k1 := cellRow hbA 1 _ rfl
            clear hbA
            go_wp2_with fail
            generalize w7.alloc (.cells #[.int .i64 o.code, .slice va o.args.length vc] 40) = wz at *
            have hX0 : ∀ x : XW wz, x.val.cell? ⟨wr.heap.size, 0, none⟩ = some (.int .i64 N) := fun x => x.ext.cell k0 (fun h => h)
            have hX1 : ∀ x : XW wz, x.val.cell? ⟨wr.heap.size, 1, none⟩ = some (.int .i64 1) := fun x => x.ext.cell k1 (fun h => h)
            refine wp_region_par (α := Nat) 3 [(3, 2), (4, 2)] [[], [], [1], [0, 1, 2], [0, 1, 2, 3]]
              [none, none, none] [false, false, false] (by kernel_rfl) (by kernel_rfl) rfl (fun _ _ d _ _ h => by cases d <;> exact h) ?_
            simp only [List.take_succ_cons, List.take_zero, pickO, List.getElem?_cons_zero, List.getElem?_cons_succ]
            iterate 3 (refine can_pure0 rfl (fun K hK => ?_); go_simp; refine hK _ ?_; clear hK K)
            refine can_end (fun w8 hW hG => ?_)
            clear hG
            have HE8 := Lib.hid ((HE.out.ext HE8.out).ext hW)
            clear hW
            have hz6 := HZ1.out _ HE8.out
            have z0 := cellRow hz6 0 _ rfl
            have z1 := cellRow hz6 1 _ rfl
            have m0 := frozenRow hz6 0
            have m1 := frozenRow hz6 1
            have hfin := setBlock (setBlock hz6 0 (.int .i64 N)) 1 (.int .i64 1)
            have y0 := cellRow hfin 0 _ rfl
            have y1 := cellRow hfin 1 _ rfl
            clear hz6 hfin
            simp at y0 y1
            iterate 2 (refine mix_two (fun K hK => ?_); go_simp; refine hK _ _ ?_; clear hK K)
            simp only [wpMix]
            go_wp2_with fail
            refine bodyPost_ret (v := .tuple #[.int .i64 0, .slice none 0 0, .agg #[.int .i64 N, .int .i64 1], .int .i64 7]) (by simp [results, Tryz.results7, go_sem, z0, z1, y0, y1]) rfl ⟨_, [], by rw [HRES.out]; first | rfl | (simp only; rw [if_pos (by omega)]), ?_, by rw [HRES.out]; rfl, ?_⟩
            · exact ⟨SlR.nil _ _ _, fun o ho => by cases ho⟩
            · exact ((HW1.out.ext HE8.out).setNew (Nat.le_refl _) _).setNew (Nat.le_refl _) _
          | true =>
            have HST2 := Lib.hid (HST.out o rfl HGO.out)
            have hval := (valid_args HGO.out.1).1
            have h9 : w7.heap.size ≤ (w7.alloc (.cells #[.int .i64 o.code, .slice va o.args.length vc] 40)).heap.size := by omega
            have HA8 := Lib.hid (own_kept HG.out.own HE8.out (fun _ _ h => h))
            clear HBD HST
            go_wp2_with (at_builtin; refine wpList_append_at _ rfl (.tmp 78) (.tmp 80) 23 rfl w1.heap.size 40 i5 (.agg #[.int .i64 0, .slice none 0 0]) 2 32 Tryz.underlying23 hi5 hz50 hz51 hz52 rfl (by decide) _ _ _ rfl (own_alloc HA8.out _) ⟨w7.heap.size + 1, 0, none⟩ 1 1 [.int .i64 o.code, .slice va o.args.length vc] rfl rfl ?d1 ?d2 ?d3 ?d4 ?d5 ?_)
            case d1 =>
              intro j u hj
              match j, hj with
              | 0, hj => simp at hj; subst hj; simp [Addr.add, alloc_size]
              | 1, hj => simp at hj; subst hj; simp [Addr.add, alloc_size]
            case d2 => intro u hu; simp at hu; rcases hu with rfl | rfl <;> rfl
            case d3 => unfold maxLen; omega
            case d4 => omega
            case d5 => simp; omega
            intro v5 w9 hG
            have hno : NumR (fun k => wr.heap.size ≤ k ∧ k < ((w7.alloc (.cells #[.int .i64 o.code, .slice va o.args.length vc] 40)).alloc (.cells #[.int .i64 o.code, .slice va o.args.length vc] 40)).heap.size ∧ k ≠ w.heap.size) ((w7.alloc (.cells #[.int .i64 o.code, .slice va o.args.length vc] 40)).alloc (.cells #[.int .i64 o.code, .slice va o.args.length vc] 40)) (.slice va o.args.length vc) o.args := by
              refine (HN8.out.kept ((Upd.refl (fun _ => False) _).alloc _) (fun _ _ h => h)).weaken (fun k hk => ⟨by omega, by rw [alloc_size]; omega, by omega⟩)
            have HG2 := Lib.hid (HG.out.push (o := ⟨o, .slice va o.args.length vc⟩) ((HE8.out.alloc _).mono (fun _ _ h => h.elim)) hno (by omega) hG)
            have HE9 := Lib.hid (ext_upd (HE.out.ext (HE8.out.alloc (.cells #[.int .i64 o.code, .slice va o.args.length vc] 40))) hG.upd (fun k hk => (HA8.out.lt k hk).1))
            obtain ⟨xa, xc, hxs⟩ := own_shape hG.own
            subst hxs
            clear hG hno q0 q1 hs8
            go_wp2_with fail
            go_roundg g
            case measure => omega
            case rel =>
              refine ⟨C2, L2 ++ [⟨o, .slice va o.args.length vc⟩], by rw [HC2.out], by go_num, by omega, ?_, hCl.2, by have := HL2.out; simp; omega, HE9, ?_⟩
              · rw [show opsL (L2 ++ [⟨o, .slice va o.args.length vc⟩]) = opsL L2 ++ [o] by simp [opsL]]
                exact HST2.out
              · exact HG2.out
        · have HE7 := Lib.hid (HE6.out.ext h7)
          have HF7 := Lib.hid (HF6.out.ext h7)
          have HE8 := Lib.hid (HE7.out.alloc (.cells #[.int .i64 0, .slice none 0 0] 40))
          have HF8 := Lib.hid (HF7.out.alloc (.cells #[.int .i64 0, .slice none 0 0] 40))
          have HRES := Lib.hid (HBD.out (Or.inr hno))
          clear h7 hno k0 k1
          cases okc with
          | false =>
            have hbA := HF8.out.heap HBA.out (fun h => h)
            have k0 := cellRow hbA 0 _ rfl
            have k1 := cellRow hbA 1 _ rfl
            clear hbA
            go_wp2_with fail
            generalize w7.alloc (.cells #[.int .i64 0, .slice none 0 0] 40) = wz at *
            have hX0 : ∀ x : XW wz, x.val.cell? ⟨wr.heap.size, 0, none⟩ = some (.int .i64 N) := fun x => x.ext.cell k0 (fun h => h)
            have hX1 : ∀ x : XW wz, x.val.cell? ⟨wr.heap.size, 1, none⟩ = some (.int .i64 1) := fun x => x.ext.cell k1 (fun h => h)
            refine wp_region_par (α := Nat) 3 [(3, 2), (4, 2)] [[], [], [1], [0, 1, 2], [0, 1, 2, 3]]
              [none, none, none] [false, false, false] (by kernel_rfl) (by kernel_rfl) rfl (fun _ _ d _ _ h => by cases d <;> exact h) ?_
            simp only [List.take_succ_cons, List.take_zero, pickO, List.getElem?_cons_zero, List.getElem?_cons_succ]
            iterate 3 (refine can_pure0 rfl (fun K hK => ?_); go_simp; refine hK _ ?_; clear hK K)
            refine can_end (fun w8 hW hG => ?_)
            clear hG
            have HE8 := Lib.hid ((HE.out.ext HE8.out).ext hW)
            clear hW
            have hz6 := HZ1.out _ HE8.out
            have z0 := cellRow hz6 0 _ rfl
            have z1 := cellRow hz6 1 _ rfl
            have m0 := frozenRow hz6 0
            have m1 := frozenRow hz6 1
            have hfin := setBlock (setBlock hz6 0 (.int .i64 N)) 1 (.int .i64 1)
            have y0 := cellRow hfin 0 _ rfl
            have y1 := cellRow hfin 1 _ rfl
            clear hz6 hfin
            simp at y0 y1
            iterate 2 (refine mix_two (fun K hK => ?_); go_simp; refine hK _ _ ?_; clear hK K)
            simp only [wpMix]
            go_wp2_with fail
            refine bodyPost_ret (v := .tuple #[.int .i64 0, .slice none 0 0, .agg #[.int .i64 N, .int .i64 1], .int .i64 7]) (by simp [results, Tryz.results7, go_sem, z0, z1, y0, y1]) rfl ⟨_, [], by rw [HRES.out]; first | rfl | (simp only; rw [if_pos (by omega)]), ?_, by rw [HRES.out]; rfl, ?_⟩
            · exact ⟨SlR.nil _ _ _, fun o ho => by cases ho⟩
            · exact ((HW1.out.ext HE8.out).setNew (Nat.le_refl _) _).setNew (Nat.le_refl _) _
          | true =>
            have hbA := HF8.out.heap HBA.out (fun h => h)
            have k0 := cellRow hbA 0 _ rfl
            have k1 := cellRow hbA 1 _ rfl
            clear hbA
            go_wp2_with fail
            generalize w7.alloc (.cells #[.int .i64 0, .slice none 0 0] 40) = wz at *
            have hX0 : ∀ x : XW wz, x.val.cell? ⟨wr.heap.size, 0, none⟩ = some (.int .i64 N) := fun x => x.ext.cell k0 (fun h => h)
            have hX1 : ∀ x : XW wz, x.val.cell? ⟨wr.heap.size, 1, none⟩ = some (.int .i64 1) := fun x => x.ext.cell k1 (fun h => h)
            refine wp_region_par (α := Nat) 3 [(3, 2), (4, 2)] [[], [], [1], [0, 1, 2], [0, 1, 2, 3]]
              [none, none, none] [false, false, false] (by kernel_rfl) (by kernel_rfl) rfl (fun _ _ d _ _ h => by cases d <;> exact h) ?_
            simp only [List.take_succ_cons, List.take_zero, pickO, List.getElem?_cons_zero, List.getElem?_cons_succ]
            iterate 3 (refine can_pure0 rfl (fun K hK => ?_); go_simp; refine hK _ ?_; clear hK K)
            refine can_end (fun w8 hW hG => ?_)
            clear hG
            have HE8 := Lib.hid ((HE.out.ext HE8.out).ext hW)
            clear hW
            have hz6 := HZ1.out _ HE8.out
            have z0 := cellRow hz6 0 _ rfl
            have z1 := cellRow hz6 1 _ rfl
            have m0 := frozenRow hz6 0
            have m1 := frozenRow hz6 1
            have hfin := setBlock (setBlock hz6 0 (.int .i64 N)) 1 (.int .i64 1)
            have y0 := cellRow hfin 0 _ rfl
            have y1 := cellRow hfin 1 _ rfl
            clear hz6 hfin
            simp at y0 y1
            iterate 2 (refine mix_two (fun K hK => ?_); go_simp; refine hK _ _ ?_; clear hK K)
            simp only [wpMix]
            go_wp2_with fail
            refine bodyPost_ret (v := .tuple #[.int .i64 0, .slice none 0 0, .agg #[.int .i64 N, .int .i64 1], .int .i64 7]) (by simp [results, Tryz.results7, go_sem, z0, z1, y0, y1]) rfl ⟨_, [], by rw [HRES.out]; first | rfl | (simp only; rw [if_pos (by omega)]), ?_, by rw [HRES.out]; rfl, ?_⟩
            · exact ⟨SlR.nil _ _ _, fun o ho => by cases ho⟩
            · exact ((HW1.out.ext HE8.out).setNew (Nat.le_refl _) _).setNew (Nat.le_refl _) _

theorem wparse_x (L : List UInt8) (w : World) (hE : Env w) (hs : L.length ≤ 1000000) : Calls Tryz.prog 7 #[.string (bs L)] w (PPost (parseT L) w) := by
  by_cases hb : 65536 < L.length
  · exact wparse_big L w hs hb
  · obtain ⟨⟨A1, A2, okc⟩, hC⟩ : ∃ q, Lib.cut L [10] = q := ⟨_, rfl⟩
    have hp : okc = false ∨ kOf A1 = 0 → parseT L = ⟨0, [], 1, 7⟩ := fun h => by
      unfold parseT
      rw [if_neg hb, hC, if_neg]
      rintro ⟨h1, h2⟩
      rcases h with h | h
      · rw [h] at h1; cases h1
      · exact h2 h
    cases okc with
    | false => exact wparse_b1 L w hE hs hb A1 A2 _ hC rfl (hp (Or.inl rfl))
    | true =>
      rcases pre_cases A1 with ⟨hf, hA⟩ | ⟨hf, hk⟩
      · have hkk := kw_idx (Lib.trimPrefix A1 [115, 99, 114, 105, 112, 116, 32])
        rw [← hA] at hkk
        have hbd := kOf_bd A1
        by_cases hz : kOf A1 = 0
        · exact wparse_b3 L w hE hs hb A1 A2 hC hf (hkk.trans hz) (hp (Or.inr hz))
        · refine wparse_ok L w hE hs hb A1 A2 hC hf (kOf A1) hkk (by omega) (by omega) ?_ (parseT L) ?_
          · rcases cut_cases 10 L with ⟨a, b, e, _, hcc⟩ | ⟨_, hcc⟩
            · rw [hC] at hcc
              injection hcc with h1 h2
              injection h2 with h2 h3
              have := congrArg List.length e
              rw [List.length_append, List.length_cons] at this
              rw [h2]
              omega
            · rw [hC] at hcc
              injection hcc with h1 h2
              injection h2 with h2 h3
              rw [h2]
              simp
          · unfold parseT
            rw [if_neg hb, hC, if_pos ⟨rfl, hz⟩]
            exact Lib.hid rfl
      · exact wparse_b2 L w hE hs hb A1 A2 hC hf (hp (Or.inr hk))

end Go.Proofs.YthpekfpeoglbgaaGreatDoor
