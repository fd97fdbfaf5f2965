/- The texts Y39, one behind the other. -/
import Derived.Test.YtjjaknmnhhfjeaaGreatDoorKBE
/- Tokens of the reference. -/
namespace Go.Proofs.YtjjaknmnhhfjeaaGreatDoor
open Go.RowKit Go.Hw Go Go.Sort Go.Proofs Go.ChangeMaps
set_option linter.unusedVariables false
set_option linter.unusedSimpArgs false

open Tm
theorem byt_ext (s : By) (i j : Nat) (y : List UInt8) (hy : y <+: (s.extract i s.size).data.toList) (hj : j < y.length) : byt s (i + j) = (y.getD j 0).toNat := by
  obtain ⟨t, ht⟩ := hy
  have h1 : (s.extract i s.size).data.toList = s.data.toList.drop i := by
    rw [ByteArray.data_extract, Array.toList_extract]
    simp only [List.extract]
    exact List.take_of_length_le (by rw [List.length_drop]; exact Nat.le_refl _)
  rw [h1] at ht
  have h2 : (s.data.toList.drop i)[j]? = s.data.toList[i + j]? := by rw [List.getElem?_drop]
  rw [← ht, List.getElem?_append_left hj] at h2
  unfold byt
  rw [List.getD_eq_getElem?_getD, List.getD_eq_getElem?_getD, h2]
theorem symF_pre (t : By) : symF t <+: t.data.toList := by
  have key : ∀ p : List UInt8, hpB t p = true → p <+: t.data.toList := fun p h => List.isPrefixOf_iff_prefix.1 h
  unfold symF
  repeat' split
  all_goals first
    | (rename_i h; exact key _ h)
    | exact List.nil_prefix
    | (rename_i h; exact key _ ((hp1 t _).2 ⟨h.1, rfl⟩))
theorem sy_cls : ∀ c ∈ symSet, c.toNat ≠ 10 := by decide +kernel
theorem sy4_cls : ∀ x ∈ sy4, ∀ c ∈ x, c.toNat ≠ 10 := by decide +kernel
theorem symF_ten (t : By) : ∀ c ∈ symF t, c.toNat ≠ 10 := by
  unfold symF
  repeat' split
  all_goals first
    | exact sy4_cls _ (by decide)
    | (rename_i h; intro c hc; rw [List.mem_singleton.1 hc]; exact sy_cls _ (ix_mem _ _ h.2))
    | (intro c hc; cases hc)
theorem sym_moves (s : By) (i : Nat) (y : List UInt8) (h : symF (s.extract i s.size) = y) : ∀ j, j < y.length → byt s (i + j) ≠ 10 := fun j hj => by
  rw [byt_ext s i j y (by rw [← h]; exact symF_pre _) hj, List.getD_eq_getElem?_getD, List.getElem?_eq_getElem hj]
  exact symF_ten (s.extract i s.size) _ (by rw [h]; exact List.getElem_mem hj)
set_option maxRecDepth 100000 in
set_option maxHeartbeats 16000000 in
theorem rtokens_x (s : By) (w : World) (hsz : s.size ≤ 1000000) (R : TR) (hR : tokF (wdF iR) s = R) : Calls Tryz.prog 65 #[.string s] w fun e w' => TokP (w.heap.size + 2) w' e R ∧ Ext w w' := by
  have HTF : Hid (R = if 65536 < s.size then .full else tkF (wdF iR) s s.size 0 1 0 []) := Lib.hid hR.symm
  obtain ⟨iT, hi, hz0, hz1, hz2⟩ := info_parts infoTk
  clear hR
  by_cases hbig : 65536 < s.size
  · have HV : Hid (R = .full) := Lib.hid (by rw [HTF.out, if_pos hbig])
    have HE0 := Lib.hid ((Upd.refl (fun _ => False) w).alloc (.cells #[.int .i64 0, .int .i64 0] 45))
    have HP0 := Lib.hid (alloc0 w (.cells #[.int .i64 0, .int .i64 0] 45))
    have z1 : (65536 : Int) < (s.size : Int) := by omega
    have z1' : decide ((65536 : Int) < (s.size : Int)) = true := decide_eq_true z1
    have p0 := cellRow HP0.out 0 (.int .i64 0) rfl
    have p1 := cellRow HP0.out 1 (.int .i64 0) rfl
    have fp := fun j => frozenRow HP0.out j
    go_enter Tryz.func65, Tryz.ntmps65
    go_wp2_with fail
    refine bodyPost_ret (v := .tuple #[.slice none 0 0, .agg #[.int .i64 0, .int .i64 0], .int .i64 4]) (by simp [results, Tryz.results65, go_sem, p0, p1]) rfl ?_
    rw [HV.out]
    exact ⟨rfl, HE0.out⟩
  have z1 : ¬ (65536 : Int) < (s.size : Int) := by omega
  have z1' : decide ((65536 : Int) < (s.size : Int)) = false := decide_eq_false z1
  have HT0 : Hid (tkF (wdF iR) s s.size 0 1 0 [] = R) := Lib.hid (by rw [HTF.out, if_neg hbig])
  have HE0 := Lib.hid (((Upd.refl (fun _ => False) w).alloc (.cells #[.int .i64 0, .int .i64 0] 45)).alloc (.cells #[.int .i64 (1), .int .i64 (1)] 45))
  have HRB0 := Lib.hid (allocOld (alloc0 w (.cells #[.int .i64 0, .int .i64 0] 45)) (.cells #[.int .i64 (1), .int .i64 (1)] 45))
  have HPB0 := Lib.hid (alloc_at (w.alloc (.cells #[.int .i64 0, .int .i64 0] 45)) (.cells #[.int .i64 (1), .int .i64 (1)] 45) (n := w.heap.size + 1) (by simp))
  have HS0 : Hid (w.heap.size + 2 ≤ ((w.alloc (.cells #[.int .i64 0, .int .i64 0] 45)).alloc (.cells #[.int .i64 (1), .int .i64 (1)] 45)).heap.size) := Lib.hid (by simp)
  have HO0 : Hid (((w.alloc (.cells #[.int .i64 0, .int .i64 0] 45)).alloc (.cells #[.int .i64 (1), .int .i64 (1)] 45)).ownsRow (w.heap.size + 2) 114 5 (.slice none 0 0) 0 (tkCells [])) := Lib.hid ⟨rfl, .inl ⟨rfl, rfl⟩⟩
  obtain ⟨rb, hrb⟩ : ∃ x, w.heap.size = x := ⟨_, rfl⟩
  obtain ⟨pb, hpb⟩ : ∃ x, rb + 1 = x := ⟨_, rfl⟩
  rw [hrb, hpb] at HPB0
  rw [hrb] at HRB0 HO0 HS0 ⊢
  clear HTF
  go_enter Tryz.func65, Tryz.ntmps65
  go_wp2_with fail
  clear z1 z1'
  try rw [hrb]
  try rw [hpb]
  generalize ((w.alloc (.cells #[.int .i64 0, .int .i64 0] 45)).alloc (.cells #[.int .i64 (1), .int .i64 (1)] 45)) = w1 at *
  go_loopg [5, 7] s.size (fun gk x5 x7 wr => ∃ (n i ln bg : Nat) (l : List Tok) (la : Option Addr) (lc : Nat), x5 = .slice la l.length lc ∧ x7 = .int .i64 (i : Int) ∧ gk = s.size - i ∧ i ≤ s.size ∧ bg ≤ i ∧ ln ≤ i + 1 ∧ l.length ≤ i ∧ s.size - i ≤ n ∧ Hid (tkF (wdF iR) s n i ln bg l = R) ∧ Hid (wr.ownsRow (rb + 2) 114 5 (.slice la l.length lc) l.length (tkCells l)) ∧ Hid (wr.heap[pb]? = some (.cells #[.int .i64 (ln : Int), .int .i64 ((i : Int) - (bg : Int) + 1)] 45 (0, 0))) ∧ Hid (wr.heap[rb]? = some (.cells #[.int .i64 0, .int .i64 0] 45 (0, 0))) ∧ Hid (Ext w wr) ∧ Hid (rb + 2 ≤ wr.heap.size))
  case atStart => exact ⟨s.size, 0, 1, 0, [], none, 0, rfl, rfl, rfl, Nat.zero_le _, Nat.le_refl _, by omega, Nat.le_refl _, by omega, HT0, HO0, HPB0, HRB0, HE0, HS0⟩
  case round =>
    clear HT0 HO0 HPB0 HRB0 HE0 HS0
    obtain ⟨n, i, ln, bg, l, la, lc, rfl, rfl, rfl, hi1, hbg, hln, hll, hn, HR, HO, HP, HRB, HE, HSZ⟩ := hrel
    have hsz := HSZ.out
    by_cases hlt : i < s.size
    case neg =>
      obtain rfl : i = s.size := by omega
      have HV : Hid (R = .ok (l ++ [⟨5, nul, 0, ln, (s.size : Int) - (bg : Int) + 1⟩])) := Lib.hid (by
        rw [← HR.out]
        cases n with
        | zero => rfl
        | succ n => rw [tkF, if_pos hlt])
      have z2 : decide ((s.size : Int) < (s.size : Int)) = false := decide_eq_false (by omega)
      have HOA := Lib.hid (HO.out.alloc (.cells #[.int .i64 5, .string ⟨#[]⟩, .int .i64 0, .int .i64 (ln : Int), .int .i64 ((s.size : Int) - (bg : Int) + 1)] 114))
      have b0 := cellRow HP.out 0 (.int .i64 (ln : Int)) rfl
      have b1 := cellRow HP.out 1 (.int .i64 ((s.size : Int) - (bg : Int) + 1)) rfl
      clear HR hlt
      go_wp2_with (at_builtin; refine wpList_append_at _ rfl (.tmp 130) (.tmp 133) 98 rfl (rb + 2) 114 iT (.agg #[.int .i64 0, .string ⟨#[]⟩, .int .i64 0, .int .i64 0, .int .i64 0]) 5 48 Tryz.underlying98 hi hz0 hz1 hz2 rfl (by decide) _ _ _ rfl HOA.out ⟨wr.heap.size, 0, none⟩ 1 1 [Value.int .i64 5, .string ⟨#[]⟩, .int .i64 0, .int .i64 (ln : Int), .int .i64 ((s.size : Int) - (bg : Int) + 1)] rfl rfl ?c1e ?c2e ?c3e ?c4e ?c5e ?_)
      try (case c1e => exact news5 wr (.int .i64 5) (.string ⟨#[]⟩) (.int .i64 0) (.int .i64 (ln : Int)) (.int .i64 ((s.size : Int) - (bg : Int) + 1)))
      case c2e => first | exact one5 _ _ _ _ _ | exact ⟨rfl, rfl, rfl, rfl, rfl⟩
      case c3e => unfold maxLen; omega
      case c4e => omega
      case c5e => have := alloc_size wr (.cells #[.int .i64 5, .string ⟨#[]⟩, .int .i64 0, .int .i64 (ln : Int), .int .i64 ((s.size : Int) - (bg : Int) + 1)] 114); omega
      intro v' w7 hG
      obtain ⟨xa, xc, hxs⟩ := own_shape hG.own
      subst hxs
      have hb7 := hG.upd.heap (allocOld HRB.out (.cells #[.int .i64 5, .string ⟨#[]⟩, .int .i64 0, .int .i64 (ln : Int), .int .i64 ((s.size : Int) - (bg : Int) + 1)] 114)) (fun e => by have := (HO.out.lt _ e).1; omega)
      have HE7 : Hid (Ext w w7) := Lib.hid ((HE.out.alloc (.cells #[.int .i64 5, .string ⟨#[]⟩, .int .i64 0, .int .i64 (ln : Int), .int .i64 ((s.size : Int) - (bg : Int) + 1)] 114)).trans' hG.upd (fun j hj e => by have := (HO.out.lt _ e).1; omega))
      have HG := Lib.hid hG
      clear b0 b1
      have p0 := cellRow hb7 0 (.int .i64 0) rfl
      have p1 := cellRow hb7 1 (.int .i64 0) rfl
      have fp := fun j => frozenRow hb7 j
      have HB7 := Lib.hid hb7
      clear hG hb7 z2
      go_wp2_with fail
      have hr2 := st2_heap HB7.out (.int .i64 0) (.int .i64 0)
      have hu := st2_upd w7 rb (.int .i64 0) (.int .i64 0)
      have e0 := cellRow hr2 0 _ rfl
      have e1 := cellRow hr2 1 _ rfl
      refine bodyPost_ret (v := .tuple #[.slice xa (l.length + 1) xc, .agg #[.int .i64 0, .int .i64 0], .int .i64 0]) (by simp [results, Tryz.results65, go_sem, e0, e1]) rfl ?_
      have hue := HE7.out.trans' hu (fun j hj e => by omega)
      rw [HV.out]
      refine ⟨⟨_, rfl, ?_⟩, hue⟩
      have ho := own_kept HG.out.own hu (fun j hj e => by have := (HG.out.own.lt _ hj).1; omega)
      unfold TkR
      rw [tkCells_snoc, List.length_append]
      exact SlR.weaken (SlR.of_own ho) (fun j hj => ⟨(ho.lt j hj).1, (ho.lt j hj).2⟩)
    obtain ⟨m, rfl⟩ : ∃ m, n = m + 1 := ⟨n - 1, by omega⟩
    have hby : (s[i]'hlt).toNat = byt s i := by unfold byt; rw [at_list s i hlt]
    have hr := HR.out
    rw [tkF, if_neg (fun h => h hlt)] at hr
    obtain ⟨c, hc⟩ : ∃ c, byt s i = c := ⟨_, rfl⟩
    rw [hc] at hr hby
    have hc255 : c ≤ 255 := by rw [← hby]; have := (s[i]'hlt).toNat_lt; omega
    have i0' : (0 : Int) ≤ (i : Int) := by omega
    have i1' : (i : Int) < (s.size : Int) := by omega
    have z2 : decide ((i : Int) < (s.size : Int)) = true := decide_eq_true i1'
    have z2' : decide (i < s.size) = true := decide_eq_true hlt
    have HR2 := Lib.hid hr
    have HCB := Lib.hid hc
    clear HR hr hc
    by_cases hK1 : clsN c = 1
    · -- a blank
      have hbl : c = 32 ∨ c = 9 ∨ c = 13 ∨ c = 10 := by
        unfold clsN at hK1
        by_cases h : c = 32 ∨ c = 9 ∨ c = 13 ∨ c = 10
        · exact h
        · rw [if_neg h] at hK1
          split at hK1
          · cases hK1
          · split at hK1
            · cases hK1
            · split at hK1 <;> cases hK1
      have HMV := Lib.hid (fun W => move_x (ln : Int) ((i : Int) - (bg : Int) + 1) c W hc255 ⟨by omega, by omega⟩ ⟨by omega, by omega⟩)
      have HR3 := HR2.out
      rw [if_pos hK1] at HR3
      have b0 := cellRow HP.out 0 (.int .i64 (ln : Int)) rfl
      have b1 := cellRow HP.out 1 (.int .i64 ((i : Int) - (bg : Int) + 1)) rfl
      clear HR2 hK1
      by_cases h10 : c = 10
      · subst h10
        rw [if_pos rfl] at HR3
        have HR4 := Lib.hid HR3
        rw [show mvF ((ln : Int), (i : Int) - (bg : Int) + 1) 10 = ((ln : Int) + 1, 1) from rfl] at HMV
        dsimp only at HMV
        clear HR3 hbl
        go_wp2_with fail
        refine (HMV.out wr).mono ?_
        rintro e w4 ⟨rfl, h4⟩
        have HP4 := Lib.hid (h4.heap HP.out (fun h => h))
        have HRB4 := Lib.hid (h4.heap HRB.out (fun h => h))
        have HO4 := Lib.hid (own_kept HO.out h4 (fun _ _ h => h))
        have HE4 := Lib.hid (HE.out.trans h4)
        have hs4 := h4.size
        clear h4 HMV b0 b1
        have b0 := cellRow HP4.out 0 (.int .i64 (ln : Int)) rfl
        have b1 := cellRow HP4.out 1 (.int .i64 ((i : Int) - (bg : Int) + 1)) rfl
        have fb := fun j => frozenRow HP4.out j
        go_wp2_with fail
        have hb := st2_heap HP4.out (.int .i64 ((ln : Int) + 1)) (.int .i64 1)
        have hu := st2_upd w4 pb (.int .i64 ((ln : Int) + 1)) (.int .i64 1)
        have HBN := Lib.hid hb
        have HUN := Lib.hid hu
        clear hb hu
        generalize ((w4.setCell ⟨pb, 0, none⟩ (.int .i64 ((ln : Int) + 1))).setCell ⟨pb, 1, none⟩ (.int .i64 (1))) = w5 at *
        have hs5 := HUN.out.size
        go_roundg (s.size - (i + 1))
        case measure => omega
        case rel => exact ⟨m, i + 1, ln + 1, i + 1, l, la, lc, rfl, by go_num, rfl, by omega, by omega, by omega, by omega, by omega, HR4, Lib.hid (own_kept HO4.out HUN.out (fun j hj e => by have := (HO4.out.lt j hj).1; omega)), Lib.hid (by rw [show ((i + 1 : Nat) : Int) - ((i + 1 : Nat) : Int) + 1 = 1 by omega]; exact HBN.out), Lib.hid (HUN.out.heap HRB4.out (by omega)), Lib.hid (HE4.out.trans' HUN.out (fun j hj e => by omega)), Lib.hid (by omega)⟩
      · rw [if_neg h10] at HR3
        have HR4 := Lib.hid HR3
        have e1 : mvF ((ln : Int), (i : Int) - (bg : Int) + 1) c = ((ln : Int), (i : Int) - (bg : Int) + 1 + 1) := by unfold mvF; rw [if_neg h10]
        rw [e1] at HMV
        dsimp only at HMV
        have HTST : Hid ((c = 32 ∧ ((c : Int) == 32) = true) ∨ (c = 9 ∧ ((c : Int) == 32) = false) ∨ (c = 13 ∧ ((c : Int) == 32) = false)) := Lib.hid (by
          rcases hbl with rfl | rfl | rfl | rfl
          · exact .inl ⟨rfl, rfl⟩
          · exact .inr (.inl ⟨rfl, rfl⟩)
          · exact .inr (.inr ⟨rfl, rfl⟩)
          · exact absurd rfl h10)
        clear HR3 hbl e1 h10
        rcases HTST.out with ⟨rfl, _⟩ | ⟨rfl, _⟩ | ⟨rfl, _⟩
        all_goals (
          clear HTST
          go_wp2_with fail
          refine (HMV.out wr).mono ?_
          rintro e w4 ⟨rfl, h4⟩
          have HP4 := Lib.hid (h4.heap HP.out (fun h => h))
          have HRB4 := Lib.hid (h4.heap HRB.out (fun h => h))
          have HO4 := Lib.hid (own_kept HO.out h4 (fun _ _ h => h))
          have HE4 := Lib.hid (HE.out.trans h4)
          have hs4 := h4.size
          clear h4 HMV b0 b1
          have b0 := cellRow HP4.out 0 (.int .i64 (ln : Int)) rfl
          have b1 := cellRow HP4.out 1 (.int .i64 ((i : Int) - (bg : Int) + 1)) rfl
          have fb := fun j => frozenRow HP4.out j
          go_wp2_with fail
          have hb := st2_heap HP4.out (.int .i64 (ln : Int)) (.int .i64 ((i : Int) - (bg : Int) + 1 + 1))
          have hu := st2_upd w4 pb (.int .i64 (ln : Int)) (.int .i64 ((i : Int) - (bg : Int) + 1 + 1))
          have HBN := Lib.hid hb
          have HUN := Lib.hid hu
          clear hb hu
          generalize ((w4.setCell ⟨pb, 0, none⟩ (.int .i64 (ln : Int))).setCell ⟨pb, 1, none⟩ (.int .i64 ((i : Int) - (bg : Int) + 1 + 1))) = w5 at *
          have hs5 := HUN.out.size
          go_roundg (s.size - (i + 1))
          case measure => omega
          case rel => exact ⟨m, i + 1, ln, bg, l, la, lc, rfl, by go_num, rfl, by omega, by omega, by omega, by omega, by omega, HR4, Lib.hid (own_kept HO4.out HUN.out (fun j hj e => by have := (HO4.out.lt j hj).1; omega)), Lib.hid (by rw [show ((i + 1 : Nat) : Int) - (bg : Int) + 1 = (i : Int) - (bg : Int) + 1 + 1 by omega]; exact HBN.out), Lib.hid (HUN.out.heap HRB4.out (by omega)), Lib.hid (HE4.out.trans' HUN.out (fun j hj e => by omega)), Lib.hid (by omega)⟩)
    have HR3 := HR2.out
    rw [if_neg hK1] at HR3
    have n32 : ((c : Int) == 32) = false := beq_eq_false_iff_ne.2 (fun e => hK1 (by rw [show c = 32 by omega]; rfl))
    have n9 : ((c : Int) == 9) = false := beq_eq_false_iff_ne.2 (fun e => hK1 (by rw [show c = 9 by omega]; rfl))
    have n13 : ((c : Int) == 13) = false := beq_eq_false_iff_ne.2 (fun e => hK1 (by rw [show c = 13 by omega]; rfl))
    have n10 : ((c : Int) == 10) = false := beq_eq_false_iff_ne.2 (fun e => hK1 (by rw [show c = 10 by omega]; rfl))
    by_cases h35 : c = 35
    · subst h35
      rw [if_pos rfl] at HR3
      have HR4 := Lib.hid HR3
      obtain ⟨E, hE⟩ : ∃ E, skC s s.size i = E := ⟨_, rfl⟩
      rw [hE] at HR4
      have hEi : i < E ∧ E ≤ s.size := by
        obtain ⟨m', h1, h2⟩ := skC_go (s := s) (m := s.size) (k := i) (by omega) ⟨hlt, by rw [HCB.out]; decide⟩
        have h3 := skC_le m' (i + 1) (s := s) (by omega)
        omega
      have HE0 := Lib.hid hE
      clear HR2 HR3 hK1 hE
      go_wp2_with fail
      clear n32 n9 n13 n10 z2 z2' i0' i1' hby
      obtain ⟨wc, hwc⟩ : ∃ wc, wc = wr := ⟨_, rfl⟩
      have HP1 : Hid (wr.heap[pb]? = some (.cells #[.int .i64 (ln : Int), .int .i64 ((i : Int) - (bg : Int) + 1)] 45 (0, 0))) := HP
      have HU1 : Hid (Upd (fun k => k = pb) wc wr) := Lib.hid (by rw [hwc]; exact Upd.refl _ _)
      rw [← hwc] at HO HRB HE HSZ hsz
      clear HP hwc
      go_loopg [7] (s.size - i) (fun gk iv wr => ∃ (k m' : Nat), iv = .int .i64 (k : Int) ∧ gk = s.size - k ∧ i ≤ k ∧ k ≤ s.size ∧ s.size - k ≤ m' ∧ Hid (skC s m' k = E) ∧ Hid (wr.heap[pb]? = some (.cells #[.int .i64 (ln : Int), .int .i64 ((k : Int) - (bg : Int) + 1)] 45 (0, 0))) ∧ Hid (Upd (fun k => k = pb) wc wr))
      case atStart => exact ⟨i, s.size, rfl, rfl, Nat.le_refl _, by omega, by omega, HE0, HP1, HU1⟩
      case round =>
        clear HE0 HP1 HU1
        obtain ⟨k, m', rfl, rfl, hik, hks, hkm, HSK, HPK, HUK⟩ := hrel
        by_cases hgo : k < s.size ∧ byt s k ≠ 10
        · obtain ⟨hkt, hd⟩ := hgo
          have hbk : (s[k]'hkt).toNat = byt s k := by unfold byt; rw [at_list s k hkt]
          have j0' : (0 : Int) ≤ (k : Int) := by omega
          have j1' : (k : Int) < (s.size : Int) := by omega
          have y2 : decide ((k : Int) < (s.size : Int)) = true := decide_eq_true j1'
          have y2' : decide (k < s.size) = true := decide_eq_true hkt
          obtain ⟨m2, h1, h2⟩ := skC_go hkm ⟨hkt, hd⟩
          have HSK2 : Hid (skC s m2 (k + 1) = E) := Lib.hid (by rw [← h1]; exact HSK.out)
          obtain ⟨d, hdd⟩ : ∃ d, byt s k = d := ⟨_, rfl⟩
          rw [hdd] at hd hbk
          have hd255 : d ≤ 255 := by rw [← hbk]; have := (s[k]'hkt).toNat_lt; omega
          have t10 : ((d : Int) == 10) = false := beq_eq_false_iff_ne.2 (by omega)
          have t10' : ((d : Int) != 10) = true := bne_iff_ne.2 (by omega)
          have HMV := Lib.hid (fun W => move_x (ln : Int) ((k : Int) - (bg : Int) + 1) d W hd255 ⟨by omega, by omega⟩ ⟨by omega, by omega⟩)
          have e1 : mvF ((ln : Int), (k : Int) - (bg : Int) + 1) d = ((ln : Int), (k : Int) - (bg : Int) + 1 + 1) := by unfold mvF; rw [if_neg hd]
          rw [e1] at HMV
          dsimp only at HMV
          clear HSK h1 hdd e1 hd
          go_wp2_with fail
          have X0 := fun x : XW wr => cellRow (x.ext.heap HPK.out (fun h => h)) 0 (.int .i64 ((ln : Int))) rfl
          have X1 := fun x : XW wr => cellRow (x.ext.heap HPK.out (fun h => h)) 1 (.int .i64 ((k : Int) - (bg : Int) + 1)) rfl
          refine wp_region_par (α := Nat) 5 [(5, 2)] [[], [], [], [1, 2], [0, 1, 2, 3], [0, 1, 2, 3, 4]]
            [none, none, none, none, some (annVal (.agg #[.int .i64 ((ln : Int)), .int .i64 ((k : Int) - (bg : Int) + 1 + 1)]))] [false, false, false, false, true] (by kernel_rfl) (by kernel_rfl) rfl (fun _ _ d _ _ h => by cases d <;> exact h) ?_
          simp only [List.take_succ_cons, List.take_zero, pickO, List.getElem?_cons_zero, List.getElem?_cons_succ]
          iterate 4 (refine can_pure0 rfl (fun K hK => ?_); go_simp; refine hK _ ?_; clear hK K)
          refine can_mem _ rfl (by go_simp) (fun W hW hG K hK => ?_) (fun K x2 hK => ?_)
          · go_simp
            refine (HMV.out W).mono ?_
            rintro e w' ⟨rfl, h⟩
            exact hK default w' h trivial
          refine hK _ ?_; clear hK K
          dsimp only [annVal]
          refine can_end (fun wz hW hG => ?_)
          clear hG X0 X1
          have HBZ := Lib.hid (hW.heap HPK.out (fun h => h))
          have HWZ := Lib.hid hW
          clear hW
          have p0 := cellRow HBZ.out 0 (.int .i64 ((ln : Int))) rfl
          have p1 := cellRow HBZ.out 1 (.int .i64 ((k : Int) - (bg : Int) + 1)) rfl
          have fp := fun j => frozenRow HBZ.out j
          refine mix_two ?_
          intro K hK
          go_simp
          refine hK _ _ ?_
          clear hK K
          simp only [wpMix]
          have hb := st2_heap HBZ.out (.int .i64 ((ln : Int))) (.int .i64 ((k : Int) - (bg : Int) + 1 + 1))
          have hu := st2_upd wz pb (.int .i64 ((ln : Int))) (.int .i64 ((k : Int) - (bg : Int) + 1 + 1))
          have HBN := Lib.hid hb
          have HUN : Hid (Upd (fun k => k = pb) wr ((wz.setCell ⟨pb, 0, none⟩ (.int .i64 ((ln : Int)))).setCell ⟨pb, 1, none⟩ (.int .i64 ((k : Int) - (bg : Int) + 1 + 1)))) := Lib.hid ((HWZ.out.mono (fun _ _ h => h.elim)).trans hu)
          clear hb hu p0 p1 fp HBZ HWZ
          generalize ((wz.setCell ⟨pb, 0, none⟩ (.int .i64 ((ln : Int)))).setCell ⟨pb, 1, none⟩ (.int .i64 ((k : Int) - (bg : Int) + 1 + 1))) = wy at *
          go_wp2_with fail
          go_roundg (s.size - (k + 1))
          case measure => omega
          case rel => exact ⟨k + 1, m2, by go_num, rfl, by omega, by omega, h2, HSK2, Lib.hid (by rw [show ((k + 1 : Nat) : Int) - (bg : Int) + 1 = (k : Int) - (bg : Int) + 1 + 1 by omega]; exact HBN.out), Lib.hid (HUK.out.trans HUN.out)⟩
        · have hke : E = k := by rw [← HSK.out]; exact skC_end hkm hgo
          subst hke
          have hsk := HUK.out.size
          have HREL : Hid (∃ (n i' ln' bg' : Nat) (l' : List Tok) (la' : Option Addr) (lc' : Nat), Value.slice la l.length lc = .slice la' l'.length lc' ∧ Value.int .i64 (E : Int) = .int .i64 (i' : Int) ∧ s.size - E = s.size - i' ∧ i' ≤ s.size ∧ bg' ≤ i' ∧ ln' ≤ i' + 1 ∧ l'.length ≤ i' ∧ s.size - i' ≤ n ∧ Hid (tkF (wdF iR) s n i' ln' bg' l' = R) ∧ Hid (wr.ownsRow (rb + 2) 114 5 (.slice la' l'.length lc') l'.length (tkCells l')) ∧ Hid (wr.heap[pb]? = some (.cells #[.int .i64 (ln' : Int), .int .i64 ((i' : Int) - (bg' : Int) + 1)] 45 (0, 0))) ∧ Hid (wr.heap[rb]? = some (.cells #[.int .i64 0, .int .i64 0] 45 (0, 0))) ∧ Hid (Ext w wr) ∧ Hid (rb + 2 ≤ wr.heap.size)) := Lib.hid ⟨m, E, ln, bg, l, la, lc, rfl, rfl, rfl, hks, by omega, by omega, by omega, by omega, HR4, Lib.hid (own_kept HO.out HUK.out (fun j hj e => by have := (HO.out.lt j hj).1; omega)), HPK, Lib.hid (HUK.out.heap HRB.out (by omega)), Lib.hid (HE.out.trans' HUK.out (fun j hj e => by omega)), Lib.hid (by omega)⟩
          by_cases hkt : E < s.size
          · have hd : byt s E = 10 := Classical.byContradiction (fun h => hgo ⟨hkt, h⟩)
            have hbk : (s[E]'hkt).toNat = byt s E := by unfold byt; rw [at_list s E hkt]
            rw [hd] at hbk
            have j0' : (0 : Int) ≤ (E : Int) := by omega
            have j1' : (E : Int) < (s.size : Int) := by omega
            have y2 : decide ((E : Int) < (s.size : Int)) = true := decide_eq_true j1'
            have y2' : decide (E < s.size) = true := decide_eq_true hkt
            clear hgo hd HSK
            go_wp2_with fail
            go_roundg (s.size - E)
            case measure => omega
            case rel => exact HREL.out
          · have y2 : decide ((E : Int) < (s.size : Int)) = false := decide_eq_false (by omega)
            have y2' : decide (E < s.size) = false := decide_eq_false hkt
            clear hgo HSK
            go_wp2_with fail
            go_roundg (s.size - E)
            case measure => omega
            case rel => exact HREL.out
    rw [if_neg h35] at HR3
    have n35 : ((c : Int) == 35) = false := beq_eq_false_iff_ne.2 (by omega)
    have HWD0 := Lib.hid (fun W => word_x c W hc255)
    by_cases hK2 : 2 ≤ clsN c
    · -- a word
      rw [if_pos hK2] at HR3
      obtain ⟨E, hE⟩ : ∃ E, wdE s s.size i = E := ⟨_, rfl⟩
      rw [hE] at HR3
      have hEi : i < E ∧ E ≤ s.size := by
        obtain ⟨m', h1, h2⟩ := wdE_go (s := s) (m := s.size) (k := i) (by omega) ⟨hlt, by rw [HCB.out]; exact hK2⟩
        have h3 := wdE_le m' (i + 1) (s := s) (by omega)
        omega
      have HR4 := Lib.hid HR3
      have HE0 := Lib.hid hE
      have HWD := HWD0
      rw [show wrdN c = true by rw [cls_wrd]; exact decide_eq_true hK2] at HWD
      clear HR2 HR3 hE HWD0
      go_wp2_with fail
      refine (HWD.out wr).mono ?_
      rintro e w' ⟨rfl, rfl⟩
      go_wp2_with fail
      clear n32 n9 n13 n10 n35 z2 z2' i0' i1' hby hK1 h35 HWD
      obtain ⟨wc, hwc⟩ : ∃ wc, wc = wr := ⟨_, rfl⟩
      have HWC : Hid (wc = wr) := Lib.hid hwc
      rw [← hwc] at HO HP HRB HE HSZ hsz
      clear hwc
      go_loopg [9] (s.size - i) (fun gk iv wr => ∃ (N m' : Nat), iv = .int .i64 (N : Int) ∧ gk = s.size - (i + N) ∧ i + N ≤ s.size ∧ s.size - (i + N) ≤ m' ∧ Hid (wdE s m' (i + N) = E) ∧ Hid (∀ j, j < N → 2 ≤ clsN (byt s (i + j))) ∧ Hid (wc = wr))
      case atStart => exact ⟨0, s.size, rfl, rfl, by omega, by omega, HE0, Lib.hid (fun j h => absurd h (Nat.not_lt_zero _)), HWC⟩
      case round =>
        clear HE0 HWC
        obtain ⟨N, m', rfl, rfl, hks, hkm, HSK, HAL, HWC⟩ := hrel
        have hwc := HWC.out
        subst hwc
        have j0' : (0 : Int) ≤ (i : Int) + (N : Int) := by omega
        have jt : ((i : Int) + (N : Int)).toNat = i + N := by omega
        have jw : IntKind.i64.wrap ((i : Int) + (N : Int)) = (i : Int) + (N : Int) := IntWalk.i64_in _ (by omega)
        by_cases hgo : i + N < s.size ∧ 2 ≤ clsN (byt s (i + N))
        · obtain ⟨hkt, hd⟩ := hgo
          have hbk : (s[i + N]'hkt).toNat = byt s (i + N) := by unfold byt; rw [at_list s (i + N) hkt]
          have j1' : (i : Int) + (N : Int) < (s.size : Int) := by omega
          have y2 : decide ((i : Int) + (N : Int) < (s.size : Int)) = true := decide_eq_true j1'
          obtain ⟨m2, h1, h2⟩ := wdE_go hkm ⟨hkt, hd⟩
          have HSK2 : Hid (wdE s m2 (i + (N + 1)) = E) := Lib.hid (by rw [← Nat.add_assoc, ← h1]; exact HSK.out)
          have HAL2 : Hid (∀ j, j < N + 1 → 2 ≤ clsN (byt s (i + j))) := Lib.hid (fun j h4 => by
            rcases Nat.lt_succ_iff_lt_or_eq.1 h4 with h5 | h5
            · exact HAL.out j h5
            · rw [h5]; exact hd)
          obtain ⟨d, hdd⟩ : ∃ d, byt s (i + N) = d := ⟨_, rfl⟩
          rw [hdd] at hd hbk
          have hd255 : d ≤ 255 := by rw [← hbk]; have := (s[i + N]'hkt).toNat_lt; omega
          have CD := Lib.hid (word_x d wc hd255)
          rw [show wrdN d = true by rw [cls_wrd]; exact decide_eq_true hd] at CD
          clear HSK HAL h1 hdd hd
          go_wp2_with fail
          refine CD.out.mono ?_
          rintro e w' ⟨rfl, rfl⟩
          go_wp2_with fail
          go_roundg (s.size - (i + (N + 1)))
          case measure => omega
          case rel => exact ⟨N + 1, m2, by go_num, rfl, by omega, by rw [← Nat.add_assoc]; exact h2, HSK2, HAL2, Lib.hid rfl⟩
        · have hke : E = i + N := by rw [← HSK.out]; exact wdE_end hkm hgo
          subst hke
          have hkp : 0 < N := by omega
          have HNN : Hid (∀ j, j < N → byt s (i + j) ≠ 10) := Lib.hid (fun j hj e => by
            have := HAL.out j hj
            rw [e] at this
            exact absurd this (by decide))
          have HCL := Lib.hid (fun W => classify_x (s.extract i (i + N)) (ln : Int) ((i : Int) - (bg : Int) + 1) W (by rw [ByteArray.size_extract]; omega))
          obtain ⟨⟨qk, qt, qn, qo⟩, hq⟩ : ∃ q, wdF iR (s.extract i (i + N)) = q := ⟨_, rfl⟩
          rw [hq] at HCL HR4
          dsimp only at HCL HR4
          clear HSK hq HAL
          have k0' : (0 : Int) ≤ (i : Int) := by omega
          have k1' : (i : Int) ≤ (i : Int) + (N : Int) := by omega
          have k2' : (i : Int) + (N : Int) ≤ (s.size : Int) := by omega
          by_cases hkt : i + N < s.size
          · have hbk : (s[i + N]'hkt).toNat = byt s (i + N) := by unfold byt; rw [at_list s (i + N) hkt]
            have j1' : (i : Int) + (N : Int) < (s.size : Int) := by omega
            have y2 : decide ((i : Int) + (N : Int) < (s.size : Int)) = true := decide_eq_true j1'
            obtain ⟨d, hdd⟩ : ∃ d, byt s (i + N) = d := ⟨_, rfl⟩
            rw [hdd] at hgo hbk
            have hd255 : d ≤ 255 := by rw [← hbk]; have := (s[i + N]'hkt).toNat_lt; omega
            have CD := Lib.hid (word_x d wc hd255)
            have hd : ¬ 2 ≤ clsN d := fun h => hgo ⟨hkt, h⟩
            rw [show wrdN d = false by rw [cls_wrd]; exact decide_eq_false hd] at CD
            clear hdd hd hgo
            go_wp2_with fail
            refine CD.out.mono ?_
            rintro e w' ⟨rfl, rfl⟩
            clear CD hbk j1' y2
            go_wp2_with fail
            have X0 := fun x : XW wc => cellRow (x.ext.heap HP.out (fun h => h)) 0 (.int .i64 (ln : Int)) rfl
            have X1 := fun x : XW wc => cellRow (x.ext.heap HP.out (fun h => h)) 1 (.int .i64 ((i : Int) - (bg : Int) + 1)) rfl
            refine wp_region_parF (α := Nat) 12 [10] 13 [(12, 1), (13, 2)] [[], [], [], [], [2, 3], [0, 1, 2, 3, 4], [], [0, 1, 2, 3, 4, 5, 6], [0, 1, 2, 3, 4, 5, 6, 7], [0, 1, 2, 3, 4, 5, 6, 7, 8], [0, 1, 2, 3, 4, 5, 6, 7, 8], [], [0, 1, 2, 3, 4, 5, 6, 7, 8, 9, 11], [0, 1, 2, 3, 4, 5, 6, 7, 8, 9, 10, 11, 12]]
              [none, none, none, none, none, none, none, some (annVal (.tuple #[.agg #[.int .i64 (qk : Int), .string qt, .int .i64 qn, .int .i64 (ln : Int), .int .i64 ((i : Int) - (bg : Int) + 1)], .bool qo])), none, none, none, some (annTk wc.heap.size)] [false, false, false, false, false, false, false, true, false, false, false, true] (by kernel_rfl) (by kernel_rfl) rfl (fun _ _ d _ _ h => by cases d <;> exact h) ?_
            simp only [List.take_succ_cons, List.take_zero, pickO, List.getElem?_cons_zero, List.getElem?_cons_succ]
            iterate 7 (refine can_pure0 rfl (fun K hK => ?_); go_simp; refine hK _ ?_; clear hK K)
            refine can_mem _ rfl (by go_simp) (fun W hW hG K hK => ?_) (fun K x2 hK => ?_)
            · go_simp
              refine (HCL.out W).mono ?_
              rintro e w' ⟨rfl, h⟩
              exact hK default w' h trivial
            refine hK _ ?_; clear hK K
            dsimp only [annVal]
            iterate 3 (refine can_pure0 rfl (fun K hK => ?_); go_simp; refine hK _ ?_; clear hK K)
            refine can_mem _ rfl (by go_simp) (fun W hW hG K hK => ?_) (fun K xb hK => ?_)
            · go_simp
              exact hK W.heap.size _ ((Upd.refl (fun _ => False) W).alloc _) ⟨hW.size, alloc0 _ _⟩
            refine hK _ ?_; clear hK K
            dsimp only [annTk]
            refine can_end (fun wz hW hG => ?_)
            obtain ⟨hxs, hxb⟩ := hG _ (List.mem_append_right _ (List.mem_singleton.2 rfl))
            have HBX := Lib.hid hxb
            have HPY := Lib.hid (hW.heap HP.out (fun h => h))
            have HRY := Lib.hid (hW.heap HRB.out (fun h => h))
            have HEY := Lib.hid (HE.out.trans hW)
            have HOY := Lib.hid (own_kept HO.out hW (fun _ _ h => h))
            have hsy := hW.size
            clear hG hxb hW X0 X1 HCL
            have z0 := cellRow HBX.out 0 (.int .i64 0) rfl
            have z1 := cellRow HBX.out 1 (.string ⟨#[]⟩) rfl
            have z2 := cellRow HBX.out 2 (.int .i64 0) rfl
            have z3 := cellRow HBX.out 3 (.int .i64 0) rfl
            have z4 := cellRow HBX.out 4 (.int .i64 0) rfl
            have fz := fun j => frozenRow HBX.out j
            refine mix_one ?_ trivial
            intro K hK _
            go_simp
            refine hK _ _ trivial ?_
            clear hK K
            refine mix_two ?_; intro K hK; go_simp; refine hK _ _ ?_; clear hK K
            simp only [wpMix]
            have hbt := st5_heap HBX.out (.int .i64 (qk : Int)) (.string qt) (.int .i64 qn) (.int .i64 (ln : Int)) (.int .i64 ((i : Int) - (bg : Int) + 1))
            have hut := st5_upd wz xb (.int .i64 (qk : Int)) (.string qt) (.int .i64 qn) (.int .i64 (ln : Int)) (.int .i64 ((i : Int) - (bg : Int) + 1))
            have HBT := Lib.hid hbt
            have HUT := Lib.hid hut
            clear hbt hut z0 z1 z2 z3 z4 fz
            generalize (((((wz.setCell ⟨xb, 0, none⟩ (.int .i64 (qk : Int))).setCell ⟨xb, 1, none⟩ (.string qt)).setCell ⟨xb, 2, none⟩ (.int .i64 qn)).setCell ⟨xb, 3, none⟩ (.int .i64 (ln : Int))).setCell ⟨xb, 4, none⟩ (.int .i64 ((i : Int) - (bg : Int) + 1))) = w8 at *
            have hs8 := HUT.out.size
            have HP4 := Lib.hid (HUT.out.heap HPY.out (by omega))
            have HR4b := Lib.hid (HUT.out.heap HRY.out (by omega))
            have HE4 := Lib.hid (HEY.out.trans' HUT.out (fun j hj e => by omega))
            have HO4 := Lib.hid (own_kept HOY.out HUT.out (fun j hj e => by have := (HO.out.lt j hj).2; omega))
            cases qo
            · have HV : Hid (R = .bad (ln : Int) ((i : Int) - (bg : Int) + 1)) := Lib.hid (by rw [← HR4.out]; rfl)
              go_upto_region 21 with fail
              have b0 := cellRow HP4.out 0 (.int .i64 ((ln : Int))) rfl
              have b1 := cellRow HP4.out 1 (.int .i64 ((i : Int) - (bg : Int) + 1)) rfl
              have p0 := cellRow HR4b.out 0 (.int .i64 0) rfl
              have p1 := cellRow HR4b.out 1 (.int .i64 0) rfl
              have fp := fun j => frozenRow HR4b.out j
              go_region
              go_wp2_with fail
              have hr2 := st2_heap HR4b.out (.int .i64 ((ln : Int))) (.int .i64 ((i : Int) - (bg : Int) + 1))
              have hu := st2_upd w8 rb (.int .i64 ((ln : Int))) (.int .i64 ((i : Int) - (bg : Int) + 1))
              have e0 := cellRow hr2 0 _ rfl
              have e1 := cellRow hr2 1 _ rfl
              refine bodyPost_ret (v := .tuple #[.slice none 0 0, .agg #[.int .i64 ((ln : Int)), .int .i64 ((i : Int) - (bg : Int) + 1)], .int .i64 7]) (by simp [results, Tryz.results65, go_sem, e0, e1]) rfl ?_
              rw [HV.out]
              have hue := HE4.out.trans' hu (fun j hj e => by omega)
              exact ⟨rfl, hue.drew⟩
            · have HR5 : Hid (tkF (wdF iR) s m (i + N) ln bg (l ++ [(⟨qk, qt, qn, ln, (i : Int) - (bg : Int) + 1⟩ : Tok)]) = R) := Lib.hid (by rw [← HR4.out]; rfl)
              clear HR4
              have HR4 := HR4b
              have HOA := Lib.hid (HO4.out.alloc (.cells #[.int .i64 (qk : Int), .string qt, .int .i64 qn, .int .i64 (ln : Int), .int .i64 ((i : Int) - (bg : Int) + 1)] 114))
              have t0 := cellRow HBT.out 0 (.int .i64 (qk : Int)) rfl
              have t1 := cellRow HBT.out 1 (.string qt) rfl
              have t2 := cellRow HBT.out 2 (.int .i64 qn) rfl
              have t3 := cellRow HBT.out 3 (.int .i64 (ln : Int)) rfl
              have t4 := cellRow HBT.out 4 (.int .i64 ((i : Int) - (bg : Int) + 1)) rfl
              go_wp2_with (at_builtin; refine wpList_append_at _ rfl (.tmp 96) (.tmp 98) 98 rfl (rb + 2) 114 iT (.agg #[.int .i64 0, .string ⟨#[]⟩, .int .i64 0, .int .i64 0, .int .i64 0]) 5 48 Tryz.underlying98 hi hz0 hz1 hz2 rfl (by decide) _ _ _ rfl HOA.out ⟨w8.heap.size, 0, none⟩ 1 1 [Value.int .i64 (qk : Int), .string qt, .int .i64 qn, .int .i64 (ln : Int), .int .i64 ((i : Int) - (bg : Int) + 1)] rfl rfl ?c1p ?c2p ?c3p ?c4p ?c5p ?_)
              try (case c1p => exact news5 w8 (.int .i64 (qk : Int)) (.string qt) (.int .i64 qn) (.int .i64 (ln : Int)) (.int .i64 ((i : Int) - (bg : Int) + 1)))
              case c2p => first | exact one5 _ _ _ _ _ | exact ⟨rfl, rfl, rfl, rfl, rfl⟩
              case c3p => unfold maxLen; omega
              case c4p => omega
              case c5p => have := alloc_size w8 (.cells #[.int .i64 (qk : Int), .string qt, .int .i64 qn, .int .i64 (ln : Int), .int .i64 ((i : Int) - (bg : Int) + 1)] 114); omega
              intro v' w7 hG
              obtain ⟨xa, xc, hxs⟩ := own_shape hG.own
              subst hxs
              have hs7 := hG.upd.size
              have hs7' := alloc_size w8 (.cells #[.int .i64 (qk : Int), .string qt, .int .i64 qn, .int .i64 (ln : Int), .int .i64 ((i : Int) - (bg : Int) + 1)] 114)
              have HOX : Hid (w7.ownsRow (rb + 2) 114 5 (.slice xa ((l ++ [(⟨qk, qt, qn, ln, (i : Int) - (bg : Int) + 1⟩ : Tok)]).length) xc) (l ++ [(⟨qk, qt, qn, ln, (i : Int) - (bg : Int) + 1⟩ : Tok)]).length (tkCells (l ++ [(⟨qk, qt, qn, ln, (i : Int) - (bg : Int) + 1⟩ : Tok)]))) := Lib.hid (by rw [tkCells_snoc, List.length_append]; exact hG.own)
              have HPX := Lib.hid (hG.upd.heap (allocOld HP4.out (.cells #[.int .i64 (qk : Int), .string qt, .int .i64 qn, .int .i64 (ln : Int), .int .i64 ((i : Int) - (bg : Int) + 1)] 114)) (fun e => by have := (HO4.out.lt _ e).1; omega))
              have HRX := Lib.hid (hG.upd.heap (allocOld HR4.out (.cells #[.int .i64 (qk : Int), .string qt, .int .i64 qn, .int .i64 (ln : Int), .int .i64 ((i : Int) - (bg : Int) + 1)] 114)) (fun e => by have := (HO4.out.lt _ e).1; omega))
              have HEX : Hid (Ext w w7) := Lib.hid ((HE4.out.alloc (.cells #[.int .i64 (qk : Int), .string qt, .int .i64 qn, .int .i64 (ln : Int), .int .i64 ((i : Int) - (bg : Int) + 1)] 114)).trans' hG.upd (fun j hj e => by have := (HO4.out.lt _ e).1; omega))
              have hsx : rb + 2 ≤ w7.heap.size := by omega
              clear hG
              clear HP4 HR4 HE4 HO4 HOA t0 t1 t2 t3 t4 HBT HUT HBX HPY HRY HEY HOY HO HP HRB HE HSZ
              go_wp2_with fail
              have HMW : Hid (∀ j, j < N → byt s (i + j) ≠ 10) := HNN
              clear HNN
              obtain ⟨wc, hwc⟩ : ∃ wc, wc = w7 := ⟨_, rfl⟩
              rw [← hwc] at HOX HPX HRX HEX hsx
              have HPX0 : Hid (w7.heap[pb]? = some (.cells #[.int .i64 (ln : Int), .int .i64 ((i : Int) + ((0 : Nat) : Int) - (bg : Int) + 1)] 45 (0, 0))) := Lib.hid (by rw [show (i : Int) + ((0 : Nat) : Int) - (bg : Int) + 1 = (i : Int) - (bg : Int) + 1 by omega, ← hwc]; exact HPX.out)
              have HUX0 : Hid (Upd (fun k => k = pb) wc w7) := Lib.hid (by rw [hwc]; exact Upd.refl _ _)
              clear hwc
              go_loopg [13] N (fun gk iv wr => ∃ k : Nat, iv = .int .i64 (k : Int) ∧ gk = N - k ∧ k ≤ N ∧ Hid (wr.heap[pb]? = some (.cells #[.int .i64 (ln : Int), .int .i64 ((i : Int) + (k : Int) - (bg : Int) + 1)] 45 (0, 0))) ∧ Hid (Upd (fun k => k = pb) wc wr))
              case atStart => exact ⟨0, rfl, rfl, Nat.zero_le _, HPX0, HUX0⟩
              case round =>
                clear HPX0 HUX0
                obtain ⟨k, rfl, rfl, hk, HPK, HUK⟩ := hrel
                by_cases hkn : k < N
                · have hlt2 : i + k < s.size := by omega
                  have hbk : (s[i + k]'hlt2).toNat = byt s (i + k) := by unfold byt; rw [at_list s (i + k) hlt2]
                  have h10 := HMW.out k hkn
                  obtain ⟨d, hdd⟩ : ∃ d, byt s (i + k) = d := ⟨_, rfl⟩
                  rw [hdd] at h10 hbk
                  have hd255 : d ≤ 255 := by rw [← hbk]; have := (s[i + k]'hlt2).toNat_lt; omega
                  have HMV := Lib.hid (fun W => move_x (ln : Int) ((i : Int) + (k : Int) - (bg : Int) + 1) d W hd255 ⟨by omega, by omega⟩ ⟨by omega, by omega⟩)
                  have e1 : (mvF ((ln : Int), (i : Int) + (k : Int) - (bg : Int) + 1) d) = ((ln : Int), (i : Int) + (k : Int) - (bg : Int) + 1 + 1) := by unfold mvF; rw [if_neg h10]
                  rw [e1] at HMV
                  dsimp only at HMV
                  clear e1 hdd h10
                  have j0' : (0 : Int) ≤ (i : Int) + (k : Int) := by omega
                  have j1' : (i : Int) + (k : Int) < (s.size : Int) := by omega
                  have jt : ((i : Int) + (k : Int)).toNat = i + k := by omega
                  have jw : IntKind.i64.wrap ((i : Int) + (k : Int)) = (i : Int) + (k : Int) := IntWalk.i64_in _ (by omega)
                  have z2 : decide ((k : Int) < (N : Int)) = true := decide_eq_true (by omega)
                  have z2' : decide (k < N) = true := decide_eq_true hkn
                  go_wp2_with fail
                  have X0 := fun x : XW wr => cellRow (x.ext.heap HPK.out (fun h => h)) 0 (.int .i64 ((ln : Int))) rfl
                  have X1 := fun x : XW wr => cellRow (x.ext.heap HPK.out (fun h => h)) 1 (.int .i64 ((i : Int) + (k : Int) - (bg : Int) + 1)) rfl
                  refine wp_region_par (α := Nat) 7 [(7, 2)] [[], [], [], [], [2, 3], [1, 2, 3, 4], [0, 1, 2, 3, 4, 5], [0, 1, 2, 3, 4, 5, 6]]
                    [none, none, none, none, none, none, some (annVal (.agg #[.int .i64 ((ln : Int)), .int .i64 ((i : Int) + (k : Int) - (bg : Int) + 1 + 1)]))] [false, false, false, false, false, false, true] (by kernel_rfl) (by kernel_rfl) rfl (fun _ _ d _ _ h => by cases d <;> exact h) ?_
                  simp only [List.take_succ_cons, List.take_zero, pickO, List.getElem?_cons_zero, List.getElem?_cons_succ]
                  iterate 6 (refine can_pure0 rfl (fun K hK => ?_); go_simp; refine hK _ ?_; clear hK K)
                  refine can_mem _ rfl (by go_simp) (fun W hW hG K hK => ?_) (fun K x2 hK => ?_)
                  · go_simp
                    refine (HMV.out W).mono ?_
                    rintro e w' ⟨rfl, h⟩
                    exact hK default w' h trivial
                  refine hK _ ?_; clear hK K
                  dsimp only [annVal]
                  refine can_end (fun wz hW hG => ?_)
                  clear hG X0 X1
                  have HBZ := Lib.hid (hW.heap HPK.out (fun h => h))
                  have HWZ := Lib.hid hW
                  clear hW
                  have p0 := cellRow HBZ.out 0 (.int .i64 ((ln : Int))) rfl
                  have p1 := cellRow HBZ.out 1 (.int .i64 ((i : Int) + (k : Int) - (bg : Int) + 1)) rfl
                  have fp := fun j => frozenRow HBZ.out j
                  refine mix_two ?_
                  intro K hK
                  go_simp
                  refine hK _ _ ?_
                  clear hK K
                  simp only [wpMix]
                  have hb := st2_heap HBZ.out (.int .i64 ((ln : Int))) (.int .i64 ((i : Int) + (k : Int) - (bg : Int) + 1 + 1))
                  have hu := st2_upd wz pb (.int .i64 ((ln : Int))) (.int .i64 ((i : Int) + (k : Int) - (bg : Int) + 1 + 1))
                  have HBN := Lib.hid hb
                  have HUN : Hid (Upd (fun k => k = pb) wr ((wz.setCell ⟨pb, 0, none⟩ (.int .i64 ((ln : Int)))).setCell ⟨pb, 1, none⟩ (.int .i64 ((i : Int) + (k : Int) - (bg : Int) + 1 + 1)))) := Lib.hid ((HWZ.out.mono (fun _ _ h => h.elim)).trans hu)
                  clear hb hu p0 p1 fp HBZ HWZ
                  generalize ((wz.setCell ⟨pb, 0, none⟩ (.int .i64 ((ln : Int)))).setCell ⟨pb, 1, none⟩ (.int .i64 ((i : Int) + (k : Int) - (bg : Int) + 1 + 1))) = wy at *
                  go_wp2_with fail
                  go_roundg (N - (k + 1))
                  case measure => omega
                  case rel => exact ⟨k + 1, by go_num, rfl, by omega, Lib.hid (by rw [show (i : Int) + ((k + 1 : Nat) : Int) - (bg : Int) + 1 = (i : Int) + (k : Int) - (bg : Int) + 1 + 1 by omega]; exact HBN.out), Lib.hid (HUK.out.trans HUN.out)⟩
                · obtain rfl : N = k := by omega
                  have z2 : decide ((N : Int) < (N : Int)) = false := decide_eq_false (by omega)
                  have z2' : decide (N < N) = false := decide_eq_false (by omega)
                  have jw : IntKind.i64.wrap ((i : Int) + (N : Int)) = (i : Int) + (N : Int) := IntWalk.i64_in _ (by omega)
                  have hsk := HUK.out.size
                  clear hkn
                  go_wp2_with fail
                  go_roundg (s.size - (i + N))
                  case measure => omega
                  case rel => exact ⟨m, i + N, ln, bg, _, xa, xc, by simp, by go_num, rfl, by omega, by omega, by omega, by simp; omega, by omega, HR5, Lib.hid (own_kept HOX.out HUK.out (fun j hj e => by have := (HOX.out.lt j hj).1; omega)), Lib.hid (by rw [show ((i + N : Nat) : Int) - (bg : Int) + 1 = (i : Int) + (N : Int) - (bg : Int) + 1 by omega]; exact HPK.out), Lib.hid (HUK.out.heap HRX.out (by omega)), Lib.hid (HEX.out.trans' HUK.out (fun j hj e => by omega)), Lib.hid (by omega)⟩
          · have y2 : decide ((i : Int) + (N : Int) < (s.size : Int)) = false := decide_eq_false (by omega)
            clear hgo
            go_wp2_with fail
            have X0 := fun x : XW wc => cellRow (x.ext.heap HP.out (fun h => h)) 0 (.int .i64 (ln : Int)) rfl
            have X1 := fun x : XW wc => cellRow (x.ext.heap HP.out (fun h => h)) 1 (.int .i64 ((i : Int) - (bg : Int) + 1)) rfl
            refine wp_region_parF (α := Nat) 12 [10] 13 [(12, 1), (13, 2)] [[], [], [], [], [2, 3], [0, 1, 2, 3, 4], [], [0, 1, 2, 3, 4, 5, 6], [0, 1, 2, 3, 4, 5, 6, 7], [0, 1, 2, 3, 4, 5, 6, 7, 8], [0, 1, 2, 3, 4, 5, 6, 7, 8], [], [0, 1, 2, 3, 4, 5, 6, 7, 8, 9, 11], [0, 1, 2, 3, 4, 5, 6, 7, 8, 9, 10, 11, 12]]
              [none, none, none, none, none, none, none, some (annVal (.tuple #[.agg #[.int .i64 (qk : Int), .string qt, .int .i64 qn, .int .i64 (ln : Int), .int .i64 ((i : Int) - (bg : Int) + 1)], .bool qo])), none, none, none, some (annTk wc.heap.size)] [false, false, false, false, false, false, false, true, false, false, false, true] (by kernel_rfl) (by kernel_rfl) rfl (fun _ _ d _ _ h => by cases d <;> exact h) ?_
            simp only [List.take_succ_cons, List.take_zero, pickO, List.getElem?_cons_zero, List.getElem?_cons_succ]
            iterate 7 (refine can_pure0 rfl (fun K hK => ?_); go_simp; refine hK _ ?_; clear hK K)
            refine can_mem _ rfl (by go_simp) (fun W hW hG K hK => ?_) (fun K x2 hK => ?_)
            · go_simp
              refine (HCL.out W).mono ?_
              rintro e w' ⟨rfl, h⟩
              exact hK default w' h trivial
            refine hK _ ?_; clear hK K
            dsimp only [annVal]
            iterate 3 (refine can_pure0 rfl (fun K hK => ?_); go_simp; refine hK _ ?_; clear hK K)
            refine can_mem _ rfl (by go_simp) (fun W hW hG K hK => ?_) (fun K xb hK => ?_)
            · go_simp
              exact hK W.heap.size _ ((Upd.refl (fun _ => False) W).alloc _) ⟨hW.size, alloc0 _ _⟩
            refine hK _ ?_; clear hK K
            dsimp only [annTk]
            refine can_end (fun wz hW hG => ?_)
            obtain ⟨hxs, hxb⟩ := hG _ (List.mem_append_right _ (List.mem_singleton.2 rfl))
            have HBX := Lib.hid hxb
            have HPY := Lib.hid (hW.heap HP.out (fun h => h))
            have HRY := Lib.hid (hW.heap HRB.out (fun h => h))
            have HEY := Lib.hid (HE.out.trans hW)
            have HOY := Lib.hid (own_kept HO.out hW (fun _ _ h => h))
            have hsy := hW.size
            clear hG hxb hW X0 X1 HCL
            have z0 := cellRow HBX.out 0 (.int .i64 0) rfl
            have z1 := cellRow HBX.out 1 (.string ⟨#[]⟩) rfl
            have z2 := cellRow HBX.out 2 (.int .i64 0) rfl
            have z3 := cellRow HBX.out 3 (.int .i64 0) rfl
            have z4 := cellRow HBX.out 4 (.int .i64 0) rfl
            have fz := fun j => frozenRow HBX.out j
            refine mix_one ?_ trivial
            intro K hK _
            go_simp
            refine hK _ _ trivial ?_
            clear hK K
            refine mix_two ?_; intro K hK; go_simp; refine hK _ _ ?_; clear hK K
            simp only [wpMix]
            have hbt := st5_heap HBX.out (.int .i64 (qk : Int)) (.string qt) (.int .i64 qn) (.int .i64 (ln : Int)) (.int .i64 ((i : Int) - (bg : Int) + 1))
            have hut := st5_upd wz xb (.int .i64 (qk : Int)) (.string qt) (.int .i64 qn) (.int .i64 (ln : Int)) (.int .i64 ((i : Int) - (bg : Int) + 1))
            have HBT := Lib.hid hbt
            have HUT := Lib.hid hut
            clear hbt hut z0 z1 z2 z3 z4 fz
            generalize (((((wz.setCell ⟨xb, 0, none⟩ (.int .i64 (qk : Int))).setCell ⟨xb, 1, none⟩ (.string qt)).setCell ⟨xb, 2, none⟩ (.int .i64 qn)).setCell ⟨xb, 3, none⟩ (.int .i64 (ln : Int))).setCell ⟨xb, 4, none⟩ (.int .i64 ((i : Int) - (bg : Int) + 1))) = w8 at *
            have hs8 := HUT.out.size
            have HP4 := Lib.hid (HUT.out.heap HPY.out (by omega))
            have HR4b := Lib.hid (HUT.out.heap HRY.out (by omega))
            have HE4 := Lib.hid (HEY.out.trans' HUT.out (fun j hj e => by omega))
            have HO4 := Lib.hid (own_kept HOY.out HUT.out (fun j hj e => by have := (HO.out.lt j hj).2; omega))
            cases qo
            · have HV : Hid (R = .bad (ln : Int) ((i : Int) - (bg : Int) + 1)) := Lib.hid (by rw [← HR4.out]; rfl)
              go_upto_region 21 with fail
              have b0 := cellRow HP4.out 0 (.int .i64 ((ln : Int))) rfl
              have b1 := cellRow HP4.out 1 (.int .i64 ((i : Int) - (bg : Int) + 1)) rfl
              have p0 := cellRow HR4b.out 0 (.int .i64 0) rfl
              have p1 := cellRow HR4b.out 1 (.int .i64 0) rfl
              have fp := fun j => frozenRow HR4b.out j
              go_region
              go_wp2_with fail
              have hr2 := st2_heap HR4b.out (.int .i64 ((ln : Int))) (.int .i64 ((i : Int) - (bg : Int) + 1))
              have hu := st2_upd w8 rb (.int .i64 ((ln : Int))) (.int .i64 ((i : Int) - (bg : Int) + 1))
              have e0 := cellRow hr2 0 _ rfl
              have e1 := cellRow hr2 1 _ rfl
              refine bodyPost_ret (v := .tuple #[.slice none 0 0, .agg #[.int .i64 ((ln : Int)), .int .i64 ((i : Int) - (bg : Int) + 1)], .int .i64 7]) (by simp [results, Tryz.results65, go_sem, e0, e1]) rfl ?_
              rw [HV.out]
              have hue := HE4.out.trans' hu (fun j hj e => by omega)
              exact ⟨rfl, hue.drew⟩
            · have HR5 : Hid (tkF (wdF iR) s m (i + N) ln bg (l ++ [(⟨qk, qt, qn, ln, (i : Int) - (bg : Int) + 1⟩ : Tok)]) = R) := Lib.hid (by rw [← HR4.out]; rfl)
              clear HR4
              have HR4 := HR4b
              have HOA := Lib.hid (HO4.out.alloc (.cells #[.int .i64 (qk : Int), .string qt, .int .i64 qn, .int .i64 (ln : Int), .int .i64 ((i : Int) - (bg : Int) + 1)] 114))
              have t0 := cellRow HBT.out 0 (.int .i64 (qk : Int)) rfl
              have t1 := cellRow HBT.out 1 (.string qt) rfl
              have t2 := cellRow HBT.out 2 (.int .i64 qn) rfl
              have t3 := cellRow HBT.out 3 (.int .i64 (ln : Int)) rfl
              have t4 := cellRow HBT.out 4 (.int .i64 ((i : Int) - (bg : Int) + 1)) rfl
              go_wp2_with (at_builtin; refine wpList_append_at _ rfl (.tmp 96) (.tmp 98) 98 rfl (rb + 2) 114 iT (.agg #[.int .i64 0, .string ⟨#[]⟩, .int .i64 0, .int .i64 0, .int .i64 0]) 5 48 Tryz.underlying98 hi hz0 hz1 hz2 rfl (by decide) _ _ _ rfl HOA.out ⟨w8.heap.size, 0, none⟩ 1 1 [Value.int .i64 (qk : Int), .string qt, .int .i64 qn, .int .i64 (ln : Int), .int .i64 ((i : Int) - (bg : Int) + 1)] rfl rfl ?c1q ?c2q ?c3q ?c4q ?c5q ?_)
              try (case c1q => exact news5 w8 (.int .i64 (qk : Int)) (.string qt) (.int .i64 qn) (.int .i64 (ln : Int)) (.int .i64 ((i : Int) - (bg : Int) + 1)))
              case c2q => first | exact one5 _ _ _ _ _ | exact ⟨rfl, rfl, rfl, rfl, rfl⟩
              case c3q => unfold maxLen; omega
              case c4q => omega
              case c5q => have := alloc_size w8 (.cells #[.int .i64 (qk : Int), .string qt, .int .i64 qn, .int .i64 (ln : Int), .int .i64 ((i : Int) - (bg : Int) + 1)] 114); omega
              intro v' w7 hG
              obtain ⟨xa, xc, hxs⟩ := own_shape hG.own
              subst hxs
              have hs7 := hG.upd.size
              have hs7' := alloc_size w8 (.cells #[.int .i64 (qk : Int), .string qt, .int .i64 qn, .int .i64 (ln : Int), .int .i64 ((i : Int) - (bg : Int) + 1)] 114)
              have HOX : Hid (w7.ownsRow (rb + 2) 114 5 (.slice xa ((l ++ [(⟨qk, qt, qn, ln, (i : Int) - (bg : Int) + 1⟩ : Tok)]).length) xc) (l ++ [(⟨qk, qt, qn, ln, (i : Int) - (bg : Int) + 1⟩ : Tok)]).length (tkCells (l ++ [(⟨qk, qt, qn, ln, (i : Int) - (bg : Int) + 1⟩ : Tok)]))) := Lib.hid (by rw [tkCells_snoc, List.length_append]; exact hG.own)
              have HPX := Lib.hid (hG.upd.heap (allocOld HP4.out (.cells #[.int .i64 (qk : Int), .string qt, .int .i64 qn, .int .i64 (ln : Int), .int .i64 ((i : Int) - (bg : Int) + 1)] 114)) (fun e => by have := (HO4.out.lt _ e).1; omega))
              have HRX := Lib.hid (hG.upd.heap (allocOld HR4.out (.cells #[.int .i64 (qk : Int), .string qt, .int .i64 qn, .int .i64 (ln : Int), .int .i64 ((i : Int) - (bg : Int) + 1)] 114)) (fun e => by have := (HO4.out.lt _ e).1; omega))
              have HEX : Hid (Ext w w7) := Lib.hid ((HE4.out.alloc (.cells #[.int .i64 (qk : Int), .string qt, .int .i64 qn, .int .i64 (ln : Int), .int .i64 ((i : Int) - (bg : Int) + 1)] 114)).trans' hG.upd (fun j hj e => by have := (HO4.out.lt _ e).1; omega))
              have hsx : rb + 2 ≤ w7.heap.size := by omega
              clear hG
              clear HP4 HR4 HE4 HO4 HOA t0 t1 t2 t3 t4 HBT HUT HBX HPY HRY HEY HOY HO HP HRB HE HSZ
              go_wp2_with fail
              have HMW : Hid (∀ j, j < N → byt s (i + j) ≠ 10) := HNN
              clear HNN
              obtain ⟨wc, hwc⟩ : ∃ wc, wc = w7 := ⟨_, rfl⟩
              rw [← hwc] at HOX HPX HRX HEX hsx
              have HPX0 : Hid (w7.heap[pb]? = some (.cells #[.int .i64 (ln : Int), .int .i64 ((i : Int) + ((0 : Nat) : Int) - (bg : Int) + 1)] 45 (0, 0))) := Lib.hid (by rw [show (i : Int) + ((0 : Nat) : Int) - (bg : Int) + 1 = (i : Int) - (bg : Int) + 1 by omega, ← hwc]; exact HPX.out)
              have HUX0 : Hid (Upd (fun k => k = pb) wc w7) := Lib.hid (by rw [hwc]; exact Upd.refl _ _)
              clear hwc
              go_loopg [13] N (fun gk iv wr => ∃ k : Nat, iv = .int .i64 (k : Int) ∧ gk = N - k ∧ k ≤ N ∧ Hid (wr.heap[pb]? = some (.cells #[.int .i64 (ln : Int), .int .i64 ((i : Int) + (k : Int) - (bg : Int) + 1)] 45 (0, 0))) ∧ Hid (Upd (fun k => k = pb) wc wr))
              case atStart => exact ⟨0, rfl, rfl, Nat.zero_le _, HPX0, HUX0⟩
              case round =>
                clear HPX0 HUX0
                obtain ⟨k, rfl, rfl, hk, HPK, HUK⟩ := hrel
                by_cases hkn : k < N
                · have hlt2 : i + k < s.size := by omega
                  have hbk : (s[i + k]'hlt2).toNat = byt s (i + k) := by unfold byt; rw [at_list s (i + k) hlt2]
                  have h10 := HMW.out k hkn
                  obtain ⟨d, hdd⟩ : ∃ d, byt s (i + k) = d := ⟨_, rfl⟩
                  rw [hdd] at h10 hbk
                  have hd255 : d ≤ 255 := by rw [← hbk]; have := (s[i + k]'hlt2).toNat_lt; omega
                  have HMV := Lib.hid (fun W => move_x (ln : Int) ((i : Int) + (k : Int) - (bg : Int) + 1) d W hd255 ⟨by omega, by omega⟩ ⟨by omega, by omega⟩)
                  have e1 : (mvF ((ln : Int), (i : Int) + (k : Int) - (bg : Int) + 1) d) = ((ln : Int), (i : Int) + (k : Int) - (bg : Int) + 1 + 1) := by unfold mvF; rw [if_neg h10]
                  rw [e1] at HMV
                  dsimp only at HMV
                  clear e1 hdd h10
                  have j0' : (0 : Int) ≤ (i : Int) + (k : Int) := by omega
                  have j1' : (i : Int) + (k : Int) < (s.size : Int) := by omega
                  have jt : ((i : Int) + (k : Int)).toNat = i + k := by omega
                  have jw : IntKind.i64.wrap ((i : Int) + (k : Int)) = (i : Int) + (k : Int) := IntWalk.i64_in _ (by omega)
                  have z2 : decide ((k : Int) < (N : Int)) = true := decide_eq_true (by omega)
                  have z2' : decide (k < N) = true := decide_eq_true hkn
                  go_wp2_with fail
                  have X0 := fun x : XW wr => cellRow (x.ext.heap HPK.out (fun h => h)) 0 (.int .i64 ((ln : Int))) rfl
                  have X1 := fun x : XW wr => cellRow (x.ext.heap HPK.out (fun h => h)) 1 (.int .i64 ((i : Int) + (k : Int) - (bg : Int) + 1)) rfl
                  refine wp_region_par (α := Nat) 7 [(7, 2)] [[], [], [], [], [2, 3], [1, 2, 3, 4], [0, 1, 2, 3, 4, 5], [0, 1, 2, 3, 4, 5, 6]]
                    [none, none, none, none, none, none, some (annVal (.agg #[.int .i64 ((ln : Int)), .int .i64 ((i : Int) + (k : Int) - (bg : Int) + 1 + 1)]))] [false, false, false, false, false, false, true] (by kernel_rfl) (by kernel_rfl) rfl (fun _ _ d _ _ h => by cases d <;> exact h) ?_
                  simp only [List.take_succ_cons, List.take_zero, pickO, List.getElem?_cons_zero, List.getElem?_cons_succ]
                  iterate 6 (refine can_pure0 rfl (fun K hK => ?_); go_simp; refine hK _ ?_; clear hK K)
                  refine can_mem _ rfl (by go_simp) (fun W hW hG K hK => ?_) (fun K x2 hK => ?_)
                  · go_simp
                    refine (HMV.out W).mono ?_
                    rintro e w' ⟨rfl, h⟩
                    exact hK default w' h trivial
                  refine hK _ ?_; clear hK K
                  dsimp only [annVal]
                  refine can_end (fun wz hW hG => ?_)
                  clear hG X0 X1
                  have HBZ := Lib.hid (hW.heap HPK.out (fun h => h))
                  have HWZ := Lib.hid hW
                  clear hW
                  have p0 := cellRow HBZ.out 0 (.int .i64 ((ln : Int))) rfl
                  have p1 := cellRow HBZ.out 1 (.int .i64 ((i : Int) + (k : Int) - (bg : Int) + 1)) rfl
                  have fp := fun j => frozenRow HBZ.out j
                  refine mix_two ?_
                  intro K hK
                  go_simp
                  refine hK _ _ ?_
                  clear hK K
                  simp only [wpMix]
                  have hb := st2_heap HBZ.out (.int .i64 ((ln : Int))) (.int .i64 ((i : Int) + (k : Int) - (bg : Int) + 1 + 1))
                  have hu := st2_upd wz pb (.int .i64 ((ln : Int))) (.int .i64 ((i : Int) + (k : Int) - (bg : Int) + 1 + 1))
                  have HBN := Lib.hid hb
                  have HUN : Hid (Upd (fun k => k = pb) wr ((wz.setCell ⟨pb, 0, none⟩ (.int .i64 ((ln : Int)))).setCell ⟨pb, 1, none⟩ (.int .i64 ((i : Int) + (k : Int) - (bg : Int) + 1 + 1)))) := Lib.hid ((HWZ.out.mono (fun _ _ h => h.elim)).trans hu)
                  clear hb hu p0 p1 fp HBZ HWZ
                  generalize ((wz.setCell ⟨pb, 0, none⟩ (.int .i64 ((ln : Int)))).setCell ⟨pb, 1, none⟩ (.int .i64 ((i : Int) + (k : Int) - (bg : Int) + 1 + 1))) = wy at *
                  go_wp2_with fail
                  go_roundg (N - (k + 1))
                  case measure => omega
                  case rel => exact ⟨k + 1, by go_num, rfl, by omega, Lib.hid (by rw [show (i : Int) + ((k + 1 : Nat) : Int) - (bg : Int) + 1 = (i : Int) + (k : Int) - (bg : Int) + 1 + 1 by omega]; exact HBN.out), Lib.hid (HUK.out.trans HUN.out)⟩
                · obtain rfl : N = k := by omega
                  have z2 : decide ((N : Int) < (N : Int)) = false := decide_eq_false (by omega)
                  have z2' : decide (N < N) = false := decide_eq_false (by omega)
                  have jw : IntKind.i64.wrap ((i : Int) + (N : Int)) = (i : Int) + (N : Int) := IntWalk.i64_in _ (by omega)
                  have hsk := HUK.out.size
                  clear hkn
                  go_wp2_with fail
                  go_roundg (s.size - (i + N))
                  case measure => omega
                  case rel => exact ⟨m, i + N, ln, bg, _, xa, xc, by simp, by go_num, rfl, by omega, by omega, by omega, by simp; omega, by omega, HR5, Lib.hid (own_kept HOX.out HUK.out (fun j hj e => by have := (HOX.out.lt j hj).1; omega)), Lib.hid (by rw [show ((i + N : Nat) : Int) - (bg : Int) + 1 = (i : Int) + (N : Int) - (bg : Int) + 1 by omega]; exact HPK.out), Lib.hid (HUK.out.heap HRX.out (by omega)), Lib.hid (HEX.out.trans' HUK.out (fun j hj e => by omega)), Lib.hid (by omega)⟩
    -- a symbol
    rw [if_neg hK2] at HR3
    have HR4 := Lib.hid HR3
    have HWD := HWD0
    rw [show wrdN c = false by rw [cls_wrd]; exact decide_eq_false hK2] at HWD
    have HSY := Lib.hid (rsymbol_x (s.extract i s.size) wr (by rw [ByteArray.size_extract]; omega))
    have HNN0 := Lib.hid (sym_moves s i)
    have hyl := symF_len (s.extract i s.size)
    have hes : (s.extract i s.size).size = s.size - i := by rw [ByteArray.size_extract]; omega
    obtain ⟨y, hy⟩ : ∃ y, symF (s.extract i s.size) = y := ⟨_, rfl⟩
    have HNN : Hid (∀ j, j < y.length → byt s (i + j) ≠ 10) := Lib.hid (HNN0.out y hy)
    rw [hy] at HR4 HSY hyl
    have hyl2 : i + y.length ≤ s.size := by omega
    have hbsz := bs_size y
    have k1' : (i : Int) ≤ (s.size : Int) := by omega
    have k2' : (s.size : Int) ≤ (s.size : Int) := Int.le_refl _
    clear HR2 HR3 hK1 hK2 hy hyl hes HCB HNN0 HWD0
    go_wp2_with fail
    refine (HWD.out wr).mono ?_
    rintro e w' ⟨rfl, rfl⟩
    clear HWD
    by_cases hy0 : y = []
    · subst hy0
      have HV : Hid (R = .bad (ln : Int) ((i : Int) - (bg : Int) + 1)) := Lib.hid (by rw [← HR4.out, if_pos rfl])
      go_wp2_with fail
      refine HSY.out.mono ?_
      rintro e w4 ⟨rfl, hw4⟩
      have HP4 := Lib.hid (hw4.heap HP.out (fun h => h))
      have HRB4 := Lib.hid (hw4.heap HRB.out (fun h => h))
      have HE4 := Lib.hid (HE.out.trans hw4)
      have hs4 := hw4.size
      rw [bs_nil]
      clear hw4 HSY n32 n9 n13 n10 n35 z2 z2' i0' i1' hbsz
      go_upto_region 25 with fail
      have b0 := cellRow HP4.out 0 (.int .i64 ((ln : Int))) rfl
      have b1 := cellRow HP4.out 1 (.int .i64 ((i : Int) - (bg : Int) + 1)) rfl
      have p0 := cellRow HRB4.out 0 (.int .i64 0) rfl
      have p1 := cellRow HRB4.out 1 (.int .i64 0) rfl
      have fp := fun j => frozenRow HRB4.out j
      go_region
      go_wp2_with fail
      have hr2 := st2_heap HRB4.out (.int .i64 ((ln : Int))) (.int .i64 ((i : Int) - (bg : Int) + 1))
      have hu := st2_upd w4 rb (.int .i64 ((ln : Int))) (.int .i64 ((i : Int) - (bg : Int) + 1))
      have e0 := cellRow hr2 0 _ rfl
      have e1 := cellRow hr2 1 _ rfl
      refine bodyPost_ret (v := .tuple #[.slice none 0 0, .agg #[.int .i64 ((ln : Int)), .int .i64 ((i : Int) - (bg : Int) + 1)], .int .i64 7]) (by simp [results, Tryz.results65, go_sem, e0, e1]) rfl ?_
      rw [HV.out]
      have hue := HE4.out.trans' hu (fun j hj e => by omega)
      exact ⟨rfl, hue.drew⟩
    have HR5 := HR4.out
    rw [if_neg hy0] at HR5
    have HR5 := Lib.hid HR5
    have hyp : 0 < y.length := by
      cases y with
      | nil => exact absurd rfl hy0
      | cons a y => simp
    obtain ⟨z1, z2x, z3, z4⟩ := nonempty_t (bs y) (by omega)
    clear HR4 hy0
    go_wp2_with fail
    refine HSY.out.mono ?_
    rintro e w4 ⟨rfl, hw4⟩
    have HP4 := Lib.hid (hw4.heap HP.out (fun h => h))
    have HR4 := Lib.hid (hw4.heap HRB.out (fun h => h))
    have HE4 := Lib.hid (HE.out.trans hw4)
    have HO4 := Lib.hid (own_kept HO.out hw4 (fun _ _ h => h))
    have hs4 := hw4.size
    have HOA := Lib.hid (HO4.out.alloc (.cells #[.int .i64 4, .string (bs y), .int .i64 0, .int .i64 (ln : Int), .int .i64 ((i : Int) - (bg : Int) + 1)] 114))
    clear hw4 HSY n32 n9 n13 n10 n35 z2 z2' i0' i1'
    have b0 := cellRow HP4.out 0 (.int .i64 (ln : Int)) rfl
    have b1 := cellRow HP4.out 1 (.int .i64 ((i : Int) - (bg : Int) + 1)) rfl
    go_wp2_with (at_builtin; refine wpList_append_at _ rfl (.tmp 109) (.tmp 113) 98 rfl (rb + 2) 114 iT (.agg #[.int .i64 0, .string ⟨#[]⟩, .int .i64 0, .int .i64 0, .int .i64 0]) 5 48 Tryz.underlying98 hi hz0 hz1 hz2 rfl (by decide) _ _ _ rfl HOA.out ⟨w4.heap.size, 0, none⟩ 1 1 [Value.int .i64 4, .string (bs y), .int .i64 0, .int .i64 (ln : Int), .int .i64 ((i : Int) - (bg : Int) + 1)] rfl rfl ?c1y ?c2y ?c3y ?c4y ?c5y ?_)
    try (case c1y => exact news5 w4 (.int .i64 4) (.string (bs y)) (.int .i64 0) (.int .i64 (ln : Int)) (.int .i64 ((i : Int) - (bg : Int) + 1)))
    case c2y => first | exact one5 _ _ _ _ _ | exact ⟨rfl, rfl, rfl, rfl, rfl⟩
    case c3y => unfold maxLen; omega
    case c4y => omega
    case c5y => have := alloc_size w4 (.cells #[.int .i64 4, .string (bs y), .int .i64 0, .int .i64 (ln : Int), .int .i64 ((i : Int) - (bg : Int) + 1)] 114); omega
    intro v' w7 hG
    obtain ⟨xa, xc, hxs⟩ := own_shape hG.own
    subst hxs
    have hs7 := hG.upd.size
    have hs7' := alloc_size w4 (.cells #[.int .i64 4, .string (bs y), .int .i64 0, .int .i64 (ln : Int), .int .i64 ((i : Int) - (bg : Int) + 1)] 114)
    have HOX : Hid (w7.ownsRow (rb + 2) 114 5 (.slice xa ((l ++ [(⟨4, bs y, 0, ln, (i : Int) - (bg : Int) + 1⟩ : Tok)]).length) xc) (l ++ [(⟨4, bs y, 0, ln, (i : Int) - (bg : Int) + 1⟩ : Tok)]).length (tkCells (l ++ [(⟨4, bs y, 0, ln, (i : Int) - (bg : Int) + 1⟩ : Tok)]))) := Lib.hid (by rw [tkCells_snoc, List.length_append]; exact hG.own)
    have HPX := Lib.hid (hG.upd.heap (allocOld HP4.out (.cells #[.int .i64 4, .string (bs y), .int .i64 0, .int .i64 (ln : Int), .int .i64 ((i : Int) - (bg : Int) + 1)] 114)) (fun e => by have := (HO4.out.lt _ e).1; omega))
    have HRX := Lib.hid (hG.upd.heap (allocOld HR4.out (.cells #[.int .i64 4, .string (bs y), .int .i64 0, .int .i64 (ln : Int), .int .i64 ((i : Int) - (bg : Int) + 1)] 114)) (fun e => by have := (HO4.out.lt _ e).1; omega))
    have HEX : Hid (Ext w w7) := Lib.hid ((HE4.out.alloc (.cells #[.int .i64 4, .string (bs y), .int .i64 0, .int .i64 (ln : Int), .int .i64 ((i : Int) - (bg : Int) + 1)] 114)).trans' hG.upd (fun j hj e => by have := (HO4.out.lt _ e).1; omega))
    have hsx : rb + 2 ≤ w7.heap.size := by omega
    clear hG
    clear HP4 HR4 HE4 HO4 HOA b0 b1 z1 z2x z3 z4 HO HP HRB HE HSZ
    have hls : (bs y).size = y.length := bs_size y
    try rw [hls]
    go_wp2_with fail
    have HMW : Hid (∀ j, j < y.length → byt s (i + j) ≠ 10) := HNN
    clear HNN
    obtain ⟨wc, hwc⟩ : ∃ wc, wc = w7 := ⟨_, rfl⟩
    rw [← hwc] at HOX HPX HRX HEX hsx
    have HPX0 : Hid (w7.heap[pb]? = some (.cells #[.int .i64 (ln : Int), .int .i64 ((i : Int) + ((0 : Nat) : Int) - (bg : Int) + 1)] 45 (0, 0))) := Lib.hid (by rw [show (i : Int) + ((0 : Nat) : Int) - (bg : Int) + 1 = (i : Int) - (bg : Int) + 1 by omega, ← hwc]; exact HPX.out)
    have HUX0 : Hid (Upd (fun k => k = pb) wc w7) := Lib.hid (by rw [hwc]; exact Upd.refl _ _)
    clear hwc
    go_loopg [13] y.length (fun gk iv wr => ∃ k : Nat, iv = .int .i64 (k : Int) ∧ gk = y.length - k ∧ k ≤ y.length ∧ Hid (wr.heap[pb]? = some (.cells #[.int .i64 (ln : Int), .int .i64 ((i : Int) + (k : Int) - (bg : Int) + 1)] 45 (0, 0))) ∧ Hid (Upd (fun k => k = pb) wc wr))
    case atStart => exact ⟨0, rfl, rfl, Nat.zero_le _, HPX0, HUX0⟩
    case round =>
      clear HPX0 HUX0
      obtain ⟨k, rfl, rfl, hk, HPK, HUK⟩ := hrel
      by_cases hkn : k < y.length
      · have hlt2 : i + k < s.size := by omega
        have hbk : (s[i + k]'hlt2).toNat = byt s (i + k) := by unfold byt; rw [at_list s (i + k) hlt2]
        have h10 := HMW.out k hkn
        obtain ⟨d, hdd⟩ : ∃ d, byt s (i + k) = d := ⟨_, rfl⟩
        rw [hdd] at h10 hbk
        have hd255 : d ≤ 255 := by rw [← hbk]; have := (s[i + k]'hlt2).toNat_lt; omega
        have HMV := Lib.hid (fun W => move_x (ln : Int) ((i : Int) + (k : Int) - (bg : Int) + 1) d W hd255 ⟨by omega, by omega⟩ ⟨by omega, by omega⟩)
        have e1 : (mvF ((ln : Int), (i : Int) + (k : Int) - (bg : Int) + 1) d) = ((ln : Int), (i : Int) + (k : Int) - (bg : Int) + 1 + 1) := by unfold mvF; rw [if_neg h10]
        rw [e1] at HMV
        dsimp only at HMV
        clear e1 hdd h10
        have j0' : (0 : Int) ≤ (i : Int) + (k : Int) := by omega
        have j1' : (i : Int) + (k : Int) < (s.size : Int) := by omega
        have jt : ((i : Int) + (k : Int)).toNat = i + k := by omega
        have jw : IntKind.i64.wrap ((i : Int) + (k : Int)) = (i : Int) + (k : Int) := IntWalk.i64_in _ (by omega)
        have z2 : decide ((k : Int) < (y.length : Int)) = true := decide_eq_true (by omega)
        have z2' : decide (k < y.length) = true := decide_eq_true hkn
        go_wp2_with fail
        have X0 := fun x : XW wr => cellRow (x.ext.heap HPK.out (fun h => h)) 0 (.int .i64 ((ln : Int))) rfl
        have X1 := fun x : XW wr => cellRow (x.ext.heap HPK.out (fun h => h)) 1 (.int .i64 ((i : Int) + (k : Int) - (bg : Int) + 1)) rfl
        refine wp_region_par (α := Nat) 7 [(7, 2)] [[], [], [], [], [2, 3], [1, 2, 3, 4], [0, 1, 2, 3, 4, 5], [0, 1, 2, 3, 4, 5, 6]]
          [none, none, none, none, none, none, some (annVal (.agg #[.int .i64 ((ln : Int)), .int .i64 ((i : Int) + (k : Int) - (bg : Int) + 1 + 1)]))] [false, false, false, false, false, false, true] (by kernel_rfl) (by kernel_rfl) rfl (fun _ _ d _ _ h => by cases d <;> exact h) ?_
        simp only [List.take_succ_cons, List.take_zero, pickO, List.getElem?_cons_zero, List.getElem?_cons_succ]
        iterate 6 (refine can_pure0 rfl (fun K hK => ?_); go_simp; refine hK _ ?_; clear hK K)
        refine can_mem _ rfl (by go_simp) (fun W hW hG K hK => ?_) (fun K x2 hK => ?_)
        · go_simp
          refine (HMV.out W).mono ?_
          rintro e w' ⟨rfl, h⟩
          exact hK default w' h trivial
        refine hK _ ?_; clear hK K
        dsimp only [annVal]
        refine can_end (fun wz hW hG => ?_)
        clear hG X0 X1
        have HBZ := Lib.hid (hW.heap HPK.out (fun h => h))
        have HWZ := Lib.hid hW
        clear hW
        have p0 := cellRow HBZ.out 0 (.int .i64 ((ln : Int))) rfl
        have p1 := cellRow HBZ.out 1 (.int .i64 ((i : Int) + (k : Int) - (bg : Int) + 1)) rfl
        have fp := fun j => frozenRow HBZ.out j
        refine mix_two ?_
        intro K hK
        go_simp
        refine hK _ _ ?_
        clear hK K
        simp only [wpMix]
        have hb := st2_heap HBZ.out (.int .i64 ((ln : Int))) (.int .i64 ((i : Int) + (k : Int) - (bg : Int) + 1 + 1))
        have hu := st2_upd wz pb (.int .i64 ((ln : Int))) (.int .i64 ((i : Int) + (k : Int) - (bg : Int) + 1 + 1))
        have HBN := Lib.hid hb
        have HUN : Hid (Upd (fun k => k = pb) wr ((wz.setCell ⟨pb, 0, none⟩ (.int .i64 ((ln : Int)))).setCell ⟨pb, 1, none⟩ (.int .i64 ((i : Int) + (k : Int) - (bg : Int) + 1 + 1)))) := Lib.hid ((HWZ.out.mono (fun _ _ h => h.elim)).trans hu)
        clear hb hu p0 p1 fp HBZ HWZ
        generalize ((wz.setCell ⟨pb, 0, none⟩ (.int .i64 ((ln : Int)))).setCell ⟨pb, 1, none⟩ (.int .i64 ((i : Int) + (k : Int) - (bg : Int) + 1 + 1))) = wy at *
        go_wp2_with fail
        go_roundg (y.length - (k + 1))
        case measure => omega
        case rel => exact ⟨k + 1, by go_num, rfl, by omega, Lib.hid (by rw [show (i : Int) + ((k + 1 : Nat) : Int) - (bg : Int) + 1 = (i : Int) + (k : Int) - (bg : Int) + 1 + 1 by omega]; exact HBN.out), Lib.hid (HUK.out.trans HUN.out)⟩
      · obtain rfl : y.length = k := by omega
        have z2 : decide ((y.length : Int) < (y.length : Int)) = false := decide_eq_false (by omega)
        have z2' : decide (y.length < y.length) = false := decide_eq_false (by omega)
        have jw : IntKind.i64.wrap ((i : Int) + (y.length : Int)) = (i : Int) + (y.length : Int) := IntWalk.i64_in _ (by omega)
        have hsk := HUK.out.size
        clear hkn
        go_wp2_with fail
        go_roundg (s.size - (i + y.length))
        case measure => omega
        case rel => exact ⟨m, i + y.length, ln, bg, _, xa, xc, by simp, by go_num, rfl, by omega, by omega, by omega, by simp; omega, by omega, HR5, Lib.hid (own_kept HOX.out HUK.out (fun j hj e => by have := (HOX.out.lt j hj).1; omega)), Lib.hid (by rw [show ((i + y.length : Nat) : Int) - (bg : Int) + 1 = (i : Int) + (y.length : Int) - (bg : Int) + 1 by omega]; exact HPK.out), Lib.hid (HUK.out.heap HRX.out (by omega)), Lib.hid (HEX.out.trans' HUK.out (fun j hj e => by omega)), Lib.hid (by omega)⟩

end Go.Proofs.YtjjaknmnhhfjeaaGreatDoor
