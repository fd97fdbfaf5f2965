/- workload.Generate. -/
import Derived.Test.YthpekfpeoglbgaaGreatDoorW16
import Derived.Test.YthpekfpeoglbgaaGreatDoorL3
import Derived.IntWalk
import Derived.Test.YthpekfpeoglbgaaGreatDoorW14
import Derived.Test.YthpekfpeoglbgaaGreatDoorW11
import Derived.Outline
namespace Go.Proofs.YthpekfpeoglbgaaGreatDoor
open Go.RowKit Go.Hw
set_option linter.unusedVariables false
set_option linter.unusedSimpArgs false

set_option maxRecDepth 100000 in
set_option maxHeartbeats 1000000 in
theorem gen_bad1 (S : Nat → Prop) (p : Prof) (wv : Value) (w : World) (h : NumR S w wv p.ws) (hl : p.ws.length ≤ 100000000) (seed n : Int) (hv : validP p = false) : Calls Tryz.prog 16 #[.agg #[.int .i64 p.kind, wv, .int .i64 p.low, .int .i64 p.high], .int .i64 seed, .int .i64 n] w fun e w' => e = .returned (.tuple #[.slice none 0 0, .int .i64 1]) ∧ Ext w w' := by
  obtain ⟨a, cap, hv⟩ := h.shape
  subst hv
  have HN := Lib.hid h
  have hu : Ext w (w.alloc (.cells #[.int .i64 p.kind, .slice a p.ws.length cap, .int .i64 p.low, .int .i64 p.high] 51)) := (Upd.refl _ w).alloc _
  have HU := Lib.hid hu
  have hB : (w.alloc (.cells #[.int .i64 p.kind, .slice a p.ws.length cap, .int .i64 p.low, .int .i64 p.high] 51)).heap[w.heap.size]? = some (.cells #[.int .i64 p.kind, .slice a p.ws.length cap, .int .i64 p.low, .int .i64 p.high] 51) := alloc0 _ _
  have HB := Lib.hid hB
  have HV : Hid (∀ W, Ext w W → Calls Tryz.prog 40 #[.agg #[.int .i64 p.kind, .slice a p.ws.length cap, .int .i64 p.low, .int .i64 p.high]] W fun e w' => e = .returned (.bool (validP p)) ∧ Ext W w') := fun W hW => vp_any S p _ W (HN.out.kept hW (fun _ _ h => h)) hl
  have c0 := cellRow hB 0 (.int .i64 p.kind) rfl
  have c1 := cellRow hB 1 (.slice a p.ws.length cap) rfl
  have c2 := cellRow hB 2 (.int .i64 p.low) rfl
  have c3 := cellRow hB 3 (.int .i64 p.high) rfl
  have HK : Hid (∀ W, Calls Tryz.prog 38 #[.int .i64 seed] W fun e w' => e = .returned (.bool (seedB seed)) ∧ W = w') := fun W => seeded_any seed W
  clear h hu hB
  generalize hm : p.ws.length = m at *
  have HM := Lib.hid hm
  clear hm
  rw [hv] at HV
  clear hv
  go_enter Tryz.func16, Tryz.ntmps16
  go_wp2_with fail
  refine (HV.out _ HU.out).mono ?_
  rintro e w2 ⟨rfl, h2⟩
  have H2 := Lib.hid (HU.out.ext h2)
  clear h2
  go_wp2_with fail
  go_ret2
  exact ⟨rfl, H2.out⟩
set_option maxRecDepth 100000 in
set_option maxHeartbeats 1000000 in
theorem gen_bad2 (S : Nat → Prop) (p : Prof) (wv : Value) (w : World) (h : NumR S w wv p.ws) (hl : p.ws.length ≤ 100000000) (seed n : Int) (hv : validP p = true) (hs : ¬ (seedB seed = true ∧ 0 ≤ n ∧ n ≤ 2000)) : Calls Tryz.prog 16 #[.agg #[.int .i64 p.kind, wv, .int .i64 p.low, .int .i64 p.high], .int .i64 seed, .int .i64 n] w fun e w' => e = .returned (.tuple #[.slice none 0 0, .int .i64 2]) ∧ Ext w w' := by
  obtain ⟨a, cap, hv⟩ := h.shape
  subst hv
  have HN := Lib.hid h
  have hu : Ext w (w.alloc (.cells #[.int .i64 p.kind, .slice a p.ws.length cap, .int .i64 p.low, .int .i64 p.high] 51)) := (Upd.refl _ w).alloc _
  have HU := Lib.hid hu
  have hB : (w.alloc (.cells #[.int .i64 p.kind, .slice a p.ws.length cap, .int .i64 p.low, .int .i64 p.high] 51)).heap[w.heap.size]? = some (.cells #[.int .i64 p.kind, .slice a p.ws.length cap, .int .i64 p.low, .int .i64 p.high] 51) := alloc0 _ _
  have HB := Lib.hid hB
  have HV : Hid (∀ W, Ext w W → Calls Tryz.prog 40 #[.agg #[.int .i64 p.kind, .slice a p.ws.length cap, .int .i64 p.low, .int .i64 p.high]] W fun e w' => e = .returned (.bool (validP p)) ∧ Ext W w') := fun W hW => vp_any S p _ W (HN.out.kept hW (fun _ _ h => h)) hl
  have c0 := cellRow hB 0 (.int .i64 p.kind) rfl
  have c1 := cellRow hB 1 (.slice a p.ws.length cap) rfl
  have c2 := cellRow hB 2 (.int .i64 p.low) rfl
  have c3 := cellRow hB 3 (.int .i64 p.high) rfl
  have HK : Hid (∀ W, Calls Tryz.prog 38 #[.int .i64 seed] W fun e w' => e = .returned (.bool (seedB seed)) ∧ W = w') := fun W => seeded_any seed W
  clear h hu hB
  generalize hm : p.ws.length = m at *
  have HM := Lib.hid hm
  clear hm
  rw [hv] at HV
  clear hv
  cases hk : seedB seed with
  | false =>
    rw [hk] at HK
    clear hs hk
    go_enter Tryz.func16, Tryz.ntmps16
    go_wp2_with fail
    refine (HV.out _ HU.out).mono ?_
    rintro e w2 ⟨rfl, h2⟩
    have H2 := Lib.hid (HU.out.ext h2)
    clear h2
    go_wp2_with fail
    refine (HK.out _).mono ?_
    rintro e w3 ⟨rfl, rfl⟩
    go_wp2_with fail
    go_ret2
    exact ⟨rfl, H2.out⟩
  | true =>
    rw [hk] at HK hs
    by_cases h1 : n < 0
    · clear hs hk
      go_enter Tryz.func16, Tryz.ntmps16
      go_wp2_with fail
      refine (HV.out _ HU.out).mono ?_
      rintro e w2 ⟨rfl, h2⟩
      have H2 := Lib.hid (HU.out.ext h2)
      clear h2
      go_wp2_with fail
      refine (HK.out _).mono ?_
      rintro e w3 ⟨rfl, rfl⟩
      go_wp2_with fail
      go_ret2
      exact ⟨rfl, H2.out⟩
    · have h3 : 2000 < n := by
        by_cases h : 2000 < n
        · exact h
        · exact absurd ⟨rfl, by omega, by omega⟩ hs
      clear hs hk
      go_enter Tryz.func16, Tryz.ntmps16
      go_wp2_with fail
      refine (HV.out _ HU.out).mono ?_
      rintro e w2 ⟨rfl, h2⟩
      have H2 := Lib.hid (HU.out.ext h2)
      clear h2
      go_wp2_with fail
      refine (HK.out _).mono ?_
      rintro e w3 ⟨rfl, rfl⟩
      go_wp2_with fail
      go_ret2
      exact ⟨rfl, H2.out⟩

theorem gPos_pos (p : Prof) (seed : Int) (t : Nat) : 1 ≤ gPos p seed t := by
  induction t with
  | zero => exact Nat.le_refl _
  | succ t ih => unfold gPos gAt; split <;> omega
/-- the program's table of arities -/
def aTb (kind : Int) (j : Nat) : Int := if charsB kind ((j : Int) + 1) then 0 else ar kind ((j : Int) + 1)
set_option maxRecDepth 100000 in
set_option maxHeartbeats 4000000 in
theorem gen_ok (S : Nat → Prop) (p : Prof) (wv : Value) (w : World) (h : NumR S w wv p.ws) (hl : p.ws.length ≤ 100000000) (seed : Int) (n : Nat) (hv : validP p = true) (hs : seedB seed = true) (hn : n ≤ 2000) : Calls Tryz.prog 16 #[.agg #[.int .i64 p.kind, wv, .int .i64 p.low, .int .i64 p.high], .int .i64 seed, .int .i64 n] w fun e w' => ∃ v L, e = .returned (.tuple #[v, .int .i64 0]) ∧ OpsR (fun k => k < w'.heap.size) w' v L ∧ opsL L = gens p seed n ∧ Ext w w' := by
  obtain ⟨a, cap, hv⟩ := h.shape
  subst hv
  have HN := Lib.hid h
  have hu : Ext w (w.alloc (.cells #[.int .i64 p.kind, .slice a p.ws.length cap, .int .i64 p.low, .int .i64 p.high] 51)) := (Upd.refl _ w).alloc _
  have HU := Lib.hid hu
  have hB : (w.alloc (.cells #[.int .i64 p.kind, .slice a p.ws.length cap, .int .i64 p.low, .int .i64 p.high] 51)).heap[w.heap.size]? = some (.cells #[.int .i64 p.kind, .slice a p.ws.length cap, .int .i64 p.low, .int .i64 p.high] 51) := alloc0 _ _
  have HB := Lib.hid hB
  have HV : Hid (∀ W, Ext w W → Calls Tryz.prog 40 #[.agg #[.int .i64 p.kind, .slice a p.ws.length cap, .int .i64 p.low, .int .i64 p.high]] W fun e w' => e = .returned (.bool (validP p)) ∧ Ext W w') := fun W hW => vp_any S p _ W (HN.out.kept hW (fun _ _ h => h)) hl
  have c0 := cellRow hB 0 (.int .i64 p.kind) rfl
  have c1 := cellRow hB 1 (.slice a p.ws.length cap) rfl
  have c2 := cellRow hB 2 (.int .i64 p.low) rfl
  have c3 := cellRow hB 3 (.int .i64 p.high) rfl
  have HK : Hid (∀ W, Calls Tryz.prog 38 #[.int .i64 seed] W fun e w' => e = .returned (.bool (seedB seed)) ∧ W = w') := fun W => seeded_any seed W
  clear h hu hB
  generalize hm : p.ws.length = m at *
  have HM := Lib.hid hm
  clear hm
  rw [hv] at HV
  rw [hs] at HK
  have vp := (validP_iff p).1 hv
  obtain ⟨i0, hi, hz0, hz1, hz2⟩ := info_parts info3
  obtain ⟨i5, hi5, hz50, hz51, hz52⟩ := info_parts info50
  have HMK : Hid (∀ W : World, (Instr.makeSlice 38 (.int .i64 (m : Int)) (.int .i64 (m : Int))).run Tryz.prog W = .ok (.slice (some ⟨W.heap.size, 0, none⟩) m m) (W.alloc (.cells (madeCells #[.int .i64 0] m) 3))) :=
    fun W => made_one Tryz.prog 38 3 i0 (.int .i64 0) Tryz.underlying38 hi hz0 hz1 rfl (by rw [hz2]; omega) m hl W
  have hsd : 1 ≤ seed ∧ seed < 2147483647 := by unfold seedB at hs; simpa using hs
  have HS : Hid (∀ k, 0 ≤ sq seed k ∧ sq seed k < 2147483647) := sq_bd seed (by omega) (by omega)
  have hm8 : m ≤ 8 := by have := vp.len; have := nW_le p.kind; have := HM.out; omega
  have VP' := Lib.hid vp
  have HWb : Hid (∀ x ∈ p.ws, 0 ≤ x ∧ x ≤ 2000) := vp.ws
  have Hsb := Lib.hid (sum_take_bd p.ws vp.ws)
  have HML : Hid (m = nW p.kind) := by show m = _; rw [← HM.out]; exact vp.len
  have HCH : Hid (∀ (c : Int) W, Calls Tryz.prog 41 #[.int .i64 p.kind, .int .i64 c] W fun e w' => e = .returned (.bool (charsB p.kind c)) ∧ W = w') := fun c W => chars_any p.kind c W
  have HAR : Hid (∀ (c : Int) W, 1 ≤ c → c ≤ nW p.kind → 0 ≤ ar p.kind c → Calls Tryz.prog 42 #[.int .i64 p.kind, .int .i64 c] W fun e w' => e = .returned (.int .i64 (ar p.kind c)) ∧ Ext W w') := fun c W h1 h2 h3 => arity_any p.kind c W h1 h2 h3
  have HARN : Hid (∀ c : Int, 1 ≤ c → c ≤ nW p.kind → (ar p.kind c < 0 ↔ charsB p.kind c = true)) := fun c h1 h2 => ar_neg p.kind c h1 h2
  have hmk := HMK.out
  clear hv hs vp hsd
  go_enter Tryz.func16, Tryz.ntmps16
  go_wp2_with fail
  refine (HV.out _ HU.out).mono ?_
  rintro e w2 ⟨rfl, h2⟩
  have H2 := Lib.hid (HU.out.ext h2)
  have d0 := h2.cell c0 (fun h => h)
  have d1 := h2.cell c1 (fun h => h)
  have d2 := h2.cell c2 (fun h => h)
  have d3 := h2.cell c3 (fun h => h)
  have HB2 := Lib.hid (h2.heap HB.out (fun h => h))
  have hbl : w.heap.size < w2.heap.size := (Array.getElem?_eq_some_iff.1 HB2.out).1
  have tn0 : decide ((n : Int) < 0) = false := decide_eq_false (by omega)
  have tn1 : decide ((2000 : Int) < n) = false := decide_eq_false (by omega)
  clear h2 c0 c1 c2 c3
  go_wp2_with fail
  refine (HK.out _).mono ?_
  rintro e w3 ⟨rfl, rfl⟩
  go_wp2_with fail
  generalize hb : w.heap.size = b at *
  have Hb := Lib.hid hb
  clear hb
  have HT0 : Hid ((w2.alloc (.cells (madeCells #[.int .i64 0] m) 3)).heap[w2.heap.size]? = some (.cells (madeCells #[.int .i64 0] m) 3)) := alloc0 _ _
  have HE0 : Hid (Ext w2 (w2.alloc (.cells (madeCells #[.int .i64 0] m) 3))) := (Upd.refl _ w2).alloc _
  have Hms : Hid ((madeCells #[Value.int .i64 0] m).size = m) := by show _ = _; rw [size_madeCells]
  clear hmk
  have Hsum8 : Hid (∀ j, (p.ws.take j).sum ≤ 16000) := fun j => by
    have h1 := (Hsb.out j).2
    have h2 : (p.ws.take j).length ≤ p.ws.length := by rw [List.length_take]; omega
    have := HM.out
    omega
  generalize hA : w2.heap.size = A at *
  have HA := Lib.hid hA
  clear hA
  generalize w2.alloc (.cells (madeCells #[.int .i64 0] m) 3) = w4 at *
  go_loopg [8, 10, 39] m (fun gk s8 s10 i wr => ∃ (j : Nat) (arr : Array Value), i = .int .i64 j ∧ s8 = .int .i64 (p.ws.take j).sum ∧ gk = m - j ∧ j ≤ m ∧ Hid (Ext w2 wr) ∧ Hid (wr.heap[A]? = some (.cells arr 3)) ∧ Hid (arr.size = m ∧ ∀ i, i < j → arr[i]? = some (.int .i64 (aTb p.kind i))) ∧ Hid (∀ i, j ≤ i → i < m → arr[i]? = some (.int .i64 0)))
  case atStart => exact ⟨0, _, rfl, rfl, rfl, Nat.zero_le _, HE0.out, HT0.out, ⟨Hms.out, fun i h => absurd h (Nat.not_lt_zero _)⟩, fun i _ h => made_get _ _ _ h⟩
  case round =>
    obtain ⟨j, arr, rfl, rfl, rfl, hj, HE, HT, Harr, Hzero⟩ := hrel
    have d0' := HE.out.cell d0 (fun h => h)
    have d1' := HE.out.cell d1 (fun h => h)
    have d2' := HE.out.cell d2 (fun h => h)
    have d3' := HE.out.cell d3 (fun h => h)
    by_cases hlt : j < m
    · have hlx : j < p.ws.length := by rw [HM.out]; exact hlt
      obtain ⟨g, off, cap', hv, hcc, hg, hcell⟩ := (HN.out.kept (H2.out.ext HE.out) (fun _ _ h => h)).pos (by omega)
      rw [HM.out] at hv
      injection hv with q1 q2 q3
      subst q1; subst q3
      have hcel : wr.cell? ⟨g, off + j, none⟩ = some (.int .i64 (p.ws.getD j 0)) := by rw [← nums_get p.ws j hlx]; exact hcell j (by omega)
      have i0' : (0 : Int) ≤ (j : Int) := by omega
      have i1' : (j : Int) < (m : Int) := by omega
      have Hst := Lib.hid (sum_take p.ws j hlx)
      have hx := HWb.out _ (getD_mem0 hlx)
      have hs1 := (Hsb.out j).1
      have hs2 := Hsum8.out j
      have HC := Lib.hid (HCH.out ((j : Int) + 1) wr)
      have HAR2 := Lib.hid (HAR.out ((j : Int) + 1))
      have HARN2 := Lib.hid (HARN.out ((j : Int) + 1) (by omega) (by have := HML.out; omega))
      have HTb : Hid (aTb p.kind j = if charsB p.kind ((j : Int) + 1) then 0 else ar p.kind ((j : Int) + 1)) := rfl
      have tcell : wr.cell? ⟨A, j, none⟩ = some (.int .i64 0) := cellRow HT.out j _ (Hzero.out j (Nat.le_refl _) hlt)
      have Hnn : Hid ((j : Int) + 1 ≤ nW p.kind) := by have := HML.out; show _ ≤ _; omega
      clear hcell hg hcc q2 hlx
      generalize hT1 : (p.ws.take j).sum = T1 at *
      have HT1 := Lib.hid hT1
      clear hT1
      generalize p.ws.getD j 0 = X at *
      cases hch : charsB p.kind ((j : Int) + 1) with
      | true =>
        rw [hch] at HC HTb
        clear hch tcell
        go_wp2_with fail
        refine HC.out.mono ?_
        rintro e w5 ⟨rfl, rfl⟩
        go_wp2_with fail
        go_roundg (m - (j + 1))
        case measure => omega
        case rel =>
          refine ⟨j + 1, arr, by go_num, by rw [Hst.out], rfl, by omega, HE, HT, ⟨Harr.out.1, fun i hi => ?_⟩, fun i h1 h2 => Hzero.out i (by omega) h2⟩
          by_cases e : i = j
          · subst e; rw [HTb.out]; exact Hzero.out i (Nat.le_refl _) hlt
          · exact Harr.out.2 i (by omega)
      | false =>
        have hge : 0 ≤ ar p.kind ((j : Int) + 1) := by
          rcases Int.lt_or_le (ar p.kind ((j : Int) + 1)) 0 with h | h
          · have := HARN2.out.1 h; rw [hch] at this; cases this
          · exact h
        have HC38 := Lib.hid (HAR2.out wr (by omega) Hnn.out hge)
        rw [hch] at HC HTb
        clear hch hge
        generalize ar p.kind ((j : Int) + 1) = Q at *
        go_wp2_with fail
        refine HC.out.mono ?_
        rintro e w5 ⟨rfl, rfl⟩
        go_wp2_with fail
        refine HC38.out.mono ?_
        rintro e w6 ⟨rfl, h6⟩
        have HT6 := h6.heap HT.out (fun h => h)
        have t6 : w6.cell? ⟨A, j, none⟩ = some (.int .i64 0) := cellRow HT6 j _ (Hzero.out j (Nat.le_refl _) hlt)
        have f6 := frozenRow HT6 j
        have H6 := Lib.hid (HE.out.ext h6)
        have HT7 := Lib.hid (setBlock HT6 j (.int .i64 Q))
        clear h6 HT6
        go_wp2_with fail
        go_roundg (m - (j + 1))
        case measure => omega
        case rel =>
          refine ⟨j + 1, _, by go_num, by rw [Hst.out], rfl, by omega, H6.out.setNew (by have := HA.out; omega) _, HT7.out, ⟨by rw [Array.size_setIfInBounds]; exact Harr.out.1, fun i hi => ?_⟩, fun i h1 h2 => ?_⟩
          · by_cases e : i = j
            · subst e; rw [HTb.out, Array.getElem?_setIfInBounds_self_of_lt (by rw [Harr.out.1]; exact hlt)]; rfl
            · rw [Array.getElem?_setIfInBounds_ne (by omega)]; exact Harr.out.2 i (by omega)
          · rw [Array.getElem?_setIfInBounds_ne (by omega)]; exact Hzero.out i (by omega) h2
    · obtain rfl : j = m := by omega
      have hse : (p.ws.take j).sum = p.ws.sum := by rw [List.take_of_length_le (by rw [HM.out]; exact Nat.le_refl _)]
      rw [hse]
      have hsp := VP'.out.sum_pos
      have hsl := VP'.out.sum_le
      clear hse
      obtain ⟨SM, hSM⟩ : ∃ SM, SM = p.ws.sum := ⟨_, rfl⟩
      rw [← hSM] at hsp hsl ⊢
      have HSM := Lib.hid hSM
      clear hSM
      have hj0 : 0 < j := by have := VP'.out.some; obtain ⟨x, hx, _⟩ := this; have := List.length_pos_of_mem hx; have := HM.out; omega
      obtain ⟨g, off, cap', hv, hcc, hg, hcell⟩ := HN.out.pos (by rw [HM.out]; exact hj0)
      rw [HM.out] at hv
      injection hv with q1 q2 q3
      subst q1; subst q3
      have hcel : ∀ i, i < j → w.cell? ⟨g, off + i, none⟩ = some (.int .i64 (p.ws.getD i 0)) := fun i hi => by
        have hix : i < p.ws.length := by rw [HM.out]; exact hi
        rw [← nums_get p.ws i hix]; exact hcell i (by omega)
      have hgl : g < w.heap.size := World.block_lt_of_cell? w _ (hcel 0 hj0)
      have hsz0 := HE.out.size
      have hsz1 := H2.out.size
      have HA2 := HA.out
      have hE6 : Ext wr (wr.alloc (.cells #[.int .i64 seed] 87)) := (Upd.refl _ wr).alloc _
      have hQ : SeqB (wr.alloc (.cells #[.int .i64 seed] 87)) wr.heap.size seed := alloc0 _ _
      have hs6 : (wr.alloc (.cells #[.int .i64 seed] 87)).heap.size = wr.heap.size + 1 := by simp
      have HQ := Lib.hid hQ
      have HX6 := Lib.hid (HE.out.ext hE6)
      have HT6 := Lib.hid (hE6.heap HT.out (fun h => h))
      have Hs6 := Lib.hid hs6
      have HTA := Lib.hid Harr.out
      have hAs : A < wr.heap.size := (Array.getElem?_eq_some_iff.1 HT.out).1
      have hbs : b < wr.heap.size := by omega
      have hgs : g < wr.heap.size := by omega
      have hws : w.heap.size ≤ wr.heap.size := by omega
      clear hcell hg hcc q2 hE6 hQ hs6 HT Hzero Harr d0 d1 d2 d3 HT0 HE0 tn0 tn1 HCH HAR HMK HV HK Hms
      go_wp2_with fail
      generalize hsB : wr.heap.size = sB at *
      have HsB := Lib.hid hsB
      clear hsB
      generalize wr.alloc (.cells #[.int .i64 seed] 87) = w6 at *
      have HBx : Hid (∀ W, Upd (fun k => k = sB) w6 W → W.heap[b]? = some (.cells #[.int .i64 p.kind, .slice (some ⟨g, off, none⟩) j cap, .int .i64 p.low, .int .i64 p.high] 51)) := fun W hW =>
        hW.heap (HX6.out.heap HB2.out (fun h => h)) (by omega)
      have HTx : Hid (∀ W, Upd (fun k => k = sB) w6 W → W.heap[A]? = some (.cells arr 3)) := fun W hW => hW.heap HT6.out (by omega)
      have HWx : Hid (∀ W, Upd (fun k => k = sB) w6 W → ∀ i, i < j → W.cell? ⟨g, off + i, none⟩ = some (.int .i64 (p.ws.getD i 0))) := fun W hW i hi =>
        hW.cell ((H2.out.ext HX6.out).cell (hcel i hi) (fun h => h)) (by show ¬ g = sB; omega)
      have HCH : Hid (∀ (c : Int) W, Calls Tryz.prog 41 #[.int .i64 p.kind, .int .i64 c] W fun e w' => e = .returned (.bool (charsB p.kind c)) ∧ W = w') := fun c W => chars_any p.kind c W
      have HX0 := Lib.hid (H2.out.ext HX6.out)
      clear d0' d1' d2' d3' hcel hsz0 hsz1 HE HX6 HT6 HB2 HB HU
      go_loopg [13, 65] n (fun gk out i wr => ∃ (t : Nat) (L : List OpV), i = .int .i64 t ∧ gk = n - t ∧ t ≤ n ∧ Hid (SeqB wr sB (sq seed (gPos p seed t - 1))) ∧ Hid (Upd (fun k => k = sB) w6 wr) ∧ Hid (GenR w6.heap.size sB wr out L) ∧ Hid (opsL L = gens p seed t))
      case atStart => exact ⟨0, [], rfl, rfl, Nat.zero_le _, HQ.out, Upd.refl _ _, GenR.nil _ _ _, rfl⟩
      case round =>
        obtain ⟨t, L, rfl, rfl, ht, HQt, HUt, HGt, HLt⟩ := hrel
        by_cases hlt : t < n
        · obtain ⟨Q, hQ⟩ : ∃ Q, gPos p seed t = Q + 1 := ⟨gPos p seed t - 1, by have := gPos_pos p seed t; omega⟩
          have HQe := Lib.hid hQ
          rw [hQ] at HQt
          clear hQ
          have HNX := Lib.hid (next_any sB (sq seed Q) wr HQt.out (HS.out Q).1 (HS.out Q).2)
          have hnx : nx (sq seed Q) = sq seed (Q + 1) := rfl
          rw [hnx] at HNX
          have hb7 := HS.out (Q + 1)
          generalize hX7 : sq seed (Q + 1) = X7 at *
          have HX7 := Lib.hid hX7
          clear hX7 hnx
          go_wp2_with fail
          refine HNX.out.mono ?_
          rintro e w7 ⟨rfl, h7, u7⟩
          have HQ7 := Lib.hid h7
          have HU7 := Lib.hid u7
          have HU67 := Lib.hid (HUt.out.trans u7)
          have e1 : w7.cell? ⟨b, 1, none⟩ = some (.slice (some ⟨g, off, none⟩) j cap) := cellRow (HBx.out w7 HU67.out) 1 _ rfl
          have e0 : w7.cell? ⟨b, 0, none⟩ = some (.int .i64 p.kind) := cellRow (HBx.out w7 HU67.out) 0 _ rfl
          clear h7 u7
          have hxm0 : 0 ≤ X7 % SM := Int.emod_nonneg _ (by omega)
          have hxm1 : X7 % SM < SM := Int.emod_lt_of_pos _ hsp
          have hb70 := hb7.1
          have hb71 := hb7.2
          go_wp2_with fail
          have HX8 : Hid (pick p.ws (X7 % SM) = pick p.ws (sq seed (Q + 1) % p.ws.sum)) := by show _ = _; rw [HSM.out, HX7.out]
          generalize X7 % SM = X8 at *
          obtain ⟨wo, hwo⟩ : ∃ wo, wo = wr := ⟨_, rfl⟩
          subst hwo
          go_loopg [14, 15] j (fun gk x c wq => ∃ cc : Nat, c = .int .i64 cc ∧ x = .int .i64 (X8 - (p.ws.take cc).sum) ∧ gk = j - cc ∧ cc ≤ j ∧ wq = w7 ∧ Hid (0 ≤ X8 - (p.ws.take cc).sum ∧ X8 - (p.ws.take cc).sum < (p.ws.drop cc).sum ∧ pick p.ws X8 = pick (p.ws.drop cc) (X8 - (p.ws.take cc).sum) + cc))
          case atStart => exact ⟨0, rfl, by simp, rfl, Nat.zero_le _, rfl, by simp; rw [← HSM.out]; exact ⟨hxm0, hxm1⟩⟩
          case round =>
            obtain ⟨cc, rfl, rfl, rfl, hcc, rfl, Hj⟩ := hrel
            have hltc := drop_pos p.ws cc _ Hj.out.1 Hj.out.2.1
            have hltj : cc < j := by have := HM.out; omega
            have hcel := HWx.out _ HU67.out cc hltj
            have i0' : (0 : Int) ≤ (cc : Int) := by omega
            have i1' : (cc : Int) < (j : Int) := by omega
            have Hst := Lib.hid (sum_take p.ws cc hltc)
            have Hsd := Lib.hid (sum_drop p.ws cc hltc)
            have Hpd := Lib.hid (pick_drop p.ws cc (X8 - (p.ws.take cc).sum) hltc)
            have hx := HWb.out _ (getD_mem0 hltc)
            have hy := (Hsb.out cc).1
            have hy2 := Hsum8.out cc
            generalize hT1 : (p.ws.take cc).sum = T1 at *
            have HT1 := Lib.hid hT1
            clear hT1
            generalize p.ws.getD cc 0 = XW at *
            clear hltc
            by_cases hgt : X8 - T1 < XW
            · have hpk : pick p.ws X8 = cc := by
                have h3 := Hj.out.2.2
                rw [Hpd.out, if_pos (by omega)] at h3
                rw [h3]; omega
              have HPK := Lib.hid hpk
              have HGC : Hid (gCode p seed (Q + 1) = (cc : Int) + 1) := by show _ = _; unfold gCode; rw [← HX8.out, HPK.out]
              have HCC := Lib.hid (HCH.out ((cc : Int) + 1))
              have hcn : (cc : Int) + 1 ≤ nW p.kind := by have := HML.out; omega
              clear hpk Hpd Hsd Hst Hj
              have htb := cellRow (HTx.out _ HU67.out) cc _ (HTA.out.2 cc hltj)
              have hAw : A < wr.heap.size := (Array.getElem?_eq_some_iff.1 (HTx.out _ HU67.out)).1
              have hbw : b < wr.heap.size := (Array.getElem?_eq_some_iff.1 (HBx.out _ HU67.out)).1
              have hsw : sB < wr.heap.size := (Array.getElem?_eq_some_iff.1 HQ7.out).1
              have hO8 : (wr.alloc (.cells #[.int .i64 ((cc : Int) + 1), .slice none 0 0] 40)).heap[wr.heap.size]? = some (.cells #[.int .i64 ((cc : Int) + 1), .slice none 0 0] 40) := alloc0 _ _
              have hU8 : Upd (fun k => k = sB) wo (wr.alloc (.cells #[.int .i64 ((cc : Int) + 1), .slice none 0 0] 40)) := HU7.out.alloc _
              have hQ8 : SeqB (wr.alloc (.cells #[.int .i64 ((cc : Int) + 1), .slice none 0 0] 40)) sB X7 := allocOld HQ7.out _
              have hZ8 : wr.heap.size + 1 ≤ (wr.alloc (.cells #[.int .i64 ((cc : Int) + 1), .slice none 0 0] 40)).heap.size := by simp
              have HO8 := Lib.hid hO8
              have HU8 := Lib.hid hU8
              have HQ8 := Lib.hid hQ8
              have HZ8 := Lib.hid hZ8
              have HNEG := Lib.hid (HARN.out ((cc : Int) + 1) (by omega) hcn)
              have HARB := Lib.hid (ar_bd p.kind ((cc : Int) + 1))
              have HTbE : Hid (aTb p.kind cc = if charsB p.kind ((cc : Int) + 1) then 0 else ar p.kind ((cc : Int) + 1)) := rfl
              have HGK : Hid (gK p seed (Q + 1) = if charsB p.kind ((cc : Int) + 1) then (1 + sq seed (Q + 1 + 1) % 3).toNat else (ar p.kind ((cc : Int) + 1)).toNat) := by show _ = _; unfold gK gChr; rw [HGC.out]
              have HGT : Hid (gAt p seed (Q + 1) = if charsB p.kind ((cc : Int) + 1) then Q + 1 + 2 else Q + 1 + 1) := by show _ = _; unfold gAt gChr; rw [HGC.out]
              clear hO8 hU8 hQ8 hZ8
              cases hch : charsB p.kind ((cc : Int) + 1) with
              | true =>
                rw [hch] at HCC HTbE HGK HGT
                have HE := Lib.hid hch
                clear hch
                have hnx9 : nx X7 = sq seed (Q + 1 + 1) := by rw [← HX7.out]; rfl
                have hb9 := HS.out (Q + 1 + 1)
                generalize hX9 : sq seed (Q + 1 + 1) = X9 at *
                have HX9 := Lib.hid hX9
                clear hX9
                obtain ⟨KK, hKK⟩ := Int.eq_ofNat_of_zero_le (show 0 ≤ 1 + X9 % 3 by omega)
                have hKK2 : gK p seed (Q + 1) = KK := by rw [HGK.out, hKK]; rfl
                have HKK2 := Lib.hid hKK2
                have hK3 : KK ≤ 3 := by omega
                have HNX9 := Lib.hid hnx9
                clear hKK2 hnx9
                go_wp2_with fail
                refine (HCC.out _).mono ?_
                rintro e w9 ⟨rfl, rfl⟩
                generalize wr.alloc (.cells #[.int .i64 ((cc : Int) + 1), .slice none 0 0] 40) = w8 at *
                have HWO0 : Hid (wo.heap.size ≤ wr.heap.size) := HU7.out.size
                generalize hoB : wr.heap.size = oB at *
                have HoB := Lib.hid hoB
                have HWO := HWO0
                clear hoB
                have HN8 := next_any sB X7 w8 HQ8.out hb70 hb71
                rw [HNX9.out] at HN8
                have HN9 := Lib.hid HN8
                clear HN8
                go_wp2_with fail
                refine HN9.out.mono ?_
                rintro e w10 ⟨rfl, h10, u10⟩
                obtain ⟨U, hU⟩ : ∃ U, U = Q + 1 + 1 := ⟨_, rfl⟩
                have HUe := Lib.hid hU
                have HQ9 : Hid (SeqB w10 sB (sq seed U)) := by show SeqB _ _ _; rw [hU, HX9.out]; exact h10
                have HU9 := Lib.hid (HU8.out.trans u10)
                have HO9 := Lib.hid (u10.heap HO8.out (by omega))
                have HZ9 : Hid (oB + 1 ≤ w10.heap.size) := Nat.le_trans HZ8.out u10.size
                have HAT : Hid (gAt p seed (Q + 1) = U + 1) := by show _ = _; rw [HGT.out, hU]; rfl
                clear h10 u10 hU
                go_wp2_with fail
                go_loopg [102] KK (fun gk i wr => ∃ (t4 : Nat) (av : Value), i = .int .i64 t4 ∧ gk = KK - t4 ∧ t4 ≤ KK ∧ Hid (SeqB wr sB (sq seed (U + t4))) ∧ Hid (Upd (fun k => k = sB) wo wr) ∧ Hid (wr.heap[oB]? = some (.cells #[.int .i64 ((cc : Int) + 1), av] 40)) ∧ Hid (wr.ownsRow (oB + 1) 3 1 av t4 (nums (gArgs p seed (U + 1) t4))) ∧ Hid (oB + 1 ≤ wr.heap.size))
                case atStart => exact ⟨0, _, rfl, rfl, Nat.zero_le _, HQ9.out, HU9.out, HO9.out, World.ownsRow_nil _ _ _ _, HZ9.out⟩
                case round =>
                  obtain ⟨t4, av, rfl, rfl, ht4, HQ4, HU4, HO4, Hown, HZ4⟩ := hrel
                  obtain ⟨aA, cA, hav⟩ := own_shape Hown.out
                  subst hav
                  have HU64 := Lib.hid (HUt.out.trans HU4.out)
                  have hzz := HZ4.out
                  by_cases hlt4 : t4 < KK
                  · have b2 : wr.cell? ⟨b, 2, none⟩ = some (.int .i64 p.low) := cellRow (HBx.out wr HU64.out) 2 _ rfl
                    have b3 : wr.cell? ⟨b, 3, none⟩ = some (.int .i64 p.high) := cellRow (HBx.out wr HU64.out) 3 _ rfl
                    have o1 : wr.cell? ⟨oB, 1, none⟩ = some (.slice aA t4 cA) := cellRow HO4.out 1 _ rfl
                    have Hb2 := Lib.hid b2
                    have Hb3 := Lib.hid b3
                    have Ho1 := Lib.hid o1
                    have HNX4 : Hid (∀ W, SeqB W sB (sq seed (U + t4)) → Calls Tryz.prog 39 #[.pointer (some ⟨sB, 0, none⟩)] W fun e w' => e = .returned (.int .i64 (sq seed (U + (t4 + 1)))) ∧ SeqB w' sB (sq seed (U + (t4 + 1))) ∧ Upd (fun k => k = sB) W w') := fun W hW => next_any sB _ W hW (HS.out (U + t4)).1 (HS.out (U + t4)).2
                    have hbX := HS.out (U + (t4 + 1))
                    have HGA : Hid (nums (gArgs p seed (U + 1) (t4 + 1)) = nums (gArgs p seed (U + 1) t4) ++ [.int .i64 (p.low + sq seed (U + (t4 + 1)) % (p.high - p.low + 1))]) := by
                      show _ = _
                      rw [gArgs_succ, nums_append]
                      unfold gArg
                      rw [show U + 1 + t4 = U + (t4 + 1) by omega]
                      rfl
                    have hlo := VP'.out.low
                    have hhi := VP'.out.high
                    have hle := VP'.out.le
                    generalize hXn : sq seed (U + (t4 + 1)) = Xn at *
                    have HXn := Lib.hid hXn
                    clear hXn
                    generalize p.low = lo at *
                    generalize p.high = hi' at *
                    have hr0 : 0 ≤ Xn % (hi' - lo + 1) := Int.emod_nonneg _ (by omega)
                    have hr1 : Xn % (hi' - lo + 1) < hi' - lo + 1 := Int.emod_lt_of_pos _ (by omega)
                    have s1 : IntKind.i64.wrap (hi' - lo) = hi' - lo := IntWalk.i64_in _ (by omega)
                    have s2 : IntKind.i64.wrap (hi' - lo + 1) = hi' - lo + 1 := IntWalk.i64_in _ (by omega)
                    have s3 : Xn.tmod (hi' - lo + 1) = Xn % (hi' - lo + 1) := Int.tmod_eq_emod_of_nonneg hbX.1
                    have s4 : IntKind.i64.wrap (Xn % (hi' - lo + 1)) = Xn % (hi' - lo + 1) := IntWalk.i64_in _ (by omega)
                    have s5 : IntKind.i64.wrap (lo + Xn % (hi' - lo + 1)) = lo + Xn % (hi' - lo + 1) := IntWalk.i64_in _ (by omega)
                    have s6 : ¬ (hi' - lo + 1 = 0) := by omega
                    have H7 : Hid (t4 + 1 ≤ maxLen) := by show t4 + 1 ≤ maxLen; unfold maxLen; omega
                    have H7b : Hid ((t4 + 1) * 8 ≤ 140737488355328) := by show _ ≤ _; omega
                    have hsBo : sB < oB := by omega
                    have HsBo := Lib.hid hsBo
                    have HNE : Hid (∀ k, (Value.slice aA t4 cA).ownBlock = some k → ¬ k = sB ∧ ¬ k = oB) := fun k hk => by have h1 := (Hown.out.lt k hk).1; have h2 := HsBo.out; exact ⟨by omega, by omega⟩
                    have H6 : Hid (∀ u ∈ [Value.int .i64 (lo + Xn % (hi' - lo + 1))], u.oneCell' = true) := fun u hu => by simp at hu; subst hu; rfl
                    clear o1 b2 b3
                    have o1 := Ho1.out
                    have b2 := Hb2.out
                    have b3 := Hb3.out
                    go_wp2_with fail
                    have hX1 : ∀ x : XF (fun k => k = sB ∨ oB < k) wr, x.val.cell? ⟨oB, 1, none⟩ = some (.slice aA t4 cA) := fun x => x.upd.cell Ho1.out (by show ¬ (oB = sB ∨ oB < oB); have := HsBo.out; omega)
                    have hX2 : ∀ x : XF (fun k => k = sB ∨ oB < k) wr, x.val.cell? ⟨b, 2, none⟩ = some (.int .i64 lo) := fun x => x.upd.cell Hb2.out (by show ¬ (b = sB ∨ oB < b); have := HsBo.out; omega)
                    have hX3 : ∀ x : XF (fun k => k = sB ∨ oB < k) wr, x.val.cell? ⟨b, 3, none⟩ = some (.int .i64 hi') := fun x => x.upd.cell Hb3.out (by show ¬ (b = sB ∨ oB < b); have := HsBo.out; omega)
                    refine wp_region_mix [(0, 0), (1, 0), (2, 0), (3, 0), (5, 0), (6, 0), (7, 0), (8, 0), (9, 0), (10, 0), (4, 1), (11, 1), (12, 1), (13, 1), (14, 2), (15, 2), (16, 2)] 14 (fun W => ∃ x : XF (fun k => k = sB ∨ oB < k) wr, W = x.val) (by kernel_rfl) (by kernel_rfl) (fun _ _ d _ _ h => by cases d <;> exact h) ⟨⟨_, (Upd.refl _ wr).drew⟩, rfl⟩ ?_
                    simp only [pickO, List.getElem?_cons_zero, List.getElem?_cons_succ]
                    iterate 10 (refine mix_take (fun K hK => ?_); go_simp; refine hK _ ?_; clear hK K)
                    refine mix_one (fun K hK hS => ?_) ⟨⟨_, (Upd.refl _ wr).drew⟩, rfl⟩
                    go_simp
                    refine (HNX4.out _ ?_).mono ?_
                    · exact HQ4.out
                    rintro e w5 ⟨rfl, h5, u5⟩
                    have HU5 : Hid (Upd (fun k => k = sB) wr w5) := Upd.ofDrew u5
                    have HQ5 := Lib.hid h5
                    have HF5 : Hid (Upd (fun k => k = sB ∨ oB < k) wr w5) := HU5.out.mono (fun k _ h => .inl h)
                    have hO5 : (w5.alloc (.cells #[.int .i64 (lo + Xn % (hi' - lo + 1))] 3)).ownsRow (oB + 1) 3 1 (.slice aA t4 cA) t4 (nums (gArgs p seed (U + 1) t4)) := (own_kept Hown.out HU5.out (fun k hk => (HNE.out k hk).1)).alloc _
                    have HO5 := Lib.hid hO5
                    have HZ5 : Hid (oB + 1 ≤ (w5.alloc (.cells #[.int .i64 (lo + Xn % (hi' - lo + 1))] 3)).heap.size) := by
                      have h1 := HU5.out.size
                      have h2 := HZ4.out
                      rw [alloc_size]; exact Nat.le_succ_of_le (Nat.le_trans h2 h1)
                    have HN5 : Hid (∀ j u, [Value.int .i64 (lo + Xn % (hi' - lo + 1))][j]? = some u → (w5.alloc (.cells #[.int .i64 (lo + Xn % (hi' - lo + 1))] 3)).cell? ((⟨w5.heap.size, 0, none⟩ : Addr).add j) = some u) := cell_one_new _ _ _
                    clear h5 u5 hO5
                    have HS5 : Hid (∃ x : XF (fun k => k = sB ∨ oB < k) wr, w5 = x.val) := ⟨⟨_, HF5.out⟩, rfl⟩
                    have HS6 : Hid (∃ x : XF (fun k => k = sB ∨ oB < k) wr, w5.alloc (.cells #[.int .i64 (lo + Xn % (hi' - lo + 1))] 3) = x.val) := ⟨⟨_, HF5.out.alloc _⟩, rfl⟩
                    dsimp only
                    refine hK _ _ HS5.out ?_
                    clear hK K hS
                    iterate 2 (refine mix_one (fun K hK hS => ?_) HS5.out; go_simp; refine hK _ _ HS5.out ?_; clear hK K hS)
                    refine mix_one (fun K hK hS => ?_) HS5.out
                    go_simp
                    refine hK _ _ HS6.out ?_
                    clear hK K hS
                    refine mix_two (fun K hK => ?_)
                    rw [if_pos (by rfl)]
                    refine step_append_at _ (.tmp 105) (.tmp 117) 38 rfl (oB + 1) 3 i0 (.int .i64 0) 1 8 Tryz.underlying38 hi hz0 hz1 hz2 rfl (Nat.lt_succ_self 0) (.slice aA t4 cA) _ _ rfl HO5.out ⟨w5.heap.size, 0, none⟩ 1 1 [.int .i64 (lo + Xn % (hi' - lo + 1))] rfl rfl HN5.out H6.out H7.out H7b.out HZ5.out ?_
                    intro v7 w7 G7
                    obtain ⟨a7, c7, hv7⟩ := own_shape G7.own
                    subst hv7
                    have hF7s : wr.heap.size ≤ w7.heap.size := Nat.le_trans (HF5.out.alloc (.cells #[.int .i64 (lo + Xn % (hi' - lo + 1))] 3)).size G7.upd.size
                    have hU7 : Upd (fun k => k = sB) wo w7 := ((HU4.out.trans HU5.out).alloc (.cells #[.int .i64 (lo + Xn % (hi' - lo + 1))] 3)).trans' G7.upd (fun k hk e => by have := (Hown.out.lt k e).1; have := HWO.out; omega)
                    have hQ7 : SeqB w7 sB (sq seed (U + (t4 + 1))) := by
                      rw [HXn.out]
                      exact G7.upd.heap (allocOld HQ5.out _) (fun e => (HNE.out _ e).1 rfl)
                    have hB7 : w7.heap[oB]? = some (.cells #[.int .i64 ((cc : Int) + 1), .slice aA t4 cA] 40) := by
                      have h1 := HU5.out.heap HO4.out (by have := HsBo.out; omega)
                      exact G7.upd.heap (allocOld h1 _) (fun e => (HNE.out _ e).2 rfl)
                    have HB8 := Lib.hid (setBlock hB7 1 (.slice a7 (t4 + 1) c7))
                    have g0 := cellRow hB7 1 (.slice aA t4 cA) rfl
                    have gf := frozenRow hB7 1
                    have HU8 : Hid (Upd (fun k => k = sB) wo (w7.setCell ⟨oB, 1, none⟩ (.slice a7 (t4 + 1) c7))) := hU7.setCell (.inr (by have := HWO.out; exact this)) _
                    have hst : Upd (fun k => k = oB) w7 (w7.setCell ⟨oB, 1, none⟩ (.slice a7 (t4 + 1) c7)) := (Upd.refl (fun k => k = oB) w7).setCell (p := ⟨oB, 1, none⟩) (.inl rfl) _
                    have HQ8 : Hid (SeqB (w7.setCell ⟨oB, 1, none⟩ (.slice a7 (t4 + 1) c7)) sB (sq seed (U + (t4 + 1)))) := hst.heap hQ7 (by have := HsBo.out; omega)
                    have HO8' : Hid ((w7.setCell ⟨oB, 1, none⟩ (.slice a7 (t4 + 1) c7)).ownsRow (oB + 1) 3 1 (.slice a7 (t4 + 1) c7) (t4 + 1) (nums (gArgs p seed (U + 1) (t4 + 1)))) := by
                      rw [HGA.out]
                      exact own_kept G7.own hst (fun k hk e => by have := (G7.own.lt k hk).1; omega)
                    have HZ8 : Hid (oB + 1 ≤ (w7.setCell ⟨oB, 1, none⟩ (.slice a7 (t4 + 1) c7)).heap.size) := by have h1 := hst.size; have h2 := hF7s; have h3 := HZ4.out; exact Nat.le_trans h3 (Nat.le_trans h2 h1)
                    clear hF7s hU7 hQ7 hB7 hst G7
                    refine hK _ _ ?_
                    clear hK K
                    iterate 2 (refine mix_two (fun K hK => ?_); go_simp; refine hK _ _ ?_; clear hK K)
                    simp only [wpMix]
                    go_wp2_with fail
                    go_roundg (KK - (t4 + 1))
                    case measure => omega
                    case rel => exact ⟨t4 + 1, _, by go_num, rfl, by omega, HQ8.out, HU8.out, HB8.out, HO8'.out, HZ8.out⟩
                  · obtain rfl : t4 = KK := by omega
                    have o0 : wr.cell? ⟨oB, 0, none⟩ = some (.int .i64 ((cc : Int) + 1)) := cellRow HO4.out 0 _ rfl
                    have o1 : wr.cell? ⟨oB, 1, none⟩ = some (.slice aA t4 cA) := cellRow HO4.out 1 _ rfl
                    have HG4 := Lib.hid (HGt.out.kept HU4.out)
                    have HLL : Hid (L.length = t) := by have := congrArg List.length HLt.out; rw [opsL_length, gens_length] at this; exact this
                    have hLt : L.length ≤ 2000 := by have := HLL.out; omega
                    have hw6s : w6.heap.size ≤ wr.heap.size := HU64.out.size
                    go_wp2_with (at_builtin; refine wpList_append_at _ rfl (.tmp 121) (.tmp 123) 23 rfl w6.heap.size 40 i5 (.agg #[.int .i64 0, .slice none 0 0]) 2 32 Tryz.underlying23 hi5 hz50 hz51 hz52 rfl (by decide) _ _ _ rfl (HG4.out.own.alloc _) ⟨wr.heap.size, 0, none⟩ 1 1 [.int .i64 ((cc : Int) + 1), .slice aA t4 cA] rfl rfl ?d1 ?d2 ?d3 ?d4 ?d5 ?_)
                    case d1 =>
                      intro j u hj
                      match j, hj with
                      | 0, hj => simp at hj; subst hj; simp [Addr.add]
                      | 1, hj => simp at hj; subst hj; simp [Addr.add]
                    case d2 => intro u hu; simp at hu; rcases hu with rfl | rfl <;> rfl
                    case d3 => unfold maxLen; omega
                    case d4 => omega
                    case d5 => simp; omega
                    intro v5 w5 hG
                    have hu1 : Upd (fun k => k = sB) wo (wr.alloc (.cells #[.int .i64 ((cc : Int) + 1), .slice aA t4 cA] 40)) := HU4.out.alloc _
                    have hsBw : sB < wo.heap.size := (Array.getElem?_eq_some_iff.1 HQt.out).1
                    have hno : NumR (fun k => wo.heap.size ≤ k ∧ k < (wr.alloc (.cells #[.int .i64 ((cc : Int) + 1), .slice aA t4 cA] 40)).heap.size ∧ k ≠ sB) (wr.alloc (.cells #[.int .i64 ((cc : Int) + 1), .slice aA t4 cA] 40)) (.slice aA t4 cA) (gArgs p seed (U + 1) t4) := by
                      unfold NumR
                      rw [gArgs_length]
                      refine (SlR.of_own (Hown.out.alloc _)).weaken (fun k hk => ?_)
                      obtain ⟨q1, q2⟩ := Hown.out.lt k hk
                      have h1 := HWO.out
                      refine ⟨by omega, by rw [alloc_size]; omega, by omega⟩
                    have hpush := HGt.out.push (o := ⟨⟨(cc : Int) + 1, gArgs p seed (U + 1) t4⟩, .slice aA t4 cA⟩) hu1 hno hsBw hG
                    have hnew : opsL (L ++ [⟨⟨(cc : Int) + 1, gArgs p seed (U + 1) t4⟩, .slice aA t4 cA⟩]) = gens p seed (t + 1) := by
                      rw [gens_succ, ← HLt.out, HQe.out]
                      unfold gOp
                      rw [HGC.out, HAT.out, HKK2.out]
                      simp [opsL]
                    have hpos : gPos p seed (t + 1) - 1 = U + t4 := by
                      show gAt p seed (gPos p seed t) + gK p seed (gPos p seed t) - 1 = _
                      rw [HQe.out, HAT.out, HKK2.out]; omega
                    have hq5 : SeqB w5 sB (sq seed (gPos p seed (t + 1) - 1)) := by
                      rw [hpos]
                      exact hG.upd.heap (allocOld HQ4.out _) (fun e => HGt.out.ne e)
                    have hu5 : Upd (fun k => k = sB) w6 w5 := (HU64.out.alloc (.cells #[.int .i64 ((cc : Int) + 1), .slice aA t4 cA] 40)).trans' hG.upd (fun k hk e => by have := (HGt.out.own.lt k e).1; omega)
                    have R1 := Lib.hid hq5
                    have R2 := Lib.hid hu5
                    have R3 := Lib.hid hpush
                    have R4 := Lib.hid hnew
                    clear hu1 hno hpush hnew hpos hq5 hu5 hG o0 o1
                    go_wp2_with fail
                    go_roundg (n - (t + 1))
                    case measure => omega
                    case rel => exact ⟨t + 1, _, by go_num, rfl, by omega, R1.out, R2.out, R3.out, R4.out⟩
              | false =>
                rw [hch] at HCC HTbE HGK HGT
                have hge : 0 ≤ ar p.kind ((cc : Int) + 1) := by
                  rcases Int.lt_or_le (ar p.kind ((cc : Int) + 1)) 0 with h | h
                  · have := HNEG.out.1 h; rw [hch] at this; cases this
                  · exact h
                have HE := Lib.hid hch
                clear hch
                obtain ⟨KK, hKK⟩ := Int.eq_ofNat_of_zero_le hge
                have hKK2 : gK p seed (Q + 1) = KK := by rw [HGK.out, hKK]; rfl
                have HKK2 := Lib.hid hKK2
                have hK3 : KK ≤ 4 := by have := HARB.out; omega
                have hta : aTb p.kind cc = (KK : Int) := by rw [HTbE.out, hKK]; rfl
                rw [hta] at htb
                clear hKK2 hta hKK hge
                go_wp2_with fail
                refine (HCC.out _).mono ?_
                rintro e w9 ⟨rfl, rfl⟩
                generalize wr.alloc (.cells #[.int .i64 ((cc : Int) + 1), .slice none 0 0] 40) = w10 at *
                have HWO0 : Hid (wo.heap.size ≤ wr.heap.size) := HU7.out.size
                generalize hoB : wr.heap.size = oB at *
                have HoB := Lib.hid hoB
                clear hoB
                have HWO := HWO0
                obtain ⟨U, hU⟩ : ∃ U, U = Q + 1 := ⟨_, rfl⟩
                have HUe := Lib.hid hU
                have HQ9 : Hid (SeqB w10 sB (sq seed U)) := by show SeqB _ _ _; rw [hU, HX7.out]; exact HQ8.out
                have HU9 := HU8
                have HO9 := HO8
                have HZ9 := HZ8
                have HAT : Hid (gAt p seed (Q + 1) = U + 1) := by show _ = _; rw [HGT.out, hU]; rfl
                clear hU
                go_wp2_with fail
                go_loopg [102] KK (fun gk i wr => ∃ (t4 : Nat) (av : Value), i = .int .i64 t4 ∧ gk = KK - t4 ∧ t4 ≤ KK ∧ Hid (SeqB wr sB (sq seed (U + t4))) ∧ Hid (Upd (fun k => k = sB) wo wr) ∧ Hid (wr.heap[oB]? = some (.cells #[.int .i64 ((cc : Int) + 1), av] 40)) ∧ Hid (wr.ownsRow (oB + 1) 3 1 av t4 (nums (gArgs p seed (U + 1) t4))) ∧ Hid (oB + 1 ≤ wr.heap.size))
                case atStart => exact ⟨0, _, rfl, rfl, Nat.zero_le _, HQ9.out, HU9.out, HO9.out, World.ownsRow_nil _ _ _ _, HZ9.out⟩
                case round =>
                  obtain ⟨t4, av, rfl, rfl, ht4, HQ4, HU4, HO4, Hown, HZ4⟩ := hrel
                  obtain ⟨aA, cA, hav⟩ := own_shape Hown.out
                  subst hav
                  have HU64 := Lib.hid (HUt.out.trans HU4.out)
                  have hzz := HZ4.out
                  by_cases hlt4 : t4 < KK
                  · have b2 : wr.cell? ⟨b, 2, none⟩ = some (.int .i64 p.low) := cellRow (HBx.out wr HU64.out) 2 _ rfl
                    have b3 : wr.cell? ⟨b, 3, none⟩ = some (.int .i64 p.high) := cellRow (HBx.out wr HU64.out) 3 _ rfl
                    have o1 : wr.cell? ⟨oB, 1, none⟩ = some (.slice aA t4 cA) := cellRow HO4.out 1 _ rfl
                    have Hb2 := Lib.hid b2
                    have Hb3 := Lib.hid b3
                    have Ho1 := Lib.hid o1
                    have HNX4 : Hid (∀ W, SeqB W sB (sq seed (U + t4)) → Calls Tryz.prog 39 #[.pointer (some ⟨sB, 0, none⟩)] W fun e w' => e = .returned (.int .i64 (sq seed (U + (t4 + 1)))) ∧ SeqB w' sB (sq seed (U + (t4 + 1))) ∧ Upd (fun k => k = sB) W w') := fun W hW => next_any sB _ W hW (HS.out (U + t4)).1 (HS.out (U + t4)).2
                    have hbX := HS.out (U + (t4 + 1))
                    have HGA : Hid (nums (gArgs p seed (U + 1) (t4 + 1)) = nums (gArgs p seed (U + 1) t4) ++ [.int .i64 (p.low + sq seed (U + (t4 + 1)) % (p.high - p.low + 1))]) := by
                      show _ = _
                      rw [gArgs_succ, nums_append]
                      unfold gArg
                      rw [show U + 1 + t4 = U + (t4 + 1) by omega]
                      rfl
                    have hlo := VP'.out.low
                    have hhi := VP'.out.high
                    have hle := VP'.out.le
                    generalize hXn : sq seed (U + (t4 + 1)) = Xn at *
                    have HXn := Lib.hid hXn
                    clear hXn
                    generalize p.low = lo at *
                    generalize p.high = hi' at *
                    have hr0 : 0 ≤ Xn % (hi' - lo + 1) := Int.emod_nonneg _ (by omega)
                    have hr1 : Xn % (hi' - lo + 1) < hi' - lo + 1 := Int.emod_lt_of_pos _ (by omega)
                    have s1 : IntKind.i64.wrap (hi' - lo) = hi' - lo := IntWalk.i64_in _ (by omega)
                    have s2 : IntKind.i64.wrap (hi' - lo + 1) = hi' - lo + 1 := IntWalk.i64_in _ (by omega)
                    have s3 : Xn.tmod (hi' - lo + 1) = Xn % (hi' - lo + 1) := Int.tmod_eq_emod_of_nonneg hbX.1
                    have s4 : IntKind.i64.wrap (Xn % (hi' - lo + 1)) = Xn % (hi' - lo + 1) := IntWalk.i64_in _ (by omega)
                    have s5 : IntKind.i64.wrap (lo + Xn % (hi' - lo + 1)) = lo + Xn % (hi' - lo + 1) := IntWalk.i64_in _ (by omega)
                    have s6 : ¬ (hi' - lo + 1 = 0) := by omega
                    have H7 : Hid (t4 + 1 ≤ maxLen) := by show t4 + 1 ≤ maxLen; unfold maxLen; omega
                    have H7b : Hid ((t4 + 1) * 8 ≤ 140737488355328) := by show _ ≤ _; omega
                    have hsBo : sB < oB := by omega
                    have HsBo := Lib.hid hsBo
                    have HNE : Hid (∀ k, (Value.slice aA t4 cA).ownBlock = some k → ¬ k = sB ∧ ¬ k = oB) := fun k hk => by have h1 := (Hown.out.lt k hk).1; have h2 := HsBo.out; exact ⟨by omega, by omega⟩
                    have H6 : Hid (∀ u ∈ [Value.int .i64 (lo + Xn % (hi' - lo + 1))], u.oneCell' = true) := fun u hu => by simp at hu; subst hu; rfl
                    clear o1 b2 b3
                    have o1 := Ho1.out
                    have b2 := Hb2.out
                    have b3 := Hb3.out
                    go_wp2_with fail
                    have hX1 : ∀ x : XF (fun k => k = sB ∨ oB < k) wr, x.val.cell? ⟨oB, 1, none⟩ = some (.slice aA t4 cA) := fun x => x.upd.cell Ho1.out (by show ¬ (oB = sB ∨ oB < oB); have := HsBo.out; omega)
                    have hX2 : ∀ x : XF (fun k => k = sB ∨ oB < k) wr, x.val.cell? ⟨b, 2, none⟩ = some (.int .i64 lo) := fun x => x.upd.cell Hb2.out (by show ¬ (b = sB ∨ oB < b); have := HsBo.out; omega)
                    have hX3 : ∀ x : XF (fun k => k = sB ∨ oB < k) wr, x.val.cell? ⟨b, 3, none⟩ = some (.int .i64 hi') := fun x => x.upd.cell Hb3.out (by show ¬ (b = sB ∨ oB < b); have := HsBo.out; omega)
                    refine wp_region_mix [(0, 0), (1, 0), (2, 0), (3, 0), (5, 0), (6, 0), (7, 0), (8, 0), (9, 0), (10, 0), (4, 1), (11, 1), (12, 1), (13, 1), (14, 2), (15, 2), (16, 2)] 14 (fun W => ∃ x : XF (fun k => k = sB ∨ oB < k) wr, W = x.val) (by kernel_rfl) (by kernel_rfl) (fun _ _ d _ _ h => by cases d <;> exact h) ⟨⟨_, (Upd.refl _ wr).drew⟩, rfl⟩ ?_
                    simp only [pickO, List.getElem?_cons_zero, List.getElem?_cons_succ]
                    iterate 10 (refine mix_take (fun K hK => ?_); go_simp; refine hK _ ?_; clear hK K)
                    refine mix_one (fun K hK hS => ?_) ⟨⟨_, (Upd.refl _ wr).drew⟩, rfl⟩
                    go_simp
                    refine (HNX4.out _ ?_).mono ?_
                    · exact HQ4.out
                    rintro e w5 ⟨rfl, h5, u5⟩
                    have HU5 : Hid (Upd (fun k => k = sB) wr w5) := Upd.ofDrew u5
                    have HQ5 := Lib.hid h5
                    have HF5 : Hid (Upd (fun k => k = sB ∨ oB < k) wr w5) := HU5.out.mono (fun k _ h => .inl h)
                    have hO5 : (w5.alloc (.cells #[.int .i64 (lo + Xn % (hi' - lo + 1))] 3)).ownsRow (oB + 1) 3 1 (.slice aA t4 cA) t4 (nums (gArgs p seed (U + 1) t4)) := (own_kept Hown.out HU5.out (fun k hk => (HNE.out k hk).1)).alloc _
                    have HO5 := Lib.hid hO5
                    have HZ5 : Hid (oB + 1 ≤ (w5.alloc (.cells #[.int .i64 (lo + Xn % (hi' - lo + 1))] 3)).heap.size) := by
                      have h1 := HU5.out.size
                      have h2 := HZ4.out
                      rw [alloc_size]; exact Nat.le_succ_of_le (Nat.le_trans h2 h1)
                    have HN5 : Hid (∀ j u, [Value.int .i64 (lo + Xn % (hi' - lo + 1))][j]? = some u → (w5.alloc (.cells #[.int .i64 (lo + Xn % (hi' - lo + 1))] 3)).cell? ((⟨w5.heap.size, 0, none⟩ : Addr).add j) = some u) := cell_one_new _ _ _
                    clear h5 u5 hO5
                    have HS5 : Hid (∃ x : XF (fun k => k = sB ∨ oB < k) wr, w5 = x.val) := ⟨⟨_, HF5.out⟩, rfl⟩
                    have HS6 : Hid (∃ x : XF (fun k => k = sB ∨ oB < k) wr, w5.alloc (.cells #[.int .i64 (lo + Xn % (hi' - lo + 1))] 3) = x.val) := ⟨⟨_, HF5.out.alloc _⟩, rfl⟩
                    dsimp only
                    refine hK _ _ HS5.out ?_
                    clear hK K hS
                    iterate 2 (refine mix_one (fun K hK hS => ?_) HS5.out; go_simp; refine hK _ _ HS5.out ?_; clear hK K hS)
                    refine mix_one (fun K hK hS => ?_) HS5.out
                    go_simp
                    refine hK _ _ HS6.out ?_
                    clear hK K hS
                    refine mix_two (fun K hK => ?_)
                    rw [if_pos (by rfl)]
                    refine step_append_at _ (.tmp 105) (.tmp 117) 38 rfl (oB + 1) 3 i0 (.int .i64 0) 1 8 Tryz.underlying38 hi hz0 hz1 hz2 rfl (Nat.lt_succ_self 0) (.slice aA t4 cA) _ _ rfl HO5.out ⟨w5.heap.size, 0, none⟩ 1 1 [.int .i64 (lo + Xn % (hi' - lo + 1))] rfl rfl HN5.out H6.out H7.out H7b.out HZ5.out ?_
                    intro v7 w7 G7
                    obtain ⟨a7, c7, hv7⟩ := own_shape G7.own
                    subst hv7
                    have hF7s : wr.heap.size ≤ w7.heap.size := Nat.le_trans (HF5.out.alloc (.cells #[.int .i64 (lo + Xn % (hi' - lo + 1))] 3)).size G7.upd.size
                    have hU7 : Upd (fun k => k = sB) wo w7 := ((HU4.out.trans HU5.out).alloc (.cells #[.int .i64 (lo + Xn % (hi' - lo + 1))] 3)).trans' G7.upd (fun k hk e => by have := (Hown.out.lt k e).1; have := HWO.out; omega)
                    have hQ7 : SeqB w7 sB (sq seed (U + (t4 + 1))) := by
                      rw [HXn.out]
                      exact G7.upd.heap (allocOld HQ5.out _) (fun e => (HNE.out _ e).1 rfl)
                    have hB7 : w7.heap[oB]? = some (.cells #[.int .i64 ((cc : Int) + 1), .slice aA t4 cA] 40) := by
                      have h1 := HU5.out.heap HO4.out (by have := HsBo.out; omega)
                      exact G7.upd.heap (allocOld h1 _) (fun e => (HNE.out _ e).2 rfl)
                    have HB8 := Lib.hid (setBlock hB7 1 (.slice a7 (t4 + 1) c7))
                    have g0 := cellRow hB7 1 (.slice aA t4 cA) rfl
                    have gf := frozenRow hB7 1
                    have HU8 : Hid (Upd (fun k => k = sB) wo (w7.setCell ⟨oB, 1, none⟩ (.slice a7 (t4 + 1) c7))) := hU7.setCell (.inr (by have := HWO.out; exact this)) _
                    have hst : Upd (fun k => k = oB) w7 (w7.setCell ⟨oB, 1, none⟩ (.slice a7 (t4 + 1) c7)) := (Upd.refl (fun k => k = oB) w7).setCell (p := ⟨oB, 1, none⟩) (.inl rfl) _
                    have HQ8 : Hid (SeqB (w7.setCell ⟨oB, 1, none⟩ (.slice a7 (t4 + 1) c7)) sB (sq seed (U + (t4 + 1)))) := hst.heap hQ7 (by have := HsBo.out; omega)
                    have HO8' : Hid ((w7.setCell ⟨oB, 1, none⟩ (.slice a7 (t4 + 1) c7)).ownsRow (oB + 1) 3 1 (.slice a7 (t4 + 1) c7) (t4 + 1) (nums (gArgs p seed (U + 1) (t4 + 1)))) := by
                      rw [HGA.out]
                      exact own_kept G7.own hst (fun k hk e => by have := (G7.own.lt k hk).1; omega)
                    have HZ8 : Hid (oB + 1 ≤ (w7.setCell ⟨oB, 1, none⟩ (.slice a7 (t4 + 1) c7)).heap.size) := by have h1 := hst.size; have h2 := hF7s; have h3 := HZ4.out; exact Nat.le_trans h3 (Nat.le_trans h2 h1)
                    clear hF7s hU7 hQ7 hB7 hst G7
                    refine hK _ _ ?_
                    clear hK K
                    iterate 2 (refine mix_two (fun K hK => ?_); go_simp; refine hK _ _ ?_; clear hK K)
                    simp only [wpMix]
                    go_wp2_with fail
                    go_roundg (KK - (t4 + 1))
                    case measure => omega
                    case rel => exact ⟨t4 + 1, _, by go_num, rfl, by omega, HQ8.out, HU8.out, HB8.out, HO8'.out, HZ8.out⟩
                  · obtain rfl : t4 = KK := by omega
                    have o0 : wr.cell? ⟨oB, 0, none⟩ = some (.int .i64 ((cc : Int) + 1)) := cellRow HO4.out 0 _ rfl
                    have o1 : wr.cell? ⟨oB, 1, none⟩ = some (.slice aA t4 cA) := cellRow HO4.out 1 _ rfl
                    have HG4 := Lib.hid (HGt.out.kept HU4.out)
                    have HLL : Hid (L.length = t) := by have := congrArg List.length HLt.out; rw [opsL_length, gens_length] at this; exact this
                    have hLt : L.length ≤ 2000 := by have := HLL.out; omega
                    have hw6s : w6.heap.size ≤ wr.heap.size := HU64.out.size
                    go_wp2_with (at_builtin; refine wpList_append_at _ rfl (.tmp 121) (.tmp 123) 23 rfl w6.heap.size 40 i5 (.agg #[.int .i64 0, .slice none 0 0]) 2 32 Tryz.underlying23 hi5 hz50 hz51 hz52 rfl (by decide) _ _ _ rfl (HG4.out.own.alloc _) ⟨wr.heap.size, 0, none⟩ 1 1 [.int .i64 ((cc : Int) + 1), .slice aA t4 cA] rfl rfl ?d1 ?d2 ?d3 ?d4 ?d5 ?_)
                    case d1 =>
                      intro j u hj
                      match j, hj with
                      | 0, hj => simp at hj; subst hj; simp [Addr.add]
                      | 1, hj => simp at hj; subst hj; simp [Addr.add]
                    case d2 => intro u hu; simp at hu; rcases hu with rfl | rfl <;> rfl
                    case d3 => unfold maxLen; omega
                    case d4 => omega
                    case d5 => simp; omega
                    intro v5 w5 hG
                    have hu1 : Upd (fun k => k = sB) wo (wr.alloc (.cells #[.int .i64 ((cc : Int) + 1), .slice aA t4 cA] 40)) := HU4.out.alloc _
                    have hsBw : sB < wo.heap.size := (Array.getElem?_eq_some_iff.1 HQt.out).1
                    have hno : NumR (fun k => wo.heap.size ≤ k ∧ k < (wr.alloc (.cells #[.int .i64 ((cc : Int) + 1), .slice aA t4 cA] 40)).heap.size ∧ k ≠ sB) (wr.alloc (.cells #[.int .i64 ((cc : Int) + 1), .slice aA t4 cA] 40)) (.slice aA t4 cA) (gArgs p seed (U + 1) t4) := by
                      unfold NumR
                      rw [gArgs_length]
                      refine (SlR.of_own (Hown.out.alloc _)).weaken (fun k hk => ?_)
                      obtain ⟨q1, q2⟩ := Hown.out.lt k hk
                      have h1 := HWO.out
                      refine ⟨by omega, by rw [alloc_size]; omega, by omega⟩
                    have hpush := HGt.out.push (o := ⟨⟨(cc : Int) + 1, gArgs p seed (U + 1) t4⟩, .slice aA t4 cA⟩) hu1 hno hsBw hG
                    have hnew : opsL (L ++ [⟨⟨(cc : Int) + 1, gArgs p seed (U + 1) t4⟩, .slice aA t4 cA⟩]) = gens p seed (t + 1) := by
                      rw [gens_succ, ← HLt.out, HQe.out]
                      unfold gOp
                      rw [HGC.out, HAT.out, HKK2.out]
                      simp [opsL]
                    have hpos : gPos p seed (t + 1) - 1 = U + t4 := by
                      show gAt p seed (gPos p seed t) + gK p seed (gPos p seed t) - 1 = _
                      rw [HQe.out, HAT.out, HKK2.out]; omega
                    have hq5 : SeqB w5 sB (sq seed (gPos p seed (t + 1) - 1)) := by
                      rw [hpos]
                      exact hG.upd.heap (allocOld HQ4.out _) (fun e => HGt.out.ne e)
                    have hu5 : Upd (fun k => k = sB) w6 w5 := (HU64.out.alloc (.cells #[.int .i64 ((cc : Int) + 1), .slice aA t4 cA] 40)).trans' hG.upd (fun k hk e => by have := (HGt.out.own.lt k e).1; omega)
                    have R1 := Lib.hid hq5
                    have R2 := Lib.hid hu5
                    have R3 := Lib.hid hpush
                    have R4 := Lib.hid hnew
                    clear hu1 hno hpush hnew hpos hq5 hu5 hG o0 o1
                    go_wp2_with fail
                    go_roundg (n - (t + 1))
                    case measure => omega
                    case rel => exact ⟨t + 1, _, by go_num, rfl, by omega, R1.out, R2.out, R3.out, R4.out⟩
            · have Hj2 : Hid (0 ≤ X8 - (p.ws.take (cc + 1)).sum ∧ X8 - (p.ws.take (cc + 1)).sum < (p.ws.drop (cc + 1)).sum ∧ pick p.ws X8 = pick (p.ws.drop (cc + 1)) (X8 - (p.ws.take (cc + 1)).sum) + (cc + 1 : Nat)) := by
                obtain ⟨q1, q2, q3⟩ := Hj.out
                have s1 := Hst.out
                have s2 := Hsd.out
                have s3 := Hpd.out
                rw [if_neg (by omega)] at s3
                rw [show X8 - (p.ws.take (cc + 1)).sum = X8 - T1 - XW by omega]
                refine ⟨by omega, by omega, ?_⟩
                rw [q3, s3]; omega
              clear Hj Hpd Hsd
              go_wp2_with fail
              go_roundg (j - (cc + 1))
              case measure => omega
              case rel => exact ⟨cc + 1, by go_num, by rw [Hst.out]; congr 1; omega, rfl, by omega, rfl, Hj2⟩
        · obtain rfl : t = n := by omega
          go_wp2_with fail
          go_ret2
          exact ⟨_, L, rfl, HGt.out.ops, HLt.out, HX0.out.trans' (HUt.out.mono (G := fun k => k = sB) (fun k _ h => h)) (fun i hi h => by omega)⟩

end Go.Proofs.YthpekfpeoglbgaaGreatDoor
