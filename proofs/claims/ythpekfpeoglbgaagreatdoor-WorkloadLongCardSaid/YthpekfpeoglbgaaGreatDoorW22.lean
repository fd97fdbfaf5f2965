/- workload.Phases. -/
import Derived.Test.YthpekfpeoglbgaaGreatDoorW21
namespace Go.Proofs.YthpekfpeoglbgaaGreatDoor
open Go.RowKit Go.Hw
set_option linter.unusedVariables false
set_option linter.unusedSimpArgs false

/-! ### the states of the table -/
def FO (U : Nat → Nat → Int) (n e q j : Nat) : Int := if q = 0 ∨ e ≤ j then T U n q j else -1
def FM (U : Nat → Nat → Int) (n i p d q j : Nat) : Int :=
  if q = 0 ∨ i < j ∨ (j = i ∧ q < p) then T U n q j else if j = i ∧ q = p then Ts U (T U n (p - 1)) i d else -1
section
variable (U : Nat → Nat → Int) (n : Nat)
theorem FO_start (q j : Nat) (hj : j ≤ n) : (if q = 0 ∧ j = n then (0 : Int) else -1) = FO U n n q j := by
  unfold FO
  by_cases hq : q = 0
  · subst hq
    by_cases hn : j = n
    · simp [hn, T]
    · simp [hn, T]
  · rw [if_neg (by omega)]
    by_cases hn : n ≤ j
    · obtain rfl : j = n := by omega
      rw [if_pos (.inr hn)]
      obtain ⟨p, rfl⟩ : ∃ p, q = p + 1 := ⟨q - 1, by omega⟩
      simp [T, Ts]
    · rw [if_neg (by omega)]
theorem FM_start (i q j : Nat) : FO U n (i + 1) q j = FM U n i 1 0 q j := by
  unfold FO FM
  by_cases hq : q = 0
  · rw [if_pos (.inl hq), if_pos (.inl hq)]
  · by_cases hj : i < j
    · rw [if_pos (.inr (by omega)), if_pos (.inr (.inl hj))]
    · rw [if_neg (by omega), if_neg (by omega)]
      split <;> rfl
theorem FM_up (i p d q j : Nat) (h : i < j) : FM U n i p d q j = T U n q j := by unfold FM; rw [if_pos (.inr (.inl h))]
theorem FM_cur (i pp d : Nat) : FM U n i (pp + 1) d (pp + 1) i = Ts U (T U n pp) i d := by
  unfold FM; rw [if_neg (by omega), if_pos ⟨rfl, rfl⟩]; rfl
theorem FM_set (i pp d q j : Nat) (X : Int) (hX : X = Ts U (T U n pp) i (d + 1)) : (if q = pp + 1 ∧ j = i then X else FM U n i (pp + 1) d q j) = FM U n i (pp + 1) (d + 1) q j := by
  by_cases h : q = pp + 1 ∧ j = i
  · obtain ⟨rfl, rfl⟩ := h
    rw [if_pos ⟨rfl, rfl⟩, FM_cur, hX]
  · rw [if_neg h]
    unfold FM
    split
    · rfl
    · rw [if_neg (by omega), if_neg (by omega)]
theorem FM_keep (i pp d q j : Nat) (hX : Ts U (T U n pp) i (d + 1) = Ts U (T U n pp) i d) : FM U n i (pp + 1) d q j = FM U n i (pp + 1) (d + 1) q j := by
  unfold FM
  split
  · rfl
  · split
    · exact hX.symm
    · rfl
theorem FM_end (i pp q j : Nat) : FM U n i (pp + 1) (n - i) q j = FM U n i (pp + 1 + 1) 0 q j := by
  unfold FM
  by_cases h1 : q = 0 ∨ i < j ∨ (j = i ∧ q < pp + 1)
  · rw [if_pos h1, if_pos (by omega)]
  · rw [if_neg h1]
    by_cases h2 : j = i ∧ q = pp + 1
    · obtain ⟨rfl, rfl⟩ := h2
      rw [if_pos ⟨rfl, rfl⟩, if_pos (by omega)]
      rfl
    · rw [if_neg h2, if_neg (by omega)]
      split <;> rfl
theorem FM_done (i M q j : Nat) (hq : q < M + 1) : FM U n i (M + 1) 0 q j = FO U n i q j := by
  unfold FM FO
  by_cases h1 : q = 0 ∨ i ≤ j
  · rw [if_pos h1, if_pos (by omega)]
  · rw [if_neg h1, if_neg (by omega), if_neg (by omega)]
theorem Ts_bd' (hU0 : ∀ i j, 0 ≤ U i j) (hU : ∀ i j, U i j ≤ 2000) (b : Int) (hb : 0 ≤ b) (Tp : Nat → Int) (hT : ∀ j, -1 ≤ Tp j ∧ Tp j ≤ b) (i : Nat) : ∀ d, -1 ≤ Ts U Tp i d ∧ Ts U Tp i d ≤ b + 2000 := by
  intro d; induction d with
  | zero => unfold Ts; omega
  | succ d ih =>
    have h1 := hT (i + 1 + d)
    have h2 := hU0 i (i + 1 + d)
    have h3 := hU i (i + 1 + d)
    unfold Ts
    split <;> omega
theorem T_bd (hU0 : ∀ i j, 0 ≤ U i j) (hU : ∀ i j, U i j ≤ 2000) : ∀ (p j : Nat), -1 ≤ T U n p j ∧ T U n p j ≤ 2000 * p := by
  intro p; induction p with
  | zero => intro j; unfold T; split <;> omega
  | succ p ih =>
    intro j
    have := Ts_bd' U hU0 hU (2000 * p) (by omega) (T U n p) ih j (n - j)
    unfold T; omega
theorem Ts_bd (hU0 : ∀ i j, 0 ≤ U i j) (hU : ∀ i j, U i j ≤ 2000) (p i d : Nat) : -1 ≤ Ts U (T U n p) i d ∧ Ts U (T U n p) i d ≤ 2000 * p + 2000 :=
  Ts_bd' U hU0 hU (2000 * p) (by omega) _ (T_bd U n hU0 hU p) i d
end

set_option maxRecDepth 100000 in
set_option maxHeartbeats 1000000 in
theorem ph_bad1 (S : Nat → Prop) (kind : Int) (v : Value) (l : List OpV) (w : World) (h : OpsR S w v l) (hl : l.length ≤ 100000000) (ha : ∀ o ∈ l, o.op.args.length ≤ 100000000) (most : Int) (hval : validL kind (opsL l) = false) : Calls Tryz.prog 17 #[.int .i64 kind, v, .int .i64 most] w fun e w' => e = .returned (.tuple #[.slice none 0 0, .int .i64 1]) ∧ Ext w w' := by
  have HV := Lib.hid (valid_any kind v l w S h hl ha)
  obtain ⟨a, cap, hv⟩ := h.shape
  subst hv
  rw [hval] at HV
  have HN := Lib.hid h
  clear h ha
  go_enter Tryz.func17, Tryz.ntmps17
  go_wp2_with fail
  refine HV.out.mono ?_
  rintro e w2 ⟨rfl, h2⟩
  have H2 := Lib.hid h2
  clear h2
  go_wp2_with fail
  go_ret2
  exact ⟨rfl, H2.out⟩

set_option maxRecDepth 100000 in
set_option maxHeartbeats 1000000 in
theorem ph_bad2 (S : Nat → Prop) (kind : Int) (v : Value) (l : List OpV) (w : World) (h : OpsR S w v l) (hl : l.length ≤ 100000000) (ha : ∀ o ∈ l, o.op.args.length ≤ 100000000) (most : Int) (hval : validL kind (opsL l) = true) (hm : most < 1) : Calls Tryz.prog 17 #[.int .i64 kind, v, .int .i64 most] w fun e w' => e = .returned (.tuple #[.slice none 0 0, .int .i64 2]) ∧ Ext w w' := by
  have HV := Lib.hid (valid_any kind v l w S h hl ha)
  obtain ⟨a, cap, hv⟩ := h.shape
  subst hv
  rw [hval] at HV
  have HN := Lib.hid h
  clear h ha
  have t1 : decide (most < 1) = true := by simpa using hm
  go_enter Tryz.func17, Tryz.ntmps17
  go_wp2_with fail
  refine HV.out.mono ?_
  rintro e w2 ⟨rfl, h2⟩
  have H2 := Lib.hid h2
  clear h2
  go_wp2_with fail
  go_ret2
  exact ⟨rfl, H2.out⟩

set_option maxRecDepth 100000 in
set_option maxHeartbeats 1000000 in
theorem ph_bad3 (S : Nat → Prop) (kind : Int) (v : Value) (l : List OpV) (w : World) (h : OpsR S w v l) (hl : l.length ≤ 100000000) (ha : ∀ o ∈ l, o.op.args.length ≤ 100000000) (most : Int) (hval : validL kind (opsL l) = true) (hm : 20 < most) : Calls Tryz.prog 17 #[.int .i64 kind, v, .int .i64 most] w fun e w' => e = .returned (.tuple #[.slice none 0 0, .int .i64 2]) ∧ Ext w w' := by
  have HV := Lib.hid (valid_any kind v l w S h hl ha)
  obtain ⟨a, cap, hv⟩ := h.shape
  subst hv
  rw [hval] at HV
  have HN := Lib.hid h
  clear h ha
  have t1 : decide (most < 1) = false := by simp; omega
  have t2 : decide (20 < most) = true := by simpa using hm
  go_enter Tryz.func17, Tryz.ntmps17
  go_wp2_with fail
  refine HV.out.mono ?_
  rintro e w2 ⟨rfl, h2⟩
  have H2 := Lib.hid h2
  clear h2
  go_wp2_with fail
  go_ret2
  exact ⟨rfl, H2.out⟩

set_option maxRecDepth 100000 in
set_option maxHeartbeats 1000000 in
theorem ph_bad4 (S : Nat → Prop) (kind : Int) (v : Value) (l : List OpV) (w : World) (h : OpsR S w v l) (hl : l.length ≤ 100000000) (ha : ∀ o ∈ l, o.op.args.length ≤ 100000000) (most : Int) (hval : validL kind (opsL l) = true) (hm1 : 1 ≤ most) (hm : most ≤ 20) (h0 : l.length = 0) : Calls Tryz.prog 17 #[.int .i64 kind, v, .int .i64 most] w fun e w' => e = .returned (.tuple #[.slice none 0 0, .int .i64 12]) ∧ Ext w w' := by
  have HV := Lib.hid (valid_any kind v l w S h hl ha)
  obtain ⟨a, cap, hv⟩ := h.shape
  subst hv
  rw [hval] at HV
  have HN := Lib.hid h
  clear h ha
  have t1 : decide (most < 1) = false := by simp; omega
  have t2 : decide (20 < most) = false := by simp; omega
  have t3 : ((l.length : Int) == 0) = true := by simp [h0]
  have H0 := Lib.hid h0
  clear h0
  go_enter Tryz.func17, Tryz.ntmps17
  go_wp2_with fail
  refine HV.out.mono ?_
  rintro e w2 ⟨rfl, h2⟩
  have H2 := Lib.hid h2
  clear h2
  go_wp2_with fail
  go_ret2
  exact ⟨rfl, H2.out⟩

set_option maxRecDepth 100000 in
set_option maxHeartbeats 4000000 in
theorem ph_ok (S : Nat → Prop) (kind : Int) (v : Value) (l : List OpV) (w : World) (h : OpsR S w v l) (hl : l.length ≤ 100000000) (ha : ∀ o ∈ l, o.op.args.length ≤ 100000000) (most : Int) (hval : validL kind (opsL l) = true) (hm1 : 1 ≤ most) (hm : most ≤ 20) (h0 : 0 < l.length) : Calls Tryz.prog 17 #[.int .i64 kind, v, .int .i64 most] w fun e w' => ∃ v, e = .returned (.tuple #[v, .int .i64 0]) ∧ NumR (fun k => k < w'.heap.size) w' v ((Ph (UN (nW kind) (csL l)) l.length most.toNat).map fun i : Nat => (i : Int)) ∧ Ext w w' := by
  have vl := (validL_iff kind (opsL l)).1 hval
  have HV := Lib.hid (valid_any kind v l w S h hl ha)
  obtain ⟨a, cap, hv⟩ := h.shape
  subst hv
  rw [hval] at HV
  have HN := Lib.hid h
  clear h ha
  have hl2 : l.length ≤ 2000 := by have := vl.2.1; rw [opsL_length] at this; exact this
  have HCS : Hid (∀ x ∈ csL l, 1 ≤ x ∧ x ≤ (nW kind : Int)) := fun x hx => by
    unfold csL codesL at hx
    obtain ⟨o, ho, rfl⟩ := List.mem_map.1 hx
    exact validOp_code (vl.2.2 o ho)
  have HCO : Hid (∀ W, Calls Tryz.prog 43 #[.int .i64 kind] W fun e w' => e = .returned (.int .i64 (nW kind)) ∧ Ext W w') := fun W => codes_any kind W
  have hK8 := nW_le kind
  have HUN : Hid (∀ (i : Nat), i ≤ l.length → ∀ W, Ext w W → Calls Tryz.prog 44 #[.slice a l.length cap, .int .i64 i, .int .i64 (nW kind)] W fun e w' => ∃ g arr, e = .returned (.slice (some ⟨g, 0, none⟩) (l.length + 1) (l.length + 1)) ∧ w'.heap[g]? = some (.cells arr 3) ∧ arr.size = l.length + 1 ∧ (∀ j, i < j → j ≤ l.length → arr[j]? = some (.int .i64 (UN (nW kind) (csL l) i j))) ∧ W.heap.size ≤ g ∧ Ext W w') := fun i hi W hW =>
    uneven_any S _ l W (HN.out.kept hW (fun _ _ h => h)) hl2 i (nW kind) hi hK8 HCS.out
  clear vl hval hl
  have HU0 : Hid (∀ i j, 0 ≤ UN (nW kind) (csL l) i j) := fun i j => UN_nonneg _ _ _ _
  have HUle : Hid (∀ i j, UN (nW kind) (csL l) i j ≤ 2000) := fun i j => by
    have h1 := un_le (nW kind) (seg (csL l) i j)
    have h2 : (seg (csL l) i j).length ≤ (csL l).length := by unfold seg; simp; omega
    rw [csL_length] at h2
    unfold UN; omega
  obtain ⟨m0, hm0⟩ := Int.eq_ofNat_of_zero_le (show 0 ≤ most by omega)
  subst hm0
  simp only [Int.toNat_natCast]
  generalize hU : UN (nW kind) (csL l) = U at *
  have HU := Lib.hid hU
  clear hU
  generalize hKe : nW kind = KC at *
  have HKe := Lib.hid hKe
  clear hKe
  generalize hn : l.length = n at *
  have Hn := Lib.hid hn
  clear hn
  have t1 : decide ((m0 : Int) < 1) = false := by simp; omega
  have t2 : decide ((20 : Int) < (m0 : Int)) = false := by simp; omega
  have t3 : ((n : Int) == 0) = false := by simp; omega
  obtain ⟨M, hM⟩ : ∃ M, M = min m0 n := ⟨_, rfl⟩
  have HM := Lib.hid hM
  have hMn : M ≤ n := by omega
  have hM1 : 1 ≤ M := by omega
  have hM20 : M ≤ 20 := by omega
  have hmin : min (m0 : Int) (n : Int) = (M : Int) := by omega
  clear hM
  go_enter Tryz.func17, Tryz.ntmps17
  go_wp2_with fail
  refine HV.out.mono ?_
  rintro e w2 ⟨rfl, h2⟩
  have H2 := Lib.hid h2
  clear h2
  go_wp2_with fail
  refine (HCO.out _).mono ?_
  rintro e w3 ⟨rfl, h3⟩
  have H3 := Lib.hid (H2.out.ext h3)
  clear h3
  go_wp2_with (with_reducible (refine stop_at (o := ⟨some 45, _, _, _, _, _⟩) ?_))
  refine Stop.go ?_
  refine wpList_run rfl (v := .int .i64 (M : Int)) (w' := w3) ?_ ?_
  · have HMM := HM.out
    by_cases hnm : n < m0
    · obtain rfl : M = n := by omega
      clear HMM hmin
      go_simp
    · obtain rfl : M = m0 := by omega
      clear HMM hmin
      have hnm2 : (M : Int) ≤ n := by omega
      go_simp
  go_wp2_with fail
  generalize hb : w3.heap.size = bB at *
  have Hb := Lib.hid hb
  have hB0 : TabR (w3.alloc (.cells (Array.replicate 21 (.slice none 0 0)) 92)) bB (fun _ => 0) 0 n (fun _ _ => 0) := by
    subst hb
    exact ⟨⟨_, alloc0 _ _, rfl, fun q hq => absurd hq (Nat.not_lt_zero _), fun q _ h => by rw [Array.getElem?_replicate, if_pos h]⟩, fun q hq => absurd hq (Nat.not_lt_zero _), fun q _ hq => absurd hq (Nat.not_lt_zero _), fun q hq => absurd hq (Nat.not_lt_zero _)⟩
  have HB0 := Lib.hid hB0
  have HE4 : Hid (Ext w (w3.alloc (.cells (Array.replicate 21 (.slice none 0 0)) 92))) := H3.out.alloc _
  have e21 : (Array.replicate 21 (Value.slice none 0 0)) = #[.slice none 0 0, .slice none 0 0, .slice none 0 0, .slice none 0 0, .slice none 0 0, .slice none 0 0, .slice none 0 0, .slice none 0 0, .slice none 0 0, .slice none 0 0, .slice none 0 0, .slice none 0 0, .slice none 0 0, .slice none 0 0, .slice none 0 0, .slice none 0 0, .slice none 0 0, .slice none 0 0, .slice none 0 0, .slice none 0 0, .slice none 0 0] := rfl
  rw [e21] at HB0 HE4
  clear hb hB0 e21 hmin
  generalize w3.alloc (.cells _ 92) = w4 at *
  have hwB : w.heap.size ≤ bB := by have := H3.out.size; have := Hb.out; omega
  go_loopg [11, 48] (M + 1) (fun gk s11 qv wr => ∃ (q : Nat) (rows : Nat → Nat), qv = .int .i64 q ∧ gk = M + 1 - q ∧ q ≤ M + 1 ∧ Hid (Ext w wr) ∧ Hid (TabR wr bB rows q n (fun _ _ => -1)) ∧ Hid (∀ k, k < q → w.heap.size ≤ rows k))
  case atStart => exact ⟨0, _, rfl, rfl, Nat.zero_le _, HE4.out, HB0.out.congr (fun q j hq _ => absurd hq (Nat.not_lt_zero _)), fun k hk => absurd hk (Nat.not_lt_zero _)⟩
  case round =>
    obtain ⟨q, rows, rfl, rfl, hq, HE, HTB, HRW⟩ := hrel
    by_cases hlt : q < M + 1
    · have hbl : bB < wr.heap.size := by obtain ⟨cs, a, _⟩ := HTB.out.best; exact (Array.getElem?_eq_some_iff.1 a).1
      have HRP := Lib.hid (repeat_any (-1) wr.heap.size 1 (n + 1) (wr.alloc (.cells #[.int .i64 (-1)] 3)) (cellRow (alloc0 _ _) 0 _ rfl) (by omega) (by omega))
      have hrp2 : (((n + 1 : Nat)) : Int) = (n : Int) + 1 := by omega
      rw [hrp2] at HRP
      have i1 : (0 : Int) ≤ (q : Int) := by omega
      have i2 : (q : Int) < 21 := by omega
      go_wp2_with fail
      refine HRP.out.mono ?_
      rintro e w6 ⟨rfl, hr6, h6⟩
      have hx6 : Ext wr w6 := ((Upd.refl _ wr).alloc _).ext h6
      have hgs : wr.heap.size ≤ (wr.alloc (.cells #[.int .i64 (-1)] 3)).heap.size := by rw [alloc_size]; omega
      have hadd := HTB.out.add (K := q) (by omega) hx6 hgs (-1) hr6
      obtain ⟨cs, ca, cb, cc, cd⟩ := (HTB.out.ext hx6).best
      have g0 : w6.cell? ⟨bB, q, none⟩ = some (.slice none 0 0) := cellRow ca q _ (cd q (Nat.le_refl _) (by omega))
      have gf := frozenRow ca q
      have R1 := Lib.hid ((HE.out.ext hx6).setNew (g := bB) (j := q) hwB (.slice (some ⟨(wr.alloc (.cells #[.int .i64 (-1)] 3)).heap.size, 0, none⟩) (n + 1) (n + 1)))
      have R2 : Hid (TabR (w6.setCell ⟨bB, q, none⟩ (.slice (some ⟨(wr.alloc (.cells #[.int .i64 (-1)] 3)).heap.size, 0, none⟩) (n + 1) (n + 1))) bB (fun k => if k = q then (wr.alloc (.cells #[.int .i64 (-1)] 3)).heap.size else rows k) (q + 1) n (fun _ _ => -1)) := hadd.congr (fun k j _ _ => by split <;> rfl)
      have R3 : Hid (∀ k, k < q + 1 → w.heap.size ≤ (if k = q then (wr.alloc (.cells #[.int .i64 (-1)] 3)).heap.size else rows k)) := fun k hk => by
        by_cases e : k = q
        · rw [if_pos e]; have := HE.out.size; omega
        · rw [if_neg e]; exact HRW.out k (by omega)
      clear hr6 h6 hx6 hgs hadd ca cb cc cd HRP
      rw [alloc_size] at R1 R2 R3 ⊢
      go_wp2_with fail
      go_roundg (M + 1 - (q + 1))
      case measure => omega
      case rel => exact ⟨q + 1, _, by go_num, rfl, by omega, R1.out, R2.out, R3.out⟩
    · obtain rfl : q = M + 1 := by omega
      clear HB0 HE4
      have h00 := HTB.out.slice (q := 0) (by omega)
      have hn0 := HTB.out.num (q := 0) (j := n) (by omega) (Nat.le_refl _)
      have hf0 := HTB.out.mark (q := 0) (by omega) n
      have HT1 : Hid (TabR (wr.setCell ⟨rows 0, n, none⟩ (.int .i64 0)) bB rows (M + 1) n (FO U n n)) := (HTB.out.set (p := 0) (by omega) (Nat.le_refl n) 0).congr (fun q j hq hj => FO_start U n q j hj)
      have HE1 : Hid (Ext w (wr.setCell ⟨rows 0, n, none⟩ (.int .i64 0))) := HE.out.setNew (HRW.out 0 (by omega)) _
      clear HTB
      go_wp2_with fail
      generalize wr.setCell ⟨rows 0, n, none⟩ (.int .i64 0) = w5 at *
      go_loopg [12, 13, 14, 15, 16] n (fun gk iv s13 s14 s15 s16 wr => ∃ (e : Nat), iv = .int .i64 ((e : Int) - 1) ∧ gk = e ∧ e ≤ n ∧ Hid (Ext w wr) ∧ Hid (TabR wr bB rows (M + 1) n (FO U n e)))
      case atStart => exact ⟨n, rfl, rfl, Nat.le_refl _, HE1.out, HT1.out⟩
      case round =>
        obtain ⟨e, rfl, hgk, he, HE2, HT2⟩ := hrel
        have hgk2 := hgk.symm
        clear hgk
        subst hgk2
        clear h00 hn0 hf0
        by_cases he0 : 0 < e
        · obtain ⟨i, rfl⟩ : ∃ i, e = i + 1 := ⟨e - 1, by omega⟩
          have hi1 : (((i + 1 : Nat)) : Int) - 1 = (i : Int) := by omega
          rw [hi1]
          have HUC := Lib.hid (HUN.out i (by omega) wr HE2.out)
          clear hi1
          go_wp2_with fail
          refine HUC.out.mono ?_
          rintro e w6 ⟨cB, ca, rfl, hca, hcs, hcv, hcg, h6⟩
          have HE6 := Lib.hid (HE2.out.ext h6)
          have HT6 : Hid (TabR w6 bB rows (M + 1) n (FM U n i 1 0)) := (HT2.out.ext h6).congr (fun q j hq hj => FM_start U n i q j)
          have HCA := Lib.hid hca
          have HCV := Lib.hid hcv
          have HCB : Hid (bB ≠ cB ∧ ∀ q, q < M + 1 → rows q ≠ cB) := by
            obtain ⟨cs, b1, _⟩ := HT2.out.best
            refine ⟨by have := (Array.getElem?_eq_some_iff.1 b1).1; omega, fun q hq => ?_⟩
            obtain ⟨arr, b2, _⟩ := HT2.out.row q hq
            have := (Array.getElem?_eq_some_iff.1 b2).1; omega
          clear hca hcv hcs hcg h6 HUC
          go_wp2_with fail
          go_loopg [14, 15, 16] M (fun gk pv s15 s16 wr => ∃ (pp : Nat), pv = .int .i64 ((pp : Int) + 1) ∧ gk = M - pp ∧ pp ≤ M ∧ Hid (Ext w wr) ∧ Hid (TabR wr bB rows (M + 1) n (FM U n i (pp + 1) 0)) ∧ Hid (wr.heap[cB]? = some (.cells ca 3)))
          case atStart => exact ⟨0, rfl, rfl, Nat.zero_le _, HE6.out, HT6.out, HCA.out⟩
          case round =>
            obtain ⟨pp, rfl, rfl, hpp, HE3, HT3, HCA3⟩ := hrel
            by_cases hpM : pp < M
            · have hpM2 : decide ((pp : Int) + 1 ≤ (M : Int)) = true := by simp; omega
              go_wp2_with fail
              go_loopg [15, 16] (n - i) (fun gk jv s16 wr => ∃ (d : Nat), jv = .int .i64 ((i + 1 + d : Nat) : Int) ∧ gk = n - i - d ∧ d ≤ n - i ∧ Hid (Ext w wr) ∧ Hid (TabR wr bB rows (M + 1) n (FM U n i (pp + 1) d)) ∧ Hid (wr.heap[cB]? = some (.cells ca 3)))
              case atStart => exact ⟨0, by congr 1, rfl, Nat.zero_le _, HE3.out, HT3.out, HCA3.out⟩
              case round =>
                obtain ⟨d, rfl, rfl, hd, HE4, HT4, HCA4⟩ := hrel
                obtain ⟨j, hj⟩ : ∃ j, j = i + 1 + d := ⟨_, rfl⟩
                rw [← hj]
                by_cases hjn : j ≤ n
                · have k0 := HT4.out.slice (q := pp) (by omega)
                  have k1 := HT4.out.num (q := pp) (j := j) (by omega) hjn
                  rw [FM_up U n i (pp + 1) d pp j (by omega)] at k1
                  have k2 := HT4.out.slice (q := pp + 1) (by omega)
                  have k3 := HT4.out.num (q := pp + 1) (j := i) (by omega) (by omega)
                  rw [FM_cur] at k3
                  have kf := HT4.out.mark (q := pp + 1) (by omega) i
                  have k4 := cellRow HCA4.out j _ (HCV.out j (by omega) hjn)
                  have hTb := T_bd U n HU0.out HUle.out pp j
                  have hTsb := Ts_bd U n HU0.out HUle.out pp i d
                  have hUb := HUle.out i j
                  have hUb0 := HU0.out i j
                  have HSTEP : Hid (Ts U (T U n pp) i (d + 1) = if 0 ≤ T U n pp j ∧ (Ts U (T U n pp) i d < 0 ∨ U i j + T U n pp j < Ts U (T U n pp) i d) then U i j + T U n pp j else Ts U (T U n pp) i d) := by rw [hj]; rfl
                  have HSET : Hid (∀ W, Ext wr W → ∀ X, X = Ts U (T U n pp) i (d + 1) → Ext w (W.setCell ⟨rows (pp + 1), i, none⟩ (.int .i64 X)) ∧ TabR (W.setCell ⟨rows (pp + 1), i, none⟩ (.int .i64 X)) bB rows (M + 1) n (FM U n i (pp + 1) (d + 1)) ∧ (W.setCell ⟨rows (pp + 1), i, none⟩ (.int .i64 X)).heap[cB]? = some (.cells ca 3)) := fun W hW X hX =>
                    ⟨(HE4.out.ext hW).setNew (HRW.out (pp + 1) (by omega)) _, ((HT4.out.ext hW).set (p := pp + 1) (by omega) (by omega : i ≤ n) X).congr (fun q j' hq hj' => FM_set U n i pp d q j' X hX),
                      (Upd.at_ _).heap (hW.heap HCA4.out (fun h => h)) (fun e => HCB.out.2 (pp + 1) (by omega) e.symm)⟩
                  have HKEEP : Hid (∀ W, Ext wr W → Ts U (T U n pp) i (d + 1) = Ts U (T U n pp) i d → Ext w W ∧ TabR W bB rows (M + 1) n (FM U n i (pp + 1) (d + 1)) ∧ W.heap[cB]? = some (.cells ca 3)) := fun W hW hX =>
                    ⟨HE4.out.ext hW, (HT4.out.ext hW).congr (fun q j' hq hj' => FM_keep U n i pp d q j' hX), hW.heap HCA4.out (fun h => h)⟩
                  have hpp20 : (pp : Int) + 1 < 21 := by omega
                  have s1 : (0 : Int) ≤ (i : Int) := by omega
                  have s2 : (i : Int) < (n : Int) + 1 := by omega
                  have s3 : (0 : Int) ≤ (j : Int) := by omega
                  have s4 : (j : Int) < (n : Int) + 1 := by omega
                  have s5 : (j : Int) ≤ (n : Int) := by omega
                  have HJ := Lib.hid hj
                  have s6 : (0 : Int) ≤ (pp : Int) + 1 := by omega
                  have s7 : decide ((j : Int) ≤ (n : Int)) = true := by simp; omega
                  clear hj
                  generalize T U n pp j = RS at *
                  generalize Ts U (T U n pp) i d = CU at *
                  generalize U i j = UV at *
                  have q1 : IntKind.i64.wrap (UV + RS) = UV + RS := IntWalk.i64_in _ (by omega)
                  by_cases b1 : 0 ≤ RS
                  · have u1 : decide (0 ≤ RS) = true := by simpa using b1
                    by_cases b2 : CU < 0
                    · have u2 : decide (CU < 0) = true := by simpa using b2
                      have hX := HSTEP.out
                      rw [if_pos (by first | exact ⟨b1, .inl b2⟩ | exact ⟨b1, .inr b3⟩)] at hX
                      have HX := Lib.hid hX.symm
                      clear hX
                      go_wp2_with fail
                      go_quiet (fail)
                      go_wp2_with fail
                      have hX1 : ∀ x : XF (fun _ => False) wr, x.val.cell? ⟨bB, pp + 1, none⟩ = some (.slice (some ⟨rows (pp + 1), 0, none⟩) (n + 1) (n + 1)) := fun x => x.upd.cell k2 (fun h => h)
                      have hX2 : ∀ x : XF (fun _ => False) wr, x.val.cell? ⟨cB, j, none⟩ = some (.int .i64 UV) := fun x => x.upd.cell k4 (fun h => h)
                      refine wp_region_mix [(0, 0), (1, 0), (2, 0), (3, 0), (4, 0), (5, 0), (6, 0), (7, 0), (8, 0), (9, 0), (10, 2), (11, 2)] 10 (fun W => ∃ x : XF (fun _ => False) wr, W = x.val) (by kernel_rfl) (by kernel_rfl) (fun _ _ d _ _ h => by cases d <;> exact h) ⟨⟨_, ((Upd.refl _ wr).drewN' _).drew⟩, rfl⟩ ?_
                      simp only [pickO, List.getElem?_cons_zero, List.getElem?_cons_succ]
                      iterate 10 (refine mix_take (fun K hK => ?_); go_simp; refine hK _ ?_; clear hK K)
                      clear hX1 hX2
                      iterate 2 (refine mix_two (fun K hK => ?_); go_simp; refine hK _ _ ?_; clear hK K)
                      simp only [wpMix]
                      go_wp2_with fail
                      obtain ⟨r1, r2, r3⟩ := HSET.out _ (((Upd.refl _ wr).drewN' nq).drew) _ HX.out
                      go_roundg (n - i - (d + 1))
                      case measure => have := HJ.out; omega
                      case rel => exact ⟨d + 1, by congr 1; have := HJ.out; omega, rfl, by have := HJ.out; omega, r1, r2, r3⟩
                    · have u2 : decide (CU < 0) = false := by simp; omega
                      by_cases b3 : UV + RS < CU
                      · have u3 : decide (UV + RS < CU) = true := by simpa using b3
                        have hX := HSTEP.out
                        rw [if_pos (by first | exact ⟨b1, .inl b2⟩ | exact ⟨b1, .inr b3⟩)] at hX
                        have HX := Lib.hid hX.symm
                        clear hX
                        go_wp2_with fail
                        go_quiet (fail)
                        go_wp2_with fail
                        have hX1 : ∀ x : XF (fun _ => False) wr, x.val.cell? ⟨bB, pp + 1, none⟩ = some (.slice (some ⟨rows (pp + 1), 0, none⟩) (n + 1) (n + 1)) := fun x => x.upd.cell k2 (fun h => h)
                        have hX2 : ∀ x : XF (fun _ => False) wr, x.val.cell? ⟨cB, j, none⟩ = some (.int .i64 UV) := fun x => x.upd.cell k4 (fun h => h)
                        refine wp_region_mix [(0, 0), (1, 0), (2, 0), (3, 0), (4, 0), (5, 0), (6, 0), (7, 0), (8, 0), (9, 0), (10, 2), (11, 2)] 10 (fun W => ∃ x : XF (fun _ => False) wr, W = x.val) (by kernel_rfl) (by kernel_rfl) (fun _ _ d _ _ h => by cases d <;> exact h) ⟨⟨_, ((Upd.refl _ wr).drewN' _).drew⟩, rfl⟩ ?_
                        simp only [pickO, List.getElem?_cons_zero, List.getElem?_cons_succ]
                        iterate 10 (refine mix_take (fun K hK => ?_); go_simp; refine hK _ ?_; clear hK K)
                        clear hX1 hX2
                        iterate 2 (refine mix_two (fun K hK => ?_); go_simp; refine hK _ _ ?_; clear hK K)
                        simp only [wpMix]
                        go_wp2_with fail
                        obtain ⟨r1, r2, r3⟩ := HSET.out _ (((Upd.refl _ wr).drewN' nq).drew) _ HX.out
                        go_roundg (n - i - (d + 1))
                        case measure => have := HJ.out; omega
                        case rel => exact ⟨d + 1, by congr 1; have := HJ.out; omega, rfl, by have := HJ.out; omega, r1, r2, r3⟩
                      · have u3 : decide (UV + RS < CU) = false := by simp; omega
                        have hX := HSTEP.out
                        rw [if_neg (by omega)] at hX
                        have HX := Lib.hid hX
                        clear hX
                        go_wp2_with fail
                        go_quiet (fail)
                        go_wp2_with fail
                        obtain ⟨r1, r2, r3⟩ := HKEEP.out _ ((Upd.refl _ wr).drewN' nq) HX.out
                        go_roundg (n - i - (d + 1))
                        case measure => have := HJ.out; omega
                        case rel => exact ⟨d + 1, by congr 1; have := HJ.out; omega, rfl, by have := HJ.out; omega, r1, r2, r3⟩
                  · have u1 : decide (0 ≤ RS) = false := by simp; omega
                    have hX := HSTEP.out
                    rw [if_neg (by omega)] at hX
                    have HX := Lib.hid hX
                    clear hX
                    go_wp2_with fail
                    go_quiet (fail)
                    go_wp2_with fail
                    obtain ⟨r1, r2, r3⟩ := HKEEP.out _ ((Upd.refl _ wr).drewN' nq) HX.out
                    go_roundg (n - i - (d + 1))
                    case measure => have := HJ.out; omega
                    case rel => exact ⟨d + 1, by congr 1; have := HJ.out; omega, rfl, by have := HJ.out; omega, r1, r2, r3⟩
                · obtain rfl : d = n - i := by omega
                  have hend : Hid (TabR wr bB rows (M + 1) n (FM U n i (pp + 1 + 1) 0)) := HT4.out.congr (fun q j' hq hj' => FM_end U n i pp q j')
                  have hjn2 : (n : Int) < (j : Int) := by omega
                  have HJ := Lib.hid hj
                  have hjn3 : decide ((j : Int) ≤ (n : Int)) = false := by simp; omega
                  clear hj HT4
                  go_wp2_with fail
                  go_roundg (M - (pp + 1))
                  case measure => omega
                  case rel => exact ⟨pp + 1, by congr 1, rfl, by omega, HE4.out, hend.out, HCA4.out⟩
            · obtain rfl : pp = M := by omega
              have hend : Hid (TabR wr bB rows (pp + 1) n (FO U n i)) := HT3.out.congr (fun q j' hq hj' => FM_done U n i pp q j' hq)
              clear HT3
              go_wp2_with fail
              go_roundg i
              case measure => omega
              case rel => exact ⟨i, rfl, rfl, by omega, HE3.out, hend.out⟩
        · obtain rfl : e = 0 := by omega
          have hm0' : (((0 : Nat)) : Int) - 1 = -1 := rfl
          rw [hm0']
          clear hm0'
          have HTT : Hid (TabR wr bB rows (M + 1) n (T U n)) := HT2.out.congr (fun q j hq hj => by unfold FO; rw [if_pos (.inr (Nat.zero_le _))])
          have HE3 := Lib.hid HE2.out
          clear HT2 HE2 HT1 HE1 he he0
          go_wp2_with fail
          go_loopg [17, 18] (M - 1) (fun gk pv qv wr => ∃ (d : Nat), pv = .int .i64 (bp (fun q => T U n q 0) d : Nat) ∧ qv = .int .i64 ((d : Int) + 2) ∧ gk = M - 1 - d ∧ d ≤ M - 1 ∧ Hid (Ext w wr) ∧ Hid (TabR wr bB rows (M + 1) n (T U n)))
          case atStart => exact ⟨0, rfl, rfl, rfl, Nat.zero_le _, HE3.out, HTT.out⟩
          case round =>
            obtain ⟨d, rfl, rfl, rfl, hd, HE4, HT4⟩ := hrel
            clear HTT HE3
            obtain ⟨bp1, bp2, bp3⟩ := bp_spec (fun q => T U n q 0) d
            have HBP : Hid (bp (fun q => T U n q 0) (d + 1) = if T U n (d + 2) 0 < T U n (bp (fun q => T U n q 0) d) 0 then d + 2 else bp (fun q => T U n q 0) d) := rfl
            have HB3 := Lib.hid bp3
            clear bp3
            by_cases hdM : d + 2 ≤ M
            · have v1 : decide ((d : Int) + 2 ≤ (M : Int)) = true := by simp; omega
              generalize hpb : bp (fun q => T U n q 0) d = pb at *
              have HPB := Lib.hid hpb
              clear hpb
              have k0 := HT4.out.slice (q := d + 2) (by omega)
              have k1 := HT4.out.num (q := d + 2) (j := 0) (by omega) (Nat.zero_le _)
              have k2 := HT4.out.slice (q := pb) (by omega)
              have k3 := HT4.out.num (q := pb) (j := 0) (by omega) (Nat.zero_le _)
              have b1 := T_bd U n HU0.out HUle.out (d + 2) 0
              have b2 := T_bd U n HU0.out HUle.out pb 0
              generalize T U n (d + 2) 0 = X1 at *
              generalize T U n pb 0 = X2 at *
              have hq21 : (d : Int) + 2 < 21 := by omega
              have hq20 : (0 : Int) ≤ (d : Int) + 2 := by omega
              have hp21 : (pb : Int) < 21 := by omega
              have hn1 : (0 : Int) < (n : Int) + 1 := by omega
              by_cases hx : X1 < X2
              · have u1 : decide (X1 < X2) = true := by simpa using hx
                have HNX := HBP.out
                rw [if_pos hx] at HNX
                have HNX := Lib.hid HNX
                go_wp2_with fail
                go_quiet (fail)
                go_wp2_with fail
                go_roundg (M - 1 - (d + 1))
                case measure => omega
                case rel => exact ⟨d + 1, by rw [HNX.out]; rfl, by first | (congr 1; done) | (congr 1; omega), rfl, by omega, HE4.out.drewN' nq, HT4.out.ext ((Upd.refl _ _).drewN' nq)⟩
              · have u1 : decide (X1 < X2) = false := by simpa using hx
                have HNX := HBP.out
                rw [if_neg hx] at HNX
                have HNX := Lib.hid HNX
                go_wp2_with fail
                go_quiet (fail)
                go_wp2_with fail
                go_roundg (M - 1 - (d + 1))
                case measure => omega
                case rel => exact ⟨d + 1, by rw [HNX.out], by first | (congr 1; done) | (congr 1; omega), rfl, by omega, HE4.out.drewN' nq, HT4.out.ext ((Upd.refl _ _).drewN' nq)⟩
            · obtain rfl : d = M - 1 := by omega
              have v1 : decide (((M - 1 : Nat) : Int) + 2 ≤ (M : Int)) = false := by simp; omega
              generalize hpb : bp (fun q => T U n q 0) (M - 1) = pb at *
              have HPh : Hid ((R U n pb 0).map (fun i : Nat => (i : Int)) = (Ph U n m0).map (fun i : Nat => (i : Int))) := by
                unfold Ph bpU; rw [← HM.out, hpb]; exact rfl
              have HTP : Hid (0 ≤ T U n pb 0) := T_pos (n := n) U HU0.out bp1 (by omega)
              have hpbM : pb ≤ M := by omega
              have HB3' := HB3
              clear HB3 HB3' HBP hpb hdM hd
              generalize hQv : ((M - 1 : Nat) : Int) + 2 = QV at *
              clear hQv
              go_wp2_with fail
              obtain ⟨base, hbase⟩ : ∃ base, base = wr.heap.size := ⟨_, rfl⟩
              have HBW : Hid (bB < base ∧ w.heap.size ≤ base ∧ ∀ q, q < M + 1 → rows q < base) := by
                obtain ⟨cs, b1, _⟩ := HT4.out.best
                refine ⟨by rw [hbase]; exact (Array.getElem?_eq_some_iff.1 b1).1, by rw [hbase]; exact HE4.out.size, fun q hq => ?_⟩
                obtain ⟨arr, b2, _⟩ := HT4.out.row q hq
                rw [hbase]; exact (Array.getElem?_eq_some_iff.1 b2).1
              have hbase' : Hid (base ≤ wr.heap.size) := Nat.le_of_eq hbase
              clear hbase
              go_loopg [17, 19, 20, 21, 22] pb (fun gk pv av iv s21 s22 wr => ∃ (pp i : Nat) (L : List Int), pv = .int .i64 pp ∧ iv = .int .i64 i ∧ gk = pp ∧ i ≤ n ∧ pp ≤ M ∧ Hid (0 ≤ T U n pp i) ∧ Hid (L ++ (R U n pp i).map (fun i : Nat => (i : Int)) = (Ph U n m0).map (fun i : Nat => (i : Int))) ∧ Hid (Ext w wr) ∧ Hid (TabR wr bB rows (M + 1) n (T U n)) ∧ Hid (wr.ownsRow base 3 1 av L.length (nums L)) ∧ L.length + pp ≤ 20 ∧ Hid (base ≤ wr.heap.size))
              case atStart => exact ⟨pb, 0, [], rfl, rfl, rfl, Nat.zero_le _, hpbM, HTP.out, by rw [List.nil_append]; exact HPh.out, HE4.out, HT4.out, World.ownsRow_nil _ _ _ _, by simp; omega, hbase'.out⟩
              case round =>
                obtain ⟨pp, i, L, rfl, rfl, hgk, hi, hppM, HTP6, HL6, HE6, HT6, HO6, hL20, HBS6⟩ := hrel
                have hgk2 := hgk.symm
                clear hgk HTP HPh HE4 HT4 hbase' hpbM bp1 bp2 v1
                subst hgk2
                cases pp with
                | zero =>
                  have hin : i = n := by
                    have := HTP6.out
                    unfold T at this
                    by_cases e : i = n
                    · exact e
                    · rw [if_neg e] at this; omega
                  have HIN := Lib.hid hin
                  have hlt0 : ¬ i < n := by omega
                  have hlt : decide (i < n) = false := by simp; omega
                  clear hin
                  obtain ⟨oa, oc, hov⟩ := own_shape HO6.out
                  subst hov
                  go_wp2_with fail
                  go_ret2
                  have hL := HL6.out
                  simp only [R, List.map_nil, List.append_nil] at hL
                  refine ⟨_, rfl, ?_, HE6.out⟩
                  rw [← hL]
                  unfold NumR
                  exact (SlR.of_own HO6.out).weaken (fun k hk => (HO6.out.lt k hk).2)
                | succ p =>
                  obtain ⟨hlt, j1, j2, j3, j4, j5⟩ := J_spec U HU0.out hi HTP6.out
                  have c1 : (((p + 1 : Nat)) : Int) = (p : Int) + 1 := by omega
                  rw [c1]
                  have hlt2 : decide (i < n) = true := by simp; omega
                  obtain ⟨oa, oc, hov⟩ := own_shape HO6.out
                  subst hov
                  generalize hJg : J U n p i = JJ at *
                  have HJg := Lib.hid hJg
                  have HJ3 := Lib.hid j3
                  have HJ4 := Lib.hid j4
                  have HJ5 := Lib.hid j5
                  clear hJg j3 j4 j5 c1
                  have HO7 : Hid ((wr.alloc (.cells #[.int .i64 i] 3)).ownsRow base 3 1 (.slice oa L.length oc) L.length (nums L)) := HO6.out.alloc _
                  obtain ⟨i0, hi0, hz0, hz1, hz2⟩ := info_parts info3
                  go_wp2_with (at_builtin; refine wpList_append_at _ rfl (.tmp 148) (.tmp 150) 38 rfl base 3 i0 (.int .i64 0) 1 8 Tryz.underlying38 hi0 hz0 hz1 hz2 rfl (Nat.lt_succ_self 0) (.slice oa L.length oc) L.length _ rfl HO7.out ⟨wr.heap.size, 0, none⟩ 1 1 [.int .i64 i] rfl rfl ?d1 ?d2 ?d3 ?d4 ?d5 ?_)
                  case d1 =>
                    intro j u hj
                    match j, hj with
                    | 0, hj => simp at hj; subst hj; simp [Addr.add]
                  case d2 => intro u hu; simp at hu; subst hu; rfl
                  case d3 => unfold maxLen; omega
                  case d4 => omega
                  case d5 => rw [alloc_size]; have := HBS6.out; omega
                  intro v5 w5 hG
                  obtain ⟨a7, c7, hv7⟩ := own_shape hG.own
                  subst hv7
                  have hOBn : ∀ k, (Value.slice oa L.length oc).ownBlock = some k → base ≤ k := fun k hk => (HO6.out.lt k hk).1
                  have hUg := hG.upd
                  have hx5 : Ext wr (wr.alloc (.cells #[.int .i64 i] 3)) := (Upd.refl _ wr).alloc _
                  have HE7 : Hid (Ext w w5) := (HE6.out.ext hx5).trans' hUg (fun k hk e => by have := hOBn k e; have := HBW.out.2.1; omega)
                  have HT7 : Hid (TabR w5 bB rows (M + 1) n (T U n)) := (HT6.out.ext hx5).kept hUg (fun e => by have := hOBn _ e; have := HBW.out.1; omega) (fun q hq e => by have := hOBn _ e; have := HBW.out.2.2 q hq; omega)
                  have HO8 : Hid (w5.ownsRow base 3 1 (.slice a7 (L.length + 1) c7) (L ++ [(i : Int)]).length (nums (L ++ [(i : Int)]))) := by
                    have := hG.own
                    simp only [List.length_append, List.length_cons, List.length_nil, nums, List.map_append, List.map_cons, List.map_nil] at this ⊢
                    exact this
                  have HBS7 : Hid (base ≤ w5.heap.size) := by have h1 := HBS6.out; have h2 := hx5.size; have h3 := hUg.size; exact Nat.le_trans h1 (Nat.le_trans h2 h3)
                  clear hOBn hUg hx5 hG HO7 HT6 HE6 HO6 HBS6
                  have HUC := Lib.hid (HUN.out i (by omega) w5 HE7.out)
                  go_wp2_with fail
                  refine HUC.out.mono ?_
                  rintro e w6 ⟨cB, ca, rfl, hca, hcs, hcv, hcg, h6⟩
                  have HE8 := Lib.hid (HE7.out.ext h6)
                  have HT8 := Lib.hid (HT7.out.ext h6)
                  have HO9 : Hid (w6.ownsRow base 3 1 (.slice a7 (L.length + 1) c7) (L ++ [(i : Int)]).length (nums (L ++ [(i : Int)]))) := own_kept HO8.out h6 (fun _ _ h => h)
                  have HBS8 : Hid (base ≤ w6.heap.size) := by have h1 := HBS7.out; have h2 := h6.size; exact Nat.le_trans h1 h2
                  have HCA := Lib.hid hca
                  have HCV := Lib.hid hcv
                  clear hca hcs hcv hcg h6 HUC HE7 HT7 HO8 HBS7
                  go_wp2_with fail
                  go_loopg [22] (JJ - (i + 1)) (fun gk jv wr => ∃ (j : Nat), jv = .int .i64 j ∧ gk = JJ - j ∧ i + 1 ≤ j ∧ j ≤ JJ ∧ Hid (Ext w6 wr))
                  case atStart => exact ⟨i + 1, rfl, rfl, Nat.le_refl _, j1, Upd.refl _ _⟩
                  case round =>
                    obtain ⟨j, rfl, rfl, hj1, hj2, HX⟩ := hrel
                    have HTX := Lib.hid (HT8.out.ext HX.out)
                    have k0 := HTX.out.slice (q := p) (by omega)
                    have k1 := HTX.out.num (q := p) (j := j) (by omega) (by omega)
                    have k2 := HTX.out.slice (q := p + 1) (by omega)
                    have k3 := HTX.out.num (q := p + 1) (j := i) (by omega) (by omega)
                    have k4 := HX.out.cell (cellRow HCA.out j _ (HCV.out j (by omega) (by omega))) (fun h => h)
                    have b1 := T_bd U n HU0.out HUle.out p j
                    have b2 := T_bd U n HU0.out HUle.out (p + 1) i
                    have b3 := HU0.out i j
                    have b4 := HUle.out i j
                    have HF : Hid (j < JJ → fits U n p i j = false) := fun h => HJ5.out j (by omega) h
                    have HG : Hid (j = JJ → 0 ≤ T U n p j ∧ U i j + T U n p j = T U n (p + 1) i) := fun h => by subst h; exact ⟨HJ3.out, HJ4.out⟩
                    unfold fits at HF
                    generalize hRS : T U n p j = RS at *
                    have HRS := Lib.hid hRS
                    clear hRS
                    generalize T U n (p + 1) i = CU at *
                    generalize U i j = UV at *
                    have q1 : IntKind.i64.wrap (UV + RS) = UV + RS := IntWalk.i64_in _ (by omega)
                    have s1 : (0 : Int) ≤ (p : Int) := by omega
                    have s2 : (p : Int) < 21 := by omega
                    have s3 : (p : Int) + 1 < 21 := by omega
                    have s4 : (0 : Int) ≤ (p : Int) + 1 := by omega
                    have s5 : (j : Int) < (n : Int) + 1 := by omega
                    have s6 : (i : Int) < (n : Int) + 1 := by omega
                    by_cases hJ : j < JJ
                    · have hff := HF.out hJ
                      simp only [Bool.and_eq_false_iff, decide_eq_false_iff_not] at hff
                      by_cases c1 : RS < 0
                      · have u1 : decide (RS < 0) = true := by simpa using c1
                        clear hff
                        go_wp2_with fail
                        go_quiet (fail)
                        go_wp2_with fail
                        go_roundg (JJ - (j + 1))
                        case measure => omega
                        case rel => exact ⟨j + 1, rfl, rfl, by omega, by omega, HX.out.drewN' nq⟩
                      · have u1 : decide (RS < 0) = false := by simpa using c1
                        have c2 : ¬ (UV + RS = CU) := by omega
                        have u2 : (UV + RS == CU) = false := by simpa using c2
                        have u3 : (UV + RS != CU) = true := by simp; omega
                        clear hff
                        go_wp2_with fail
                        go_quiet (fail)
                        go_wp2_with fail
                        go_roundg (JJ - (j + 1))
                        case measure => omega
                        case rel => exact ⟨j + 1, rfl, rfl, by omega, by omega, HX.out.drewN' nq⟩
                    · obtain rfl : j = JJ := by omega
                      obtain ⟨c1, c2⟩ := HG.out rfl
                      have u1 : decide (RS < 0) = false := by simp; omega
                      have u2 : (UV + RS == CU) = true := by simpa using c2
                      have u3 : (UV + RS != CU) = false := by simp; omega
                      have C2 := Lib.hid c2
                      clear c2
                      go_wp2_with fail
                      go_quiet (fail)
                      go_wp2_with fail
                      have HJg2 := HJg.out
                      go_roundg p
                      case measure => omega
                      case rel =>
                        refine ⟨p, j, L ++ [(i : Int)], by first | rfl | (congr 1; omega), rfl, rfl, j2, by omega, ?_, ?_, (HE8.out.ext HX.out).drewN' nq, HTX.out.ext ((Upd.refl _ _).drewN' nq), own_kept HO9.out (HX.out.drewN' nq) (fun _ _ h => h), by simp; omega, ?_⟩
                        · rw [HRS.out]; exact c1
                        · have := HL6.out
                          rw [← this]
                          simp only [R, List.map_cons, HJg2, List.append_assoc, List.singleton_append]
                          exact trivial
                        · have h1 := HBS8.out; have h2 := (HX.out.drewN' nq).size; exact Nat.le_trans h1 h2

end Go.Proofs.YthpekfpeoglbgaaGreatDoor
