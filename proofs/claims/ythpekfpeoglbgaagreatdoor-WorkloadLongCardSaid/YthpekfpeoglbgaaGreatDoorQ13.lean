/- WorkloadLong. -/
import Derived.Test.YthpekfpeoglbgaaGreatDoorQ12
namespace Go.Proofs.YthpekfpeoglbgaaGreatDoor
open Go.RowKit Go.Hw
set_option linter.unusedVariables false
set_option linter.unusedSimpArgs false

def lnB (bad i : Nat) : List UInt8 := if i = bad then [109, 105, 110, 32, 49] else [109, 105, 110]
def lb (bad : Nat) : Nat → Nat → List UInt8
  | 0, _ => []
  | k + 1, i => lnB bad i ++ 10 :: lb bad k (i + 1)
theorem lb_snoc (bad : Nat) : ∀ k i, lb bad (k + 1) i = lb bad k i ++ (lnB bad (i + k) ++ [10])
  | 0, i => by simp [lb]
  | k + 1, i => by
    rw [lb, lb_snoc bad k (i + 1), lb]
    rw [show i + 1 + k = i + (k + 1) by omega]
    simp
theorem lnB_len (bad i : Nat) : (lnB bad i).length ≤ 5 := by unfold lnB; split <;> decide
theorem lb_len (bad : Nat) : ∀ k i, (lb bad k i).length ≤ 6 * k
  | 0, i => by simp [lb]
  | k + 1, i => by
    have h1 := lb_len bad k (i + 1)
    have h2 := lnB_len bad i
    rw [lb, List.length_append, List.length_cons]
    omega
theorem lnB_no (bad i : Nat) : (10 : UInt8) ∉ lnB bad i := by unfold lnB; split <;> decide
theorem op_min : opOf 2 [109, 105, 110] = some ⟨2, []⟩ := by
  have h : validOp 2 ⟨2, []⟩ = true := by decide
  exact opOf_text (kind := 2) h
theorem op_min1 : opOf 2 [109, 105, 110, 32, 49] = none := by
  refine opOf_none (fun o ho => ?_)
  have h1 := parts_good ho
  obtain ⟨h2, h3, h4, h5⟩ := valid_args ho.1
  have h6 : partsB (bs [109, 105, 110, 32, 49]) = [bs [109, 105, 110], bs [49]] := by
    have hj : [109, 105, 110, 32, 49] = jn [109, 105, 110] [[49]] := by decide
    have := split_jn [[49]] [109, 105, 110] (by decide) (by decide)
    rw [← hj] at this
    have hc : Lib.countB (bs [109, 105, 110, 32, 49]) ⟨#[32]⟩ = 1 := by
      show Lib.count _ _ = _
      rw [bs_data]
      exact this.1
    have h3 : (partsB (bs [109, 105, 110, 32, 49])).map (·.data.toList) = [[109, 105, 110], [49]] := by
      unfold partsB
      rw [Lib.splitB_data, hc, bs_data]
      exact this.2
    have h4 : (partsB (bs [109, 105, 110, 32, 49])).map (fun x => bs x.data.toList) = partsB (bs [109, 105, 110, 32, 49]) := by
      conv => rhs; rw [← List.map_id (partsB (bs [109, 105, 110, 32, 49]))]
      exact List.map_congr_left (fun x _ => bs_of x)
    rw [← h4, show (fun x : ByteArray => bs x.data.toList) = bs ∘ (fun x => x.data.toList) from rfl, ← List.map_map, h3]
    rfl
  rw [h6] at h1
  injection h1 with h7 h8
  have h9 := cd_good h4 h5
  rw [← h7] at h9
  have h10 : cdB 2 (bs [109, 105, 110]) = 2 := cd_good (kind := 2) (code := 2) (by decide) (by decide)
  rw [h10] at h9
  have h11 := congrArg List.length h8
  simp only [List.length_map, List.length_cons, List.length_nil] at h11
  have h12 := ho.1
  obtain ⟨oc, oa⟩ := o
  simp only at h9 h11
  subst h9
  unfold validOp at h12
  simp only [Bool.and_eq_true] at h12
  have h13 : ¬ (ar 2 2 < 0) := by decide
  rw [if_neg h13, Bool.and_eq_true] at h12
  have h14 := of_decide_eq_true h12.2.1
  have h15 : ar 2 2 = 0 := by decide
  rw [h15] at h14
  omega
def RLg (bad : Nat) : PR := if bad < 2000 then ⟨0, [], (bad : Int) + 2, 7⟩ else ⟨0, [], 2002, 4⟩
theorem lns_long (bad : Nat) : ∀ (f i : Nat) (acc : List OpM), i + f = 2000 → i ≤ bad → lns 2 f (lb bad (f + 1) i) acc = RLg bad := by
  intro f
  induction f with
  | zero =>
    intro i acc h hb
    rw [lns_full _ _ _ (by simp [lb])]
    unfold RLg
    rw [if_neg (by omega)]
  | succ f ih =>
    intro i acc h hb
    have hc := cut_at 10 (lnB bad i) (lb bad (f + 1) (i + 1)) (lnB_no bad i)
    have e : lb bad (f + 1 + 1) i = lnB bad i ++ 10 :: lb bad (f + 1) (i + 1) := rfl
    rw [e]
    by_cases hi : i = bad
    · rw [lns_bad _ _ _ _ (by simp) (Or.inr (by rw [hc]; simp only; unfold lnB; rw [if_pos hi]; exact op_min1))]
      unfold RLg
      rw [if_pos (by omega)]
      congr 1
      omega
    · rw [lns_step _ _ _ _ ⟨2, []⟩ (by simp) (by rw [hc]) (by rw [hc]; simp only; unfold lnB; rw [if_neg hi]; exact op_min), hc]
      exact ih (i + 1) _ (by omega) (by omega)
def tx (bad n : Nat) : List UInt8 := [115, 99, 114, 105, 112, 116, 32, 104, 101, 97, 112, 10] ++ lb bad n 0
theorem tx_len (bad n : Nat) : (tx bad n).length ≤ 12 + 6 * n := by
  have := lb_len bad n 0
  unfold tx
  rw [List.length_append]
  simp only [List.length_cons, List.length_nil]
  omega
theorem tx_parse (bad : Nat) : parseT (tx bad 2001) = RLg bad := by
  have hl := tx_len bad 2001
  have e : tx bad 2001 = ([115, 99, 114, 105, 112, 116, 32] ++ kWd 2) ++ 10 :: lb bad 2001 0 := by unfold tx; rfl
  have hc := cut_at 10 ([115, 99, 114, 105, 112, 116, 32] ++ kWd 2) (lb bad 2001 0) (kWd_no 2)
  have hk := kOf_word 2 (by decide)
  unfold parseT
  rw [if_neg (by omega), e, hc]
  simp only
  rw [hk, if_pos ⟨trivial, by decide⟩]
  exact lns_long bad 2000 0 [] rfl (Nat.zero_le _)
theorem tx_snoc (bad i : Nat) : tx bad (i + 1) = tx bad i ++ (lnB bad i ++ [10]) := by
  unfold tx
  rw [lb_snoc, Nat.zero_add, List.append_assoc]
/-! ### the text that is too long -/
def oL : OpM := ⟨1, List.replicate 60 100⟩
theorem oL_valid : validOp 6 oL = true := by decide +kernel
theorem oL_len : (opT 6 oL).length = 246 := by decide +kernel
theorem lnT_rep (o : OpM) (kind : Int) : ∀ n, (lnT kind (List.replicate n o)).length = n * ((opT kind o).length + 1)
  | 0 => by simp [lnT]
  | n + 1 => by
    rw [List.replicate_succ, lnT_cons, List.length_append, List.length_cons, lnT_rep o kind n, Nat.add_mul, Nat.one_mul]
    omega
theorem long_big : 65536 < (scT 6 (List.replicate 300 oL)).length := by
  unfold scT
  rw [List.length_append, lnT_rep, oL_len]
  omega
theorem long_valid : validL 6 (List.replicate 300 oL) = true := by
  unfold validL
  simp only [Bool.and_eq_true, decide_eq_true_eq, List.length_replicate]
  refine ⟨⟨by decide, by omega⟩, ?_⟩
  exact List.all_eq_true.2 (fun o ho => by rw [List.eq_of_mem_replicate ho]; exact oL_valid)
theorem long_ops (W : World) (g gi : Nat) (hg : W.heap[g]? = some (.cells (rp 300 [.int .i64 1, .slice (some ⟨gi, 0, none⟩) 60 60]).toArray 40)) (hi : W.heap[gi]? = some (.cells (List.replicate 60 (Value.int .i64 100)).toArray 3)) :
    OpsR (fun _ => True) W (.slice (some ⟨g, 0, none⟩) 300 300) (List.replicate 300 ⟨oL, .slice (some ⟨gi, 0, none⟩) 60 60⟩) := by
  have e : opCells (List.replicate 300 ⟨oL, .slice (some ⟨gi, 0, none⟩) 60 60⟩) = rp 300 [.int .i64 1, .slice (some ⟨gi, 0, none⟩) 60 60] := by
    unfold opCells rp
    rw [List.map_replicate]
    rfl
  refine ⟨?_, fun o ho => ?_⟩
  · rw [List.length_replicate, e]
    refine SlR.mk' (by rw [rp_len]; rfl) rfl (Nat.le_refl _) (fun _ => trivial) (fun j hj => ?_)
    rw [Nat.zero_add, cell_of_row W g j _ 40 _ hg]
    simp
  · rw [List.eq_of_mem_replicate ho]
    show NumR _ _ _ (List.replicate 60 100)
    unfold NumR
    rw [List.length_replicate]
    refine SlR.mk' (by rw [nums_length]; rfl) rfl (Nat.le_refl _) (fun _ => trivial) (fun j hj => ?_)
    rw [Nat.zero_add, cell_of_row W gi j _ 3 _ hi]
    unfold nums
    rw [List.map_replicate]
    simp
theorem strU8 (W : World) (g cap : Nat) (l : List UInt8) (h : ∀ j, j < l.length → W.cell? ⟨g, j, none⟩ = (Lib.byteCells l)[j]?) :
    (convert 34 9 (.slice (some ⟨g, 0, none⟩) l.length cap)).run Tryz.prog W = .ok (.string (bs l)) W := by
  refine run_convert_bytes_back (P := Tryz.prog) W 34 9 5 ⟨g, 0, none⟩ cap l Tryz.underlying34 Tryz.underlying5 Tryz.underlying9 (fun j hj => ?_)
  have e : (⟨g, 0, none⟩ : Addr).add j = ⟨g, j, none⟩ := by
    unfold Addr.add
    split
    · rename_i h0; simp [h0]
    · simp
  rw [e, h j hj]
  unfold Lib.byteCells
  simp [hj]

set_option maxHeartbeats 4000000 in
set_option maxRecDepth 100000 in
theorem long_a (x : Int) (bad : Nat) (w : World) (hx0 : 0 ≤ x) (hx1 : x ≤ 65535) (hbad : x % 4000 = (bad : Int)) (hb : bad < 2000) (hE : Env w) : Calls Tryz.prog 4 #[.int .u16 x, .bool false] w fun e w' => e = .returned (.bool true) ∧ Ext w w' := by
  obtain ⟨i0, hi, hz0, hz1, hz2⟩ := info_parts infoU8
  have HAW := Lib.hid (fun W : World => awake_any W)
  have HTB := Lib.hid hE.tab
  have hR : RLg bad = ⟨0, [], (bad : Int) + 2, 7⟩ := by unfold RLg; rw [if_pos hb]
  have HP : Hid (∀ W, Ext w W → Calls Tryz.prog 7 #[.string (bs (tx bad 2001))] W (PPost ⟨0, [], (bad : Int) + 2, 7⟩ W)) := fun W hW => by
    have := wparse_x (tx bad 2001) W (hE.ext hW) (by have := tx_len bad 2001; omega)
    rw [tx_parse, hR] at this
    exact this
  have HTL := Lib.hid (fun n => tx_len bad n)
  have hb4 : bad < 4000 := by omega
  have hbm : Int.tmod x 4000 = (bad : Int) := by rw [Int.tmod_eq_emod_of_nonneg hx0]; exact hbad
  have t1 : decide ((bad : Int) < 2000) = true := decide_eq_true (by omega)
  have t1' : decide (bad < 2000) = true := decide_eq_true (by omega)
  have heq := fun (a b c d : Int) (W : World) => eqP a b c d W
  have hA := Tryz.underlying34
  clear hE hR
  go_enter Tryz.func4, Tryz.ntmps4
  go_wp2_with fail
  refine (HAW.out _).mono ?_
  rintro e w2 ⟨rfl, h2⟩
  have HE2 := Lib.hid h2
  clear h2
  have hs12 : (bs (tx bad 0)).size = 12 := by rw [bs_size]; rfl
  go_wp2_with (at_builtin; refine Lib.wpList_append_own_string _ rfl (.tmp 18) _ 34 9 rfl w2.heap.size 5 i0 Tryz.underlying34 Tryz.underlying9 hi hz0 hz1 hz2 _ 0 [] rfl (World.ownsRow_nil _ _ _ _) (bs (tx bad 0)) rfl ?c3 ?c4 ?c5 ?_)
  case c3 => unfold maxLen; omega
  case c4 => omega
  case c5 => omega
  intro v3 w3 hown3 hgrow3 _
  have HO3 : Hid (w3.ownsRow w2.heap.size 5 1 v3 (tx bad 0).length (Lib.byteCells (tx bad 0))) := Lib.hid (by
    have := hown3
    rw [Lib.strCells_eq, bs_data] at this
    show w3.ownsRow _ 5 1 v3 12 _
    exact this)
  have HSZ3 := Lib.hid hgrow3.size
  have HE3 := Lib.hid (HE2.out.grown hgrow3 (fun k hk => by simp [Value.ownBlock] at hk))
  obtain ⟨a3, c3, hv3⟩ := own_shape HO3.out
  subst hv3
  clear hown3 hgrow3
  go_wp2_with fail
  go_loopg [5, 23] 2001 (fun gk bv i wr => ∃ j : Nat, i = .int .i64 j ∧ gk = 2001 - j ∧ j ≤ 2001 ∧ Hid (Ext w wr) ∧ Hid (w2.heap.size ≤ wr.heap.size) ∧ Hid (wr.ownsRow w2.heap.size 5 1 bv (tx bad j).length (Lib.byteCells (tx bad j))))
  case atStart => exact ⟨0, rfl, rfl, Nat.zero_le _, HE3.out, HSZ3.out, HO3.out⟩
  case round =>
    obtain ⟨j, rfl, rfl, hj, HE, HSZ, HO⟩ := hrel
    obtain ⟨a4, c4, hv4⟩ := own_shape HO.out
    subst hv4
    have hszr := HSZ.out
    have htl := HTL.out j
    by_cases hlt : j < 2001
    · have i0' : (0 : Int) ≤ (j : Int) := by omega
      by_cases hjb : j = bad
      · have b1 : ((j : Int) == (bad : Int)) = true := beq_iff_eq.2 (by omega)
        have b2 : (j == bad) = true := beq_iff_eq.2 hjb
        have HT : Hid (tx bad (j + 1) = tx bad j ++ [109, 105, 110, 32, 49, 10]) := Lib.hid (by rw [tx_snoc, lnB, if_pos hjb]; rfl)
        clear hjb
        go_wp2_with (at_builtin; refine Lib.wpList_append_own_string _ rfl (.tmp 29) _ 34 9 rfl w2.heap.size 5 i0 Tryz.underlying34 Tryz.underlying9 hi hz0 hz1 hz2 _ _ _ rfl HO.out ⟨#[109, 105, 110, 32, 49, 10]⟩ rfl ?c3 ?c4 ?c5 ?_)
        case c3 => unfold maxLen; show _ + 6 ≤ _; omega
        case c4 => show _ + 6 ≤ _; omega
        case c5 => omega
        intro v5 w5 hown5 hgrow5 _
        have HO5 : Hid (w5.ownsRow w2.heap.size 5 1 v5 (tx bad (j + 1)).length (Lib.byteCells (tx bad (j + 1)))) := Lib.hid (by
          have := hown5
          rw [Lib.strCells_eq] at this
          rw [HT.out, List.length_append, show Lib.byteCells (tx bad j ++ [109, 105, 110, 32, 49, 10]) = Lib.byteCells (tx bad j) ++ Lib.byteCells [109, 105, 110, 32, 49, 10] by simp [Lib.byteCells]]
          exact this)
        have hsz2 := HE2.out.size
        have HE5 := Lib.hid (HE.out.grown hgrow5 (fun k hk => by
          right
          have := (HO.out.lt k hk).1
          omega))
        have HSZ5 := Lib.hid (Nat.le_trans hszr hgrow5.size)
        obtain ⟨a5, c5, hv5⟩ := own_shape HO5.out
        subst hv5
        clear hown5 hgrow5 hsz2
        go_wp2_with fail
        go_roundg (2001 - (j + 1))
        case measure => omega
        case rel => exact ⟨j + 1, by go_num, rfl, by omega, HE5, HSZ5, HO5⟩
      · have b1 : ((j : Int) == (bad : Int)) = false := beq_eq_false_iff_ne.2 (by omega)
        have b2 : (j == bad) = false := beq_eq_false_iff_ne.2 hjb
        have HT : Hid (tx bad (j + 1) = tx bad j ++ [109, 105, 110, 10]) := Lib.hid (by rw [tx_snoc, lnB, if_neg hjb]; rfl)
        clear hjb
        go_wp2_with (at_builtin; refine Lib.wpList_append_own_string _ rfl (.tmp 31) _ 34 9 rfl w2.heap.size 5 i0 Tryz.underlying34 Tryz.underlying9 hi hz0 hz1 hz2 _ _ _ rfl HO.out ⟨#[109, 105, 110, 10]⟩ rfl ?c3 ?c4 ?c5 ?_)
        case c3 => unfold maxLen; show _ + 4 ≤ _; omega
        case c4 => show _ + 4 ≤ _; omega
        case c5 => omega
        intro v5 w5 hown5 hgrow5 _
        have HO5 : Hid (w5.ownsRow w2.heap.size 5 1 v5 (tx bad (j + 1)).length (Lib.byteCells (tx bad (j + 1)))) := Lib.hid (by
          have := hown5
          rw [Lib.strCells_eq] at this
          rw [HT.out, List.length_append, show Lib.byteCells (tx bad j ++ [109, 105, 110, 10]) = Lib.byteCells (tx bad j) ++ Lib.byteCells [109, 105, 110, 10] by simp [Lib.byteCells]]
          exact this)
        have hsz2 := HE2.out.size
        have HE5 := Lib.hid (HE.out.grown hgrow5 (fun k hk => by
          right
          have := (HO.out.lt k hk).1
          omega))
        have HSZ5 := Lib.hid (Nat.le_trans hszr hgrow5.size)
        obtain ⟨a5, c5, hv5⟩ := own_shape HO5.out
        subst hv5
        clear hown5 hgrow5 hsz2
        go_wp2_with fail
        go_roundg (2001 - (j + 1))
        case measure => omega
        case rel => exact ⟨j + 1, by go_num, rfl, by omega, HE5, HSZ5, HO5⟩
    · obtain rfl : j = 2001 := by omega
      have hpos : 0 < (tx bad 2001).length := by unfold tx; rw [List.length_append]; simp only [List.length_cons]; omega
      obtain ⟨g, cap, hv5, _, _, _, hcells, _⟩ := ownAt HO.out hpos
      injection hv5 with e1 e2 e3
      subst e1; subst e3
      have hcv := strU8 wr g c4 (tx bad 2001) (fun j hj => hcells j (by omega))
      have HE5 := HE
      have HP5 := Lib.hid (HP.out wr HE5.out)
      unfold PPost at HP5
      generalize (tx bad 2001).length = n at *
      generalize bs (tx bad 2001) = t at *
      clear hpos hcells e2
      go_wp2_with fail
      refine HP5.out.mono ?_
      rintro e w6 ⟨v1, L1, rfl, hO1, hL1, h6⟩
      have hL0 : L1 = [] := by
        have := congrArg List.length hL1
        rw [opsL_length] at this
        exact List.eq_nil_of_length_eq_zero this
      subst hL0
      obtain ⟨a1, c1, hv1⟩ := hO1.shape
      subst hv1
      have HE6 := Lib.hid (HE5.out.ext h6)
      have hb6 := alloc0 w6 (.cells #[.int .i64 ((bad : Int) + 2), .int .i64 1] 25)
      have HE7 := Lib.hid (HE6.out.alloc (.cells #[.int .i64 ((bad : Int) + 2), .int .i64 1] 25))
      have q0 := cellRow hb6 0 _ rfl
      have q1 := cellRow hb6 1 _ rfl
      clear h6 hO1 hL1 hb6
      go_wp2_with fail
      go_ret
      exact ⟨rfl, HE7.out⟩

set_option maxHeartbeats 4000000 in
set_option maxRecDepth 100000 in
theorem long_b (x : Int) (bad : Nat) (w : World) (hx0 : 0 ≤ x) (hx1 : x ≤ 65535) (hbad : x % 4000 = (bad : Int)) (hb : bad < 2000) (hE : Env w) : Calls Tryz.prog 4 #[.int .u16 x, .bool true] w fun e w' => e = .returned (.bool true) ∧ Ext w w' := by
  obtain ⟨i0, hi, hz0, hz1, hz2⟩ := info_parts infoU8
  have HAW := Lib.hid (fun W : World => awake_any W)
  have HTB := Lib.hid hE.tab
  have hR : RLg bad = ⟨0, [], (bad : Int) + 2, 7⟩ := by unfold RLg; rw [if_pos hb]
  have HP : Hid (∀ W, Ext w W → Calls Tryz.prog 7 #[.string (bs (tx bad 2001))] W (PPost ⟨0, [], (bad : Int) + 2, 7⟩ W)) := fun W hW => by
    have := wparse_x (tx bad 2001) W (hE.ext hW) (by have := tx_len bad 2001; omega)
    rw [tx_parse, hR] at this
    exact this
  have HTL := Lib.hid (fun n => tx_len bad n)
  have hb4 : bad < 4000 := by omega
  have hbm : Int.tmod x 4000 = (bad : Int) := by rw [Int.tmod_eq_emod_of_nonneg hx0]; exact hbad
  have t1 : decide ((bad : Int) < 2000) = true := decide_eq_true (by omega)
  have t1' : decide (bad < 2000) = true := decide_eq_true (by omega)
  have heq := fun (a b c d : Int) (W : World) => eqP a b c d W
  have hA := Tryz.underlying34
  clear hE hR
  go_enter Tryz.func4, Tryz.ntmps4
  go_wp2_with fail
  refine (HAW.out _).mono ?_
  rintro e w2 ⟨rfl, h2⟩
  have HE2 := Lib.hid h2
  clear h2
  have hs12 : (bs (tx bad 0)).size = 12 := by rw [bs_size]; rfl
  go_wp2_with (at_builtin; refine Lib.wpList_append_own_string _ rfl (.tmp 18) _ 34 9 rfl w2.heap.size 5 i0 Tryz.underlying34 Tryz.underlying9 hi hz0 hz1 hz2 _ 0 [] rfl (World.ownsRow_nil _ _ _ _) (bs (tx bad 0)) rfl ?c3 ?c4 ?c5 ?_)
  case c3 => unfold maxLen; omega
  case c4 => omega
  case c5 => omega
  intro v3 w3 hown3 hgrow3 _
  have HO3 : Hid (w3.ownsRow w2.heap.size 5 1 v3 (tx bad 0).length (Lib.byteCells (tx bad 0))) := Lib.hid (by
    have := hown3
    rw [Lib.strCells_eq, bs_data] at this
    show w3.ownsRow _ 5 1 v3 12 _
    exact this)
  have HSZ3 := Lib.hid hgrow3.size
  have HE3 := Lib.hid (HE2.out.grown hgrow3 (fun k hk => by simp [Value.ownBlock] at hk))
  obtain ⟨a3, c3, hv3⟩ := own_shape HO3.out
  subst hv3
  clear hown3 hgrow3
  go_wp2_with fail
  go_loopg [5, 23] 2001 (fun gk bv i wr => ∃ j : Nat, i = .int .i64 j ∧ gk = 2001 - j ∧ j ≤ 2001 ∧ Hid (Ext w wr) ∧ Hid (w2.heap.size ≤ wr.heap.size) ∧ Hid (wr.ownsRow w2.heap.size 5 1 bv (tx bad j).length (Lib.byteCells (tx bad j))))
  case atStart => exact ⟨0, rfl, rfl, Nat.zero_le _, HE3.out, HSZ3.out, HO3.out⟩
  case round =>
    obtain ⟨j, rfl, rfl, hj, HE, HSZ, HO⟩ := hrel
    obtain ⟨a4, c4, hv4⟩ := own_shape HO.out
    subst hv4
    have hszr := HSZ.out
    have htl := HTL.out j
    by_cases hlt : j < 2001
    · have i0' : (0 : Int) ≤ (j : Int) := by omega
      by_cases hjb : j = bad
      · have b1 : ((j : Int) == (bad : Int)) = true := beq_iff_eq.2 (by omega)
        have b2 : (j == bad) = true := beq_iff_eq.2 hjb
        have HT : Hid (tx bad (j + 1) = tx bad j ++ [109, 105, 110, 32, 49, 10]) := Lib.hid (by rw [tx_snoc, lnB, if_pos hjb]; rfl)
        clear hjb
        go_wp2_with (at_builtin; refine Lib.wpList_append_own_string _ rfl (.tmp 29) _ 34 9 rfl w2.heap.size 5 i0 Tryz.underlying34 Tryz.underlying9 hi hz0 hz1 hz2 _ _ _ rfl HO.out ⟨#[109, 105, 110, 32, 49, 10]⟩ rfl ?c3 ?c4 ?c5 ?_)
        case c3 => unfold maxLen; show _ + 6 ≤ _; omega
        case c4 => show _ + 6 ≤ _; omega
        case c5 => omega
        intro v5 w5 hown5 hgrow5 _
        have HO5 : Hid (w5.ownsRow w2.heap.size 5 1 v5 (tx bad (j + 1)).length (Lib.byteCells (tx bad (j + 1)))) := Lib.hid (by
          have := hown5
          rw [Lib.strCells_eq] at this
          rw [HT.out, List.length_append, show Lib.byteCells (tx bad j ++ [109, 105, 110, 32, 49, 10]) = Lib.byteCells (tx bad j) ++ Lib.byteCells [109, 105, 110, 32, 49, 10] by simp [Lib.byteCells]]
          exact this)
        have hsz2 := HE2.out.size
        have HE5 := Lib.hid (HE.out.grown hgrow5 (fun k hk => by
          right
          have := (HO.out.lt k hk).1
          omega))
        have HSZ5 := Lib.hid (Nat.le_trans hszr hgrow5.size)
        obtain ⟨a5, c5, hv5⟩ := own_shape HO5.out
        subst hv5
        clear hown5 hgrow5 hsz2
        go_wp2_with fail
        go_roundg (2001 - (j + 1))
        case measure => omega
        case rel => exact ⟨j + 1, by go_num, rfl, by omega, HE5, HSZ5, HO5⟩
      · have b1 : ((j : Int) == (bad : Int)) = false := beq_eq_false_iff_ne.2 (by omega)
        have b2 : (j == bad) = false := beq_eq_false_iff_ne.2 hjb
        have HT : Hid (tx bad (j + 1) = tx bad j ++ [109, 105, 110, 10]) := Lib.hid (by rw [tx_snoc, lnB, if_neg hjb]; rfl)
        clear hjb
        go_wp2_with (at_builtin; refine Lib.wpList_append_own_string _ rfl (.tmp 31) _ 34 9 rfl w2.heap.size 5 i0 Tryz.underlying34 Tryz.underlying9 hi hz0 hz1 hz2 _ _ _ rfl HO.out ⟨#[109, 105, 110, 10]⟩ rfl ?c3 ?c4 ?c5 ?_)
        case c3 => unfold maxLen; show _ + 4 ≤ _; omega
        case c4 => show _ + 4 ≤ _; omega
        case c5 => omega
        intro v5 w5 hown5 hgrow5 _
        have HO5 : Hid (w5.ownsRow w2.heap.size 5 1 v5 (tx bad (j + 1)).length (Lib.byteCells (tx bad (j + 1)))) := Lib.hid (by
          have := hown5
          rw [Lib.strCells_eq] at this
          rw [HT.out, List.length_append, show Lib.byteCells (tx bad j ++ [109, 105, 110, 10]) = Lib.byteCells (tx bad j) ++ Lib.byteCells [109, 105, 110, 10] by simp [Lib.byteCells]]
          exact this)
        have hsz2 := HE2.out.size
        have HE5 := Lib.hid (HE.out.grown hgrow5 (fun k hk => by
          right
          have := (HO.out.lt k hk).1
          omega))
        have HSZ5 := Lib.hid (Nat.le_trans hszr hgrow5.size)
        obtain ⟨a5, c5, hv5⟩ := own_shape HO5.out
        subst hv5
        clear hown5 hgrow5 hsz2
        go_wp2_with fail
        go_roundg (2001 - (j + 1))
        case measure => omega
        case rel => exact ⟨j + 1, by go_num, rfl, by omega, HE5, HSZ5, HO5⟩
    · obtain rfl : j = 2001 := by omega
      have hpos : 0 < (tx bad 2001).length := by unfold tx; rw [List.length_append]; simp only [List.length_cons]; omega
      obtain ⟨g, cap, hv5, _, _, _, hcells, _⟩ := ownAt HO.out hpos
      injection hv5 with e1 e2 e3
      subst e1; subst e3
      have hcv := strU8 wr g c4 (tx bad 2001) (fun j hj => hcells j (by omega))
      have HE5 := HE
      have HP5 := Lib.hid (HP.out wr HE5.out)
      unfold PPost at HP5
      generalize (tx bad 2001).length = n at *
      generalize bs (tx bad 2001) = t at *
      clear hpos hcells e2
      go_wp2_with fail
      refine HP5.out.mono ?_
      rintro e w6 ⟨v1, L1, rfl, hO1, hL1, h6⟩
      have hL0 : L1 = [] := by
        have := congrArg List.length hL1
        rw [opsL_length] at this
        exact List.eq_nil_of_length_eq_zero this
      subst hL0
      obtain ⟨a1, c1, hv1⟩ := hO1.shape
      subst hv1
      have HE6 := Lib.hid (HE5.out.ext h6)
      have hb6 := alloc0 w6 (.cells #[.int .i64 ((bad : Int) + 2), .int .i64 1] 25)
      have HE7 := Lib.hid (HE6.out.alloc (.cells #[.int .i64 ((bad : Int) + 2), .int .i64 1] 25))
      have q0 := cellRow hb6 0 _ rfl
      have q1 := cellRow hb6 1 _ rfl
      clear h6 hO1 hL1 hb6
      go_wp2_with (with_reducible (refine stop_at (o := ⟨some 68, _, _, _, _, _⟩) ?_))
      refine Stop.go ?_
      obtain ⟨w7, hw7⟩ : ∃ w7, (w6.alloc (.cells #[.int .i64 ((bad : Int) + 2), .int .i64 1] 25)).alloc (.cells #[.int .i64 100] 3) = w7 := ⟨_, rfl⟩
      have hbl : w7.heap[w6.heap.size + 1]? = some (.cells #[.int .i64 100] 3) := by rw [← hw7]; exact alloc_at _ _ (by simp)
      have HE8 : Hid (Ext w w7) := Lib.hid (by rw [← hw7]; exact HE7.out.alloc _)
      rw [hw7]
      clear hw7 q0 q1
      have HRI := Lib.hid (repeat_any 100 (w6.heap.size + 1) 1 60 w7 (cellRow hbl 0 _ rfl) (by decide) (by decide))
      clear hbl
      go_wp2_with fail
      refine HRI.out.mono ?_
      rintro e w8 ⟨rfl, hg8, h8⟩
      have HG8 := Lib.hid hg8
      have HE9 := Lib.hid (HE8.out.ext h8)
      clear hg8 h8
      go_wp2_with (with_reducible (refine stop_at (o := ⟨some 71, _, _, _, _, _⟩) ?_))
      refine Stop.go ?_
      obtain ⟨gi, hgi⟩ : ∃ gi, w7.heap.size = gi := ⟨_, rfl⟩
      rw [hgi] at HG8 ⊢
      obtain ⟨w9, hw9⟩ : ∃ w9, w8.alloc (.cells #[.int .i64 1, .slice (some ⟨gi, 0, none⟩) 60 60] 40) = w9 := ⟨_, rfl⟩
      have hbl : w9.heap[w8.heap.size]? = some (.cells #[.int .i64 1, .slice (some ⟨gi, 0, none⟩) 60 60] 40) := by rw [← hw9]; exact alloc0 _ _
      have HE10 : Hid (Ext w w9) := Lib.hid (by rw [← hw9]; exact HE9.out.alloc _)
      have HG9 : Hid (w9.heap[gi]? = some (.cells (List.replicate 60 (Value.int .i64 100)).toArray 3)) := Lib.hid (by rw [← hw9]; exact allocOld HG8.out _)
      rw [hw9]
      clear hw9
      have HRO := Lib.hid (repeat_op [.int .i64 1, .slice (some ⟨gi, 0, none⟩) 60 60] rfl (by intro v hv; simp at hv; rcases hv with rfl | rfl <;> rfl) w8.heap.size 1 300 w9 (fun r hr => by
        rw [cell_of_row w9 _ r _ _ _ hbl]
        rcases r with _ | _ | r <;> first | rfl | omega) (by decide) (by decide))
      clear hbl
      go_wp2_with fail
      refine HRO.out.mono ?_
      rintro e w10 ⟨rfl, hg10, h10⟩
      have HE11 := Lib.hid (HE10.out.ext h10)
      have HOP := long_ops w10 _ gi hg10 (h10.heap HG9.out (fun h => h))
      have e9 : opsL (List.replicate 300 (⟨oL, .slice (some ⟨gi, 0, none⟩) 60 60⟩ : OpV)) = List.replicate 300 oL := by unfold opsL; rw [List.map_replicate]
      have HTX := Lib.hid (wtext_ok 6 _ _ w10 _ HOP (tab_ext HTB.out HE11.out) (by rw [e9]; exact long_valid) ⟨#[]⟩ 4 (Or.inr ⟨rfl, rfl, by rw [e9]; exact long_big⟩))
      clear hg10 h10 HOP e9
      go_wp2_with fail
      refine HTX.out.mono ?_
      rintro e w11 ⟨rfl, h11⟩
      have HE12 := Lib.hid (HE11.out.ext h11)
      clear h11
      go_wp2_with fail
      go_ret
      exact ⟨rfl, HE12.out⟩

set_option maxHeartbeats 4000000 in
set_option maxRecDepth 100000 in
theorem long_c (x : Int) (bad : Nat) (w : World) (hx0 : 0 ≤ x) (hx1 : x ≤ 65535) (hbad : x % 4000 = (bad : Int)) (hb : ¬ bad < 2000) (hE : Env w) : Calls Tryz.prog 4 #[.int .u16 x, .bool false] w fun e w' => e = .returned (.bool true) ∧ Ext w w' := by
  obtain ⟨i0, hi, hz0, hz1, hz2⟩ := info_parts infoU8
  have HAW := Lib.hid (fun W : World => awake_any W)
  have HTB := Lib.hid hE.tab
  have hR : RLg bad = ⟨0, [], 2002, 4⟩ := by unfold RLg; rw [if_neg hb]
  have HP : Hid (∀ W, Ext w W → Calls Tryz.prog 7 #[.string (bs (tx bad 2001))] W (PPost ⟨0, [], 2002, 4⟩ W)) := fun W hW => by
    have := wparse_x (tx bad 2001) W (hE.ext hW) (by have := tx_len bad 2001; omega)
    rw [tx_parse, hR] at this
    exact this
  have HTL := Lib.hid (fun n => tx_len bad n)
  have hb4 : bad < 4000 := by omega
  have hbm : Int.tmod x 4000 = (bad : Int) := by rw [Int.tmod_eq_emod_of_nonneg hx0]; exact hbad
  have t1 : decide ((bad : Int) < 2000) = false := decide_eq_false (by omega)
  have t1' : decide (bad < 2000) = false := decide_eq_false (by omega)
  have heq := fun (a b c d : Int) (W : World) => eqP a b c d W
  have hA := Tryz.underlying34
  clear hE hR
  go_enter Tryz.func4, Tryz.ntmps4
  go_wp2_with fail
  refine (HAW.out _).mono ?_
  rintro e w2 ⟨rfl, h2⟩
  have HE2 := Lib.hid h2
  clear h2
  have hs12 : (bs (tx bad 0)).size = 12 := by rw [bs_size]; rfl
  go_wp2_with (at_builtin; refine Lib.wpList_append_own_string _ rfl (.tmp 18) _ 34 9 rfl w2.heap.size 5 i0 Tryz.underlying34 Tryz.underlying9 hi hz0 hz1 hz2 _ 0 [] rfl (World.ownsRow_nil _ _ _ _) (bs (tx bad 0)) rfl ?c3 ?c4 ?c5 ?_)
  case c3 => unfold maxLen; omega
  case c4 => omega
  case c5 => omega
  intro v3 w3 hown3 hgrow3 _
  have HO3 : Hid (w3.ownsRow w2.heap.size 5 1 v3 (tx bad 0).length (Lib.byteCells (tx bad 0))) := Lib.hid (by
    have := hown3
    rw [Lib.strCells_eq, bs_data] at this
    show w3.ownsRow _ 5 1 v3 12 _
    exact this)
  have HSZ3 := Lib.hid hgrow3.size
  have HE3 := Lib.hid (HE2.out.grown hgrow3 (fun k hk => by simp [Value.ownBlock] at hk))
  obtain ⟨a3, c3, hv3⟩ := own_shape HO3.out
  subst hv3
  clear hown3 hgrow3
  go_wp2_with fail
  go_loopg [5, 23] 2001 (fun gk bv i wr => ∃ j : Nat, i = .int .i64 j ∧ gk = 2001 - j ∧ j ≤ 2001 ∧ Hid (Ext w wr) ∧ Hid (w2.heap.size ≤ wr.heap.size) ∧ Hid (wr.ownsRow w2.heap.size 5 1 bv (tx bad j).length (Lib.byteCells (tx bad j))))
  case atStart => exact ⟨0, rfl, rfl, Nat.zero_le _, HE3.out, HSZ3.out, HO3.out⟩
  case round =>
    obtain ⟨j, rfl, rfl, hj, HE, HSZ, HO⟩ := hrel
    obtain ⟨a4, c4, hv4⟩ := own_shape HO.out
    subst hv4
    have hszr := HSZ.out
    have htl := HTL.out j
    by_cases hlt : j < 2001
    · have i0' : (0 : Int) ≤ (j : Int) := by omega
      by_cases hjb : j = bad
      · have b1 : ((j : Int) == (bad : Int)) = true := beq_iff_eq.2 (by omega)
        have b2 : (j == bad) = true := beq_iff_eq.2 hjb
        have HT : Hid (tx bad (j + 1) = tx bad j ++ [109, 105, 110, 32, 49, 10]) := Lib.hid (by rw [tx_snoc, lnB, if_pos hjb]; rfl)
        clear hjb
        go_wp2_with (at_builtin; refine Lib.wpList_append_own_string _ rfl (.tmp 29) _ 34 9 rfl w2.heap.size 5 i0 Tryz.underlying34 Tryz.underlying9 hi hz0 hz1 hz2 _ _ _ rfl HO.out ⟨#[109, 105, 110, 32, 49, 10]⟩ rfl ?c3 ?c4 ?c5 ?_)
        case c3 => unfold maxLen; show _ + 6 ≤ _; omega
        case c4 => show _ + 6 ≤ _; omega
        case c5 => omega
        intro v5 w5 hown5 hgrow5 _
        have HO5 : Hid (w5.ownsRow w2.heap.size 5 1 v5 (tx bad (j + 1)).length (Lib.byteCells (tx bad (j + 1)))) := Lib.hid (by
          have := hown5
          rw [Lib.strCells_eq] at this
          rw [HT.out, List.length_append, show Lib.byteCells (tx bad j ++ [109, 105, 110, 32, 49, 10]) = Lib.byteCells (tx bad j) ++ Lib.byteCells [109, 105, 110, 32, 49, 10] by simp [Lib.byteCells]]
          exact this)
        have hsz2 := HE2.out.size
        have HE5 := Lib.hid (HE.out.grown hgrow5 (fun k hk => by
          right
          have := (HO.out.lt k hk).1
          omega))
        have HSZ5 := Lib.hid (Nat.le_trans hszr hgrow5.size)
        obtain ⟨a5, c5, hv5⟩ := own_shape HO5.out
        subst hv5
        clear hown5 hgrow5 hsz2
        go_wp2_with fail
        go_roundg (2001 - (j + 1))
        case measure => omega
        case rel => exact ⟨j + 1, by go_num, rfl, by omega, HE5, HSZ5, HO5⟩
      · have b1 : ((j : Int) == (bad : Int)) = false := beq_eq_false_iff_ne.2 (by omega)
        have b2 : (j == bad) = false := beq_eq_false_iff_ne.2 hjb
        have HT : Hid (tx bad (j + 1) = tx bad j ++ [109, 105, 110, 10]) := Lib.hid (by rw [tx_snoc, lnB, if_neg hjb]; rfl)
        clear hjb
        go_wp2_with (at_builtin; refine Lib.wpList_append_own_string _ rfl (.tmp 31) _ 34 9 rfl w2.heap.size 5 i0 Tryz.underlying34 Tryz.underlying9 hi hz0 hz1 hz2 _ _ _ rfl HO.out ⟨#[109, 105, 110, 10]⟩ rfl ?c3 ?c4 ?c5 ?_)
        case c3 => unfold maxLen; show _ + 4 ≤ _; omega
        case c4 => show _ + 4 ≤ _; omega
        case c5 => omega
        intro v5 w5 hown5 hgrow5 _
        have HO5 : Hid (w5.ownsRow w2.heap.size 5 1 v5 (tx bad (j + 1)).length (Lib.byteCells (tx bad (j + 1)))) := Lib.hid (by
          have := hown5
          rw [Lib.strCells_eq] at this
          rw [HT.out, List.length_append, show Lib.byteCells (tx bad j ++ [109, 105, 110, 10]) = Lib.byteCells (tx bad j) ++ Lib.byteCells [109, 105, 110, 10] by simp [Lib.byteCells]]
          exact this)
        have hsz2 := HE2.out.size
        have HE5 := Lib.hid (HE.out.grown hgrow5 (fun k hk => by
          right
          have := (HO.out.lt k hk).1
          omega))
        have HSZ5 := Lib.hid (Nat.le_trans hszr hgrow5.size)
        obtain ⟨a5, c5, hv5⟩ := own_shape HO5.out
        subst hv5
        clear hown5 hgrow5 hsz2
        go_wp2_with fail
        go_roundg (2001 - (j + 1))
        case measure => omega
        case rel => exact ⟨j + 1, by go_num, rfl, by omega, HE5, HSZ5, HO5⟩
    · obtain rfl : j = 2001 := by omega
      have hpos : 0 < (tx bad 2001).length := by unfold tx; rw [List.length_append]; simp only [List.length_cons]; omega
      obtain ⟨g, cap, hv5, _, _, _, hcells, _⟩ := ownAt HO.out hpos
      injection hv5 with e1 e2 e3
      subst e1; subst e3
      have hcv := strU8 wr g c4 (tx bad 2001) (fun j hj => hcells j (by omega))
      have HE5 := HE
      have HP5 := Lib.hid (HP.out wr HE5.out)
      unfold PPost at HP5
      generalize (tx bad 2001).length = n at *
      generalize bs (tx bad 2001) = t at *
      clear hpos hcells e2
      go_wp2_with fail
      refine HP5.out.mono ?_
      rintro e w6 ⟨v1, L1, rfl, hO1, hL1, h6⟩
      have hL0 : L1 = [] := by
        have := congrArg List.length hL1
        rw [opsL_length] at this
        exact List.eq_nil_of_length_eq_zero this
      subst hL0
      obtain ⟨a1, c1, hv1⟩ := hO1.shape
      subst hv1
      have HE6 := Lib.hid (HE5.out.ext h6)
      have hb6 := alloc0 w6 (.cells #[.int .i64 2002, .int .i64 1] 25)
      have HE7 := Lib.hid (HE6.out.alloc (.cells #[.int .i64 2002, .int .i64 1] 25))
      have q0 := cellRow hb6 0 _ rfl
      have q1 := cellRow hb6 1 _ rfl
      clear h6 hO1 hL1 hb6
      go_wp2_with fail
      go_ret
      exact ⟨rfl, HE7.out⟩

set_option maxHeartbeats 4000000 in
set_option maxRecDepth 100000 in
theorem long_d (x : Int) (bad : Nat) (w : World) (hx0 : 0 ≤ x) (hx1 : x ≤ 65535) (hbad : x % 4000 = (bad : Int)) (hb : ¬ bad < 2000) (hE : Env w) : Calls Tryz.prog 4 #[.int .u16 x, .bool true] w fun e w' => e = .returned (.bool true) ∧ Ext w w' := by
  obtain ⟨i0, hi, hz0, hz1, hz2⟩ := info_parts infoU8
  have HAW := Lib.hid (fun W : World => awake_any W)
  have HTB := Lib.hid hE.tab
  have hR : RLg bad = ⟨0, [], 2002, 4⟩ := by unfold RLg; rw [if_neg hb]
  have HP : Hid (∀ W, Ext w W → Calls Tryz.prog 7 #[.string (bs (tx bad 2001))] W (PPost ⟨0, [], 2002, 4⟩ W)) := fun W hW => by
    have := wparse_x (tx bad 2001) W (hE.ext hW) (by have := tx_len bad 2001; omega)
    rw [tx_parse, hR] at this
    exact this
  have HTL := Lib.hid (fun n => tx_len bad n)
  have hb4 : bad < 4000 := by omega
  have hbm : Int.tmod x 4000 = (bad : Int) := by rw [Int.tmod_eq_emod_of_nonneg hx0]; exact hbad
  have t1 : decide ((bad : Int) < 2000) = false := decide_eq_false (by omega)
  have t1' : decide (bad < 2000) = false := decide_eq_false (by omega)
  have heq := fun (a b c d : Int) (W : World) => eqP a b c d W
  have hA := Tryz.underlying34
  clear hE hR
  go_enter Tryz.func4, Tryz.ntmps4
  go_wp2_with fail
  refine (HAW.out _).mono ?_
  rintro e w2 ⟨rfl, h2⟩
  have HE2 := Lib.hid h2
  clear h2
  have hs12 : (bs (tx bad 0)).size = 12 := by rw [bs_size]; rfl
  go_wp2_with (at_builtin; refine Lib.wpList_append_own_string _ rfl (.tmp 18) _ 34 9 rfl w2.heap.size 5 i0 Tryz.underlying34 Tryz.underlying9 hi hz0 hz1 hz2 _ 0 [] rfl (World.ownsRow_nil _ _ _ _) (bs (tx bad 0)) rfl ?c3 ?c4 ?c5 ?_)
  case c3 => unfold maxLen; omega
  case c4 => omega
  case c5 => omega
  intro v3 w3 hown3 hgrow3 _
  have HO3 : Hid (w3.ownsRow w2.heap.size 5 1 v3 (tx bad 0).length (Lib.byteCells (tx bad 0))) := Lib.hid (by
    have := hown3
    rw [Lib.strCells_eq, bs_data] at this
    show w3.ownsRow _ 5 1 v3 12 _
    exact this)
  have HSZ3 := Lib.hid hgrow3.size
  have HE3 := Lib.hid (HE2.out.grown hgrow3 (fun k hk => by simp [Value.ownBlock] at hk))
  obtain ⟨a3, c3, hv3⟩ := own_shape HO3.out
  subst hv3
  clear hown3 hgrow3
  go_wp2_with fail
  go_loopg [5, 23] 2001 (fun gk bv i wr => ∃ j : Nat, i = .int .i64 j ∧ gk = 2001 - j ∧ j ≤ 2001 ∧ Hid (Ext w wr) ∧ Hid (w2.heap.size ≤ wr.heap.size) ∧ Hid (wr.ownsRow w2.heap.size 5 1 bv (tx bad j).length (Lib.byteCells (tx bad j))))
  case atStart => exact ⟨0, rfl, rfl, Nat.zero_le _, HE3.out, HSZ3.out, HO3.out⟩
  case round =>
    obtain ⟨j, rfl, rfl, hj, HE, HSZ, HO⟩ := hrel
    obtain ⟨a4, c4, hv4⟩ := own_shape HO.out
    subst hv4
    have hszr := HSZ.out
    have htl := HTL.out j
    by_cases hlt : j < 2001
    · have i0' : (0 : Int) ≤ (j : Int) := by omega
      by_cases hjb : j = bad
      · have b1 : ((j : Int) == (bad : Int)) = true := beq_iff_eq.2 (by omega)
        have b2 : (j == bad) = true := beq_iff_eq.2 hjb
        have HT : Hid (tx bad (j + 1) = tx bad j ++ [109, 105, 110, 32, 49, 10]) := Lib.hid (by rw [tx_snoc, lnB, if_pos hjb]; rfl)
        clear hjb
        go_wp2_with (at_builtin; refine Lib.wpList_append_own_string _ rfl (.tmp 29) _ 34 9 rfl w2.heap.size 5 i0 Tryz.underlying34 Tryz.underlying9 hi hz0 hz1 hz2 _ _ _ rfl HO.out ⟨#[109, 105, 110, 32, 49, 10]⟩ rfl ?c3 ?c4 ?c5 ?_)
        case c3 => unfold maxLen; show _ + 6 ≤ _; omega
        case c4 => show _ + 6 ≤ _; omega
        case c5 => omega
        intro v5 w5 hown5 hgrow5 _
        have HO5 : Hid (w5.ownsRow w2.heap.size 5 1 v5 (tx bad (j + 1)).length (Lib.byteCells (tx bad (j + 1)))) := Lib.hid (by
          have := hown5
          rw [Lib.strCells_eq] at this
          rw [HT.out, List.length_append, show Lib.byteCells (tx bad j ++ [109, 105, 110, 32, 49, 10]) = Lib.byteCells (tx bad j) ++ Lib.byteCells [109, 105, 110, 32, 49, 10] by simp [Lib.byteCells]]
          exact this)
        have hsz2 := HE2.out.size
        have HE5 := Lib.hid (HE.out.grown hgrow5 (fun k hk => by
          right
          have := (HO.out.lt k hk).1
          omega))
        have HSZ5 := Lib.hid (Nat.le_trans hszr hgrow5.size)
        obtain ⟨a5, c5, hv5⟩ := own_shape HO5.out
        subst hv5
        clear hown5 hgrow5 hsz2
        go_wp2_with fail
        go_roundg (2001 - (j + 1))
        case measure => omega
        case rel => exact ⟨j + 1, by go_num, rfl, by omega, HE5, HSZ5, HO5⟩
      · have b1 : ((j : Int) == (bad : Int)) = false := beq_eq_false_iff_ne.2 (by omega)
        have b2 : (j == bad) = false := beq_eq_false_iff_ne.2 hjb
        have HT : Hid (tx bad (j + 1) = tx bad j ++ [109, 105, 110, 10]) := Lib.hid (by rw [tx_snoc, lnB, if_neg hjb]; rfl)
        clear hjb
        go_wp2_with (at_builtin; refine Lib.wpList_append_own_string _ rfl (.tmp 31) _ 34 9 rfl w2.heap.size 5 i0 Tryz.underlying34 Tryz.underlying9 hi hz0 hz1 hz2 _ _ _ rfl HO.out ⟨#[109, 105, 110, 10]⟩ rfl ?c3 ?c4 ?c5 ?_)
        case c3 => unfold maxLen; show _ + 4 ≤ _; omega
        case c4 => show _ + 4 ≤ _; omega
        case c5 => omega
        intro v5 w5 hown5 hgrow5 _
        have HO5 : Hid (w5.ownsRow w2.heap.size 5 1 v5 (tx bad (j + 1)).length (Lib.byteCells (tx bad (j + 1)))) := Lib.hid (by
          have := hown5
          rw [Lib.strCells_eq] at this
          rw [HT.out, List.length_append, show Lib.byteCells (tx bad j ++ [109, 105, 110, 10]) = Lib.byteCells (tx bad j) ++ Lib.byteCells [109, 105, 110, 10] by simp [Lib.byteCells]]
          exact this)
        have hsz2 := HE2.out.size
        have HE5 := Lib.hid (HE.out.grown hgrow5 (fun k hk => by
          right
          have := (HO.out.lt k hk).1
          omega))
        have HSZ5 := Lib.hid (Nat.le_trans hszr hgrow5.size)
        obtain ⟨a5, c5, hv5⟩ := own_shape HO5.out
        subst hv5
        clear hown5 hgrow5 hsz2
        go_wp2_with fail
        go_roundg (2001 - (j + 1))
        case measure => omega
        case rel => exact ⟨j + 1, by go_num, rfl, by omega, HE5, HSZ5, HO5⟩
    · obtain rfl : j = 2001 := by omega
      have hpos : 0 < (tx bad 2001).length := by unfold tx; rw [List.length_append]; simp only [List.length_cons]; omega
      obtain ⟨g, cap, hv5, _, _, _, hcells, _⟩ := ownAt HO.out hpos
      injection hv5 with e1 e2 e3
      subst e1; subst e3
      have hcv := strU8 wr g c4 (tx bad 2001) (fun j hj => hcells j (by omega))
      have HE5 := HE
      have HP5 := Lib.hid (HP.out wr HE5.out)
      unfold PPost at HP5
      generalize (tx bad 2001).length = n at *
      generalize bs (tx bad 2001) = t at *
      clear hpos hcells e2
      go_wp2_with fail
      refine HP5.out.mono ?_
      rintro e w6 ⟨v1, L1, rfl, hO1, hL1, h6⟩
      have hL0 : L1 = [] := by
        have := congrArg List.length hL1
        rw [opsL_length] at this
        exact List.eq_nil_of_length_eq_zero this
      subst hL0
      obtain ⟨a1, c1, hv1⟩ := hO1.shape
      subst hv1
      have HE6 := Lib.hid (HE5.out.ext h6)
      have hb6 := alloc0 w6 (.cells #[.int .i64 2002, .int .i64 1] 25)
      have HE7 := Lib.hid (HE6.out.alloc (.cells #[.int .i64 2002, .int .i64 1] 25))
      have q0 := cellRow hb6 0 _ rfl
      have q1 := cellRow hb6 1 _ rfl
      clear h6 hO1 hL1 hb6
      go_wp2_with (with_reducible (refine stop_at (o := ⟨some 68, _, _, _, _, _⟩) ?_))
      refine Stop.go ?_
      obtain ⟨w7, hw7⟩ : ∃ w7, (w6.alloc (.cells #[.int .i64 2002, .int .i64 1] 25)).alloc (.cells #[.int .i64 100] 3) = w7 := ⟨_, rfl⟩
      have hbl : w7.heap[w6.heap.size + 1]? = some (.cells #[.int .i64 100] 3) := by rw [← hw7]; exact alloc_at _ _ (by simp)
      have HE8 : Hid (Ext w w7) := Lib.hid (by rw [← hw7]; exact HE7.out.alloc _)
      rw [hw7]
      clear hw7 q0 q1
      have HRI := Lib.hid (repeat_any 100 (w6.heap.size + 1) 1 60 w7 (cellRow hbl 0 _ rfl) (by decide) (by decide))
      clear hbl
      go_wp2_with fail
      refine HRI.out.mono ?_
      rintro e w8 ⟨rfl, hg8, h8⟩
      have HG8 := Lib.hid hg8
      have HE9 := Lib.hid (HE8.out.ext h8)
      clear hg8 h8
      go_wp2_with (with_reducible (refine stop_at (o := ⟨some 71, _, _, _, _, _⟩) ?_))
      refine Stop.go ?_
      obtain ⟨gi, hgi⟩ : ∃ gi, w7.heap.size = gi := ⟨_, rfl⟩
      rw [hgi] at HG8 ⊢
      obtain ⟨w9, hw9⟩ : ∃ w9, w8.alloc (.cells #[.int .i64 1, .slice (some ⟨gi, 0, none⟩) 60 60] 40) = w9 := ⟨_, rfl⟩
      have hbl : w9.heap[w8.heap.size]? = some (.cells #[.int .i64 1, .slice (some ⟨gi, 0, none⟩) 60 60] 40) := by rw [← hw9]; exact alloc0 _ _
      have HE10 : Hid (Ext w w9) := Lib.hid (by rw [← hw9]; exact HE9.out.alloc _)
      have HG9 : Hid (w9.heap[gi]? = some (.cells (List.replicate 60 (Value.int .i64 100)).toArray 3)) := Lib.hid (by rw [← hw9]; exact allocOld HG8.out _)
      rw [hw9]
      clear hw9
      have HRO := Lib.hid (repeat_op [.int .i64 1, .slice (some ⟨gi, 0, none⟩) 60 60] rfl (by intro v hv; simp at hv; rcases hv with rfl | rfl <;> rfl) w8.heap.size 1 300 w9 (fun r hr => by
        rw [cell_of_row w9 _ r _ _ _ hbl]
        rcases r with _ | _ | r <;> first | rfl | omega) (by decide) (by decide))
      clear hbl
      go_wp2_with fail
      refine HRO.out.mono ?_
      rintro e w10 ⟨rfl, hg10, h10⟩
      have HE11 := Lib.hid (HE10.out.ext h10)
      have HOP := long_ops w10 _ gi hg10 (h10.heap HG9.out (fun h => h))
      have e9 : opsL (List.replicate 300 (⟨oL, .slice (some ⟨gi, 0, none⟩) 60 60⟩ : OpV)) = List.replicate 300 oL := by unfold opsL; rw [List.map_replicate]
      have HTX := Lib.hid (wtext_ok 6 _ _ w10 _ HOP (tab_ext HTB.out HE11.out) (by rw [e9]; exact long_valid) ⟨#[]⟩ 4 (Or.inr ⟨rfl, rfl, by rw [e9]; exact long_big⟩))
      clear hg10 h10 HOP e9
      go_wp2_with fail
      refine HTX.out.mono ?_
      rintro e w11 ⟨rfl, h11⟩
      have HE12 := Lib.hid (HE11.out.ext h11)
      clear h11
      go_wp2_with fail
      go_ret
      exact ⟨rfl, HE12.out⟩

theorem long_law (x : Int) (b : Bool) (w : World) (hx : 0 ≤ x ∧ x ≤ 65535) (hE : Env w) : Calls Tryz.prog 4 #[.int .u16 x, .bool b] w fun e w' => e = .returned (.bool true) ∧ Ext w w' := by
  obtain ⟨bad, hbad⟩ : ∃ bad : Nat, x % 4000 = (bad : Int) := ⟨(x % 4000).toNat, by omega⟩
  by_cases hb : bad < 2000
  · cases b with
    | false => exact long_a x bad w hx.1 hx.2 hbad hb hE
    | true => exact long_b x bad w hx.1 hx.2 hbad hb hE
  · cases b with
    | false => exact long_c x bad w hx.1 hx.2 hbad hb hE
    | true => exact long_d x bad w hx.1 hx.2 hbad hb hE

end Go.Proofs.YthpekfpeoglbgaaGreatDoor
