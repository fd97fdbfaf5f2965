/- ref.Phases. -/
import Derived.Test.YthpekfpeoglbgaaW35
import Derived.Test.YthpekfpeoglbgaaW28
import Derived.Deep.RegionHeld3
import Derived.Test.YthpekfpeoglbgaaL4
namespace Go.Proofs.Ythpekfpeoglbgaa
open Go.RowKit Go.Hw
set_option linter.unusedVariables false
set_option linter.unusedSimpArgs false

theorem Bs_len (U : Nat → Nat → Int) (n : Nat) (Bk : Nat → List Nat) (m : Nat) (h : ∀ j, (Bk j).length ≤ m) (i : Nat) : ∀ d, (Bs U (n := n) Bk i d).length ≤ m + 1 := by
  intro d; induction d with
  | zero => unfold Bs; have := h i; omega
  | succ d ih =>
    unfold Bs
    split
    · have := h (i + 1 + d); simp; omega
    · exact ih
theorem B_len (U : Nat → Nat → Int) (n : Nat) : ∀ p i, (B U n p i).length ≤ p + 1 := by
  intro p; induction p with
  | zero => intro i; simp [B]
  | succ p ih => intro i; exact Bs_len U n _ (p + 1) ih i _
theorem ints_nil (S : Nat → Prop) (w : World) : NumR S w (.slice none 0 0) (ints []) := ⟨rfl, .inl ⟨rfl, rfl⟩⟩
theorem NumR.one {w : World} {b : Nat} {i : Nat} (h : w.heap[b]? = some (.cells #[.int .i64 (i : Int)] 3 (0, 0))) : NumR (fun k => k = b) w (.slice (some ⟨b, 0, none⟩) 1 1) (ints [i]) :=
  NumR.block (ints [i]) h
/-- the first row -/
def L0 (n i : Nat) (vs : Nat → Value) : List DivV := (List.range (n + 1)).map fun j => if j < i then ⟨[j], vs j⟩ else .zero
theorem L0_length (n i : Nat) (vs : Nat → Value) : (L0 n i vs).length = n + 1 := by simp [L0]
theorem L0_set (n i : Nat) (vs : Nat → Value) (v : Value) (hi : i < n + 1) : (L0 n i vs).set i ⟨[i], v⟩ = L0 n (i + 1) (fun j => if j = i then v else vs j) := by
  apply List.ext_getElem?
  intro j
  rw [List.getElem?_set]
  simp only [L0_length, L0, List.getElem?_map]
  by_cases hj : j < n + 1
  · rw [List.getElem?_range hj]
    simp only [Option.map_some]
    by_cases e : i = j
    · subst e; simp [hi]
    · rw [if_neg e]
      by_cases h1 : j < i
      · simp [h1, show j < i + 1 by omega, Ne.symm e]
      · simp [h1, show ¬ j < i + 1 by omega]
  · rw [List.getElem?_eq_none (by simp; omega)]
    simp; omega
theorem L0_zero (n : Nat) (vs : Nat → Value) : L0 n 0 vs = List.replicate (n + 1) DivV.zero := by
  apply List.ext_getElem?
  intro j
  simp only [L0, List.getElem?_map, List.getElem?_replicate]
  by_cases hj : j < n + 1
  · rw [List.getElem?_range hj]; simp [hj]
  · rw [List.getElem?_eq_none (by simp; omega)]; simp [hj]
theorem L0_getD (n i : Nat) (vs : Nat → Value) (j : Nat) (h : j < i) (hi : j < n + 1) : (L0 n i vs).getD j .zero = ⟨[j], vs j⟩ := by
  simp [L0, List.getD_eq_getElem?_getD, hi, h]
theorem made_pair (n : Nat) (a b : Value) (j : Nat) (h : j < (n + 1) * 2) : (madeCells #[a, b] ((n + 1) * 2))[j]? = (List.replicate (n + 1) [a, b]).flatten[j]? := by
  have this : ∀ (m j : Nat), j < m * 2 → (List.replicate m [a, b]).flatten[j]? = some (if j % 2 = 0 then a else b) := by
    intro m
    induction m with
    | zero => intro j h; omega
    | succ m ih =>
      intro j h
      rw [List.replicate_succ, List.flatten_cons]
      match j, h with
      | 0, _ => rfl
      | 1, _ => rfl
      | j + 2, h =>
        have e : [a, b] ++ (List.replicate m [a, b]).flatten = a :: b :: (List.replicate m [a, b]).flatten := rfl
        rw [e, List.getElem?_cons_succ, List.getElem?_cons_succ, ih j (by omega)]
        rw [show (j + 2) % 2 = j % 2 by omega]
  rw [this (n + 1) j h]
  unfold madeCells
  simp only [Array.getElem?_map, Array.getElem?_range]
  rw [if_pos h]
  simp only [Option.map_some, List.size_toArray, List.length_cons, List.length_nil]
  congr 1
  rcases (by omega : j % 2 = 0 ∨ j % 2 = 1) with e | e <;> simp [e]
set_option maxRecDepth 100000 in
set_option maxHeartbeats 8000000 in
/-- ref.Phases -/
theorem rph_any (S : Nat → Prop) (kind : Int) (v : Value) (l : List OpV) (w : World) (h : OpsR S w v l) (hl : l.length ≤ 2000) (most : Nat) (hm1 : 1 ≤ most) (hm : most ≤ 20) (h0 : 0 < l.length) :
    Calls Try.prog 22 #[.int .i64 kind, v, .int .i64 (most : Int)] w fun e w' => ∃ v, e = .returned v ∧ NumR (fun k => k < w'.heap.size) w' v (ints (B (UN (nW kind) (csL l)) l.length (most - 1) 0)) ∧ Ext w w' := by
  obtain ⟨a, cap, hv⟩ := h.shape
  subst hv
  have HN := Lib.hid h
  have hcap := h.row.le_cap rfl
  clear h
  have HUE : Hid (∀ W, Ext w W → ∀ i j : Nat, i ≤ j → j ≤ l.length → Calls Try.prog 23 #[.int .i64 kind, sliced a i j cap 2] W fun e w' => e = .returned (.int .i64 (UN (nW kind) (csL l) i j)) ∧ Ext W w') := fun W hW i j hij hj => by
    have := runeven_any S kind _ ((l.take j).drop i) W ((HN.out.kept hW (fun _ _ h => h)).part hij hj) (by rw [List.length_drop, List.length_take]; omega)
    rw [csL_part l i j hij] at this
    exact this
  have HU0 : Hid (∀ i j, 0 ≤ UN (nW kind) (csL l) i j) := fun i j => UN_nonneg _ _ _ _
  have HUle : Hid (∀ i j, i ≤ j → j ≤ l.length → UN (nW kind) (csL l) i j ≤ (j : Int) - i) := fun i j hij hj => UN_le' _ _ i j hij (by rw [csL_length]; exact hj)
  generalize UN (nW kind) (csL l) = U at *
  generalize l.length = n at *
  obtain ⟨i0, hi0, hz0, hz1, hz2⟩ := info_parts info71
  have hmk := fun W => run_make (P := Try.prog) W 69 71 i0 (.agg #[.slice none 0 0, .int .i64 0]) Try.underlying69 hi0 hz0 .i64 .i64 ((n : Int) + 1) ((n : Int) + 1) (by omega) (by omega) (by rw [hz2]; omega) (by omega)
  have hmk2 : ∀ W : World, (Instr.makeSlice 69 (.int .i64 ((n : Int) + 1)) (.int .i64 ((n : Int) + 1))).run Try.prog W = .ok (.slice (some ⟨W.heap.size, 0, none⟩) (n + 1) (n + 1)) (W.alloc (.cells (madeCells #[.slice none 0 0, .int .i64 0] ((n + 1) * 2)) 71)) := fun W => by
    have := hmk W
    rw [hz1] at this
    exact this
  have HMK2 := Lib.hid hmk2
  have hmk3 := HMK2.out w
  clear hmk hmk2
  have HD0 : Hid (DivR (cost U n) (fun k => k = w.heap.size) (w.alloc (.cells (madeCells #[.slice none 0 0, .int .i64 0] ((n + 1) * 2)) 71)) w.heap.size (L0 n 0 fun _ => .slice none 0 0)) := by
    rw [L0_zero]
    refine ⟨⟨_, alloc0 _ _, fun j hj => ?_⟩, rfl, fun d hd => ?_⟩
    · rw [List.length_replicate] at hj
      rw [divCells_rep _ _ rfl]
      exact made_pair n _ _ j hj
    · rw [List.eq_of_mem_replicate hd]; exact ints_nil _ _
  have HE0 : Hid (Ext w (w.alloc (.cells (madeCells #[.slice none 0 0, .int .i64 0] ((n + 1) * 2)) 71))) := (Upd.refl _ w).alloc _
  have HB0 : Hid (w.heap.size ≤ w.heap.size) := Nat.le_refl _
  go_enter Try.func22, Try.ntmps22
  go_wp2_with fail
  clear hmk3
  generalize w.alloc (.cells (madeCells #[.slice none 0 0, .int .i64 0] ((n + 1) * 2)) 71) = w1 at *
  obtain ⟨gb, hgb⟩ : ∃ g, g = w.heap.size := ⟨_, rfl⟩
  rw [← hgb] at HD0 HB0 ⊢
  have HGB := Lib.hid hgb
  clear hgb
  go_loopg [9] n (fun gk iv wr => ∃ (i : Nat) (vs : Nat → Value), iv = .int .i64 i ∧ gk = n - i ∧ i ≤ n ∧ Hid (Ext w wr) ∧ Hid (DivR (cost U n) (fun k => k = gb) wr gb (L0 n i vs)))
  case atStart => exact ⟨0, _, rfl, rfl, Nat.zero_le _, HE0.out, HD0.out⟩
  case round =>
    obtain ⟨i, vs, rfl, rfl, hi, HE, HD⟩ := hrel
    clear HD0 HE0
    by_cases hlt : i < n
    · have hE2 : Ext wr (wr.alloc (.cells #[.int .i64 (i : Int)] 3)) := (Upd.refl _ wr).alloc _
      have HB2 := Lib.hid (alloc0 wr (.cells #[.int .i64 (i : Int)] 3))
      obtain ⟨sv, hsv⟩ : ∃ sv, sv = sliced a i n cap 2 := ⟨_, rfl⟩
      have HC := Lib.hid (HUE.out _ (HE.out.ext hE2) i n (by omega) (Nat.le_refl _))
      rw [← hsv] at HC
      have HSV := Lib.hid hsv
      have HE2 := Lib.hid hE2
      have s1 : (0 : Int) ≤ (i : Int) := by omega
      clear hE2 hsv
      go_wp2_with (with_reducible (refine stop_at (o := ⟨some 32, _, _, _, _, _⟩) ?_))
      refine Stop.go ?_
      refine wpList_slice_l rfl 32 (.tmp 30) (.tmp 31) rfl 2 elem32 size32 a n cap rfl .i64 i rfl (by omega) ?_
      rw [← HSV.out]
      go_wp2_with fail
      refine HC.out.mono ?_
      rintro e w3 ⟨rfl, h3⟩
      have HE3 := Lib.hid (HE2.out.ext h3)
      have HB3 := Lib.hid (h3.heap HB2.out (fun h => h))
      have HD3 := Lib.hid (HD.out.kept (HE2.out.ext h3) (fun h => h) (fun _ _ h => h.elim))
      have hgw := HD.out.lt
      obtain ⟨c0, c1, f0, f1⟩ := HD3.out.cell (i := i) (by rw [L0_length]; omega)
      have hnr : NumR (fun k => k < w3.heap.size ∧ ¬ k = gb) w3 (.slice (some ⟨wr.heap.size, 0, none⟩) 1 1) (ints [i]) :=
        (NumR.one HB3.out).weaken (fun k hk => by subst hk; exact ⟨(Array.getElem?_eq_some_iff.1 HB3.out).1, by omega⟩)
      have HNR := Lib.hid hnr
      clear hnr
      have HCU : Hid (U i n = cost U n [i]) := by show _ = _; simp [cost]
      have hds := HD3.out.set (i := i) (by rw [L0_length]; omega) ⟨[i], .slice (some ⟨wr.heap.size, 0, none⟩) 1 1⟩ HNR.out
      rw [L0_set n i vs _ (by omega)] at hds
      have HDS := Lib.hid hds
      rw [← HCU.out] at HDS
      clear hds h3
      go_wp2_with fail
      go_roundg (n - (i + 1))
      case measure => omega
      case rel => exact ⟨i + 1, _, by go_num, rfl, by omega, ((HE.out.ext HE3.out).setNew (by rw [HGB.out]; exact Nat.le_refl _) _).setNew (by rw [HGB.out]; exact Nat.le_refl _) _, HDS.out⟩
    · obtain rfl : i = n := by omega
      have tt1 : decide ((i : Int) < (i : Int)) = false := by simp
      have tt2 : decide (i < i) = false := by simp
      go_wp2_with fail
      clear tt1 tt2
      have hm20 : most - 1 ≤ 19 := by omega
      go_loopg [8, 10, 11, 12, 13, 14] (most - 1) (fun gk bv kv s11 s12 s13 s14 wr => ∃ (p g cp : Nat) (L : List DivV), bv = .slice (some ⟨g, 0, none⟩) (i + 1) cp ∧ kv = .int .i64 ((p : Int) + 1) ∧ gk = most - 1 - p ∧ p ≤ most - 1 ∧ i + 1 ≤ cp ∧ Hid (Ext w wr) ∧ Hid (w.heap.size ≤ g) ∧
        Hid (DivR (cost U i) (fun k => k = g) wr g L) ∧ Hid (L.length = i + 1 ∧ ∀ j, j < i → (L.getD j .zero).st = B U i p j))
      case atStart => exact ⟨0, gb, i + 1, L0 i i vs, rfl, rfl, rfl, Nat.zero_le _, Nat.le_refl _, HE.out, Nat.le_of_eq HGB.out.symm, HD.out, L0_length _ _ _, fun j hj => by rw [L0_getD _ _ _ _ hj (by omega)]; rfl⟩
      case round =>
        obtain ⟨p, g, cp, L, rfl, rfl, rfl, hp, hcp, HE2, HGE, HD2, HL⟩ := hrel
        clear HE HD HMK2 HGB HB0
        by_cases hpm : p < most - 1
        · have t1 : decide ((p : Int) + 1 < (most : Int)) = true := decide_eq_true (by omega)
          have HE3 : Hid (Ext wr (wr.alloc (.cells #[] 71))) := (Upd.refl _ wr).alloc _
          have HOW : Hid ((wr.alloc (.cells #[] 71)).ownsRow wr.heap.size 71 2 (.slice (some ⟨wr.heap.size, 0, none⟩) 0 0) 0 []) := own_empty (alloc0 _ _) (Nat.le_refl _)
          have HSR := Lib.hid ((HD2.out.kept HE3.out (fun h => h) (fun _ _ h => h.elim)).slr HL.out.1 hcp)
          have HON := Lib.hid HD2.out.ones
          go_wp2_with (at_builtin; refine wpList_append_sl _ rfl (.tmp 41) (.tmp 42) 69 rfl wr.heap.size 71 i0 (.agg #[.slice none 0 0, .int .i64 0]) 2 32 Try.underlying69 hi0 hz0 hz1 hz2 rfl (by decide) (.slice (some ⟨wr.heap.size, 0, none⟩) 0 0) 0 _ rfl HOW.out (fun k => k = g) (.slice (some ⟨g, 0, none⟩) (i + 1) cp) (i + 1) _ rfl HSR.out HON.out ?d3 ?d4 ?d5 ?_)
          case d3 => unfold maxLen; omega
          case d4 => omega
          case d5 => simp
          intro v8 w8 hG
          have how : w8.ownsRow wr.heap.size 71 2 v8 (i + 1) (divCells (cost U i) L) := by
            have := hG.own
            simpa using this
          obtain ⟨g2, cp2, hv8, hg2, hcp2, hg2s, hrow⟩ := divrow_own how HL.out.1 (by omega)
          subst hv8
          have hUg : Upd (fun k => k = wr.heap.size) (wr.alloc (.cells #[] 71)) w8 := hG.upd.mono (fun k _ h => by simpa [Value.ownBlock] using h.symm)
          have hgl := HD2.out.lt
          have HEW : Hid (Ext wr w8) := HE3.out.trans' hUg (fun k hk h => by omega)
          have HDA : Hid (DivR (cost U i) (fun k => k = g ∨ k = g2) w8 g L) := by
            show DivR (cost U i) (fun k => k = g ∨ k = g2) w8 g L
            have h1 := HD2.out.regroup (H := fun k => k = g ∨ k = g2) (.inl rfl) (fun k hk hh => by
              rcases hh with h | h
              · exact h
              · omega)
            exact h1.kept HEW.out (fun h => h) (fun _ _ h => h.elim)
          have HDB : Hid (DivR (cost U i) (fun k => k = g ∨ k = g2) w8 g2 L) := ⟨hrow, .inr rfl, HDA.out.st⟩
          have HE8 : Hid (Ext w w8) := HE2.out.ext HEW.out
          have HG2 : Hid (w.heap.size ≤ g2) := Nat.le_trans HE2.out.size hg2
          have HNE : Hid (g ≠ g2) := by show g ≠ g2; omega
          clear hG how hrow hUg HSR HON HOW HE3 HD2 hgl
          go_wp2_with fail
          go_loopg [12, 13, 14] i (fun gk iv s13 s14 wr => ∃ (q : Nat) (Lx : List DivV), iv = .int .i64 q ∧ gk = i - q ∧ q ≤ i ∧ Hid (Ext w wr) ∧ Hid (DivR (cost U i) (fun k => k = g ∨ k = g2) wr g L) ∧ Hid (DivR (cost U i) (fun k => k = g ∨ k = g2) wr g2 Lx) ∧
            Hid (Lx.length = i + 1 ∧ (∀ j, j < q → (Lx.getD j .zero).st = B U i (p + 1) j) ∧ ∀ j, q ≤ j → j < i → (Lx.getD j .zero).st = B U i p j))
          case atStart => exact ⟨0, L, rfl, rfl, Nat.zero_le _, HE8.out, HDA.out, HDB.out, HL.out.1, fun j hj => absurd hj (Nat.not_lt_zero _), fun j _ hj => HL.out.2 j hj⟩
          case round =>
            obtain ⟨q, Lx, rfl, rfl, hq, HE9, HDA9, HDB9, HLx⟩ := hrel
            clear HE8 HDA HDB HE2
            by_cases hqi : q < i
            · have t2 : decide ((q : Int) < (i : Int)) = true := decide_eq_true (by omega)
              have t3 : decide (q < i) = true := decide_eq_true (by omega)
              go_wp2_with fail
              go_loopg [13, 14] (i - (q + 1)) (fun gk jv s14 wr => ∃ (j : Nat) (Lx : List DivV), jv = .int .i64 j ∧ gk = i - j ∧ q < j ∧ j ≤ i ∧ Hid (Ext w wr) ∧ Hid (DivR (cost U i) (fun k => k = g ∨ k = g2) wr g L) ∧ Hid (DivR (cost U i) (fun k => k = g ∨ k = g2) wr g2 Lx) ∧
                Hid (Lx.length = i + 1 ∧ (∀ j, j < q → (Lx.getD j .zero).st = B U i (p + 1) j) ∧ (Lx.getD q .zero).st = Bs U (n := i) (B U i p) q (j - (q + 1)) ∧ ∀ j, q < j → j < i → (Lx.getD j .zero).st = B U i p j))
              case atStart => exact ⟨q + 1, Lx, by go_num, rfl, by omega, by omega, HE9.out, HDA9.out, HDB9.out, HLx.out.1, HLx.out.2.1, by rw [Nat.sub_self]; exact HLx.out.2.2 q (Nat.le_refl _) hqi, fun j h1 h2 => HLx.out.2.2 j (by omega) h2⟩
              case round =>
                obtain ⟨j, Ly, rfl, rfl, hqj, hj, HE10, HDA10, HDB10, HLy⟩ := hrel
                clear HE9 HDA9 HDB9 HLx
                by_cases hji : j < i
                · have t4 : decide ((j : Int) < (i : Int)) = true := decide_eq_true (by omega)
                  have t5 : decide (j < i) = true := decide_eq_true (by omega)
                  have O := B_opt U p j hji
                  obtain ⟨r, hbr, hr1, hr2, hr3⟩ := O.dv.cons hji
                  have hbl := O.len
                  have hbpos : 0 < (B U i p j).length := by rw [hbr]; simp
                  have hcl := cost_le U i HUle.out _ j O.dv (by omega)
                  have hc0 := cost_nonneg U (n := i) HU0.out (B U i p j)
                  have hu0 := HU0.out q j
                  have hul := HUle.out q j (by omega) (by omega)
                  have hhd : (B U i p j).headD i = j := by rw [hbr]; rfl
                  have HCX : Hid (cost U i (q :: B U i p j) = U q j + cost U i (B U i p j)) := by show _ = _; simp only [cost, hhd]
                  have HST := HLy.out.2.2.1
                  obtain ⟨d0, d1, _, _⟩ := HDA10.out.cell (i := j) (by rw [HL.out.1]; omega)
                  rw [HL.out.2 j hji] at d1
                  have hnj := HDA10.out.st (L.getD j .zero) (by have := HL.out.1; simp [List.getD_eq_getElem?_getD, show j < L.length by omega])
                  rw [HL.out.2 j hji] at hnj
                  obtain ⟨ja, jc, hjv⟩ := hnj.shape
                  rw [hjv] at d0 hnj
                  rw [ints_length] at d0 hnj
                  have HNJ := Lib.hid hnj
                  obtain ⟨e0, e1, f0, f1⟩ := HDB10.out.cell (i := q) (by rw [HLy.out.1]; omega)
                  rw [HST] at e1
                  have hnq := HDB10.out.st (Ly.getD q .zero) (by have := HLy.out.1; simp [List.getD_eq_getElem?_getD, show q < Ly.length by omega])
                  rw [HST] at hnq
                  obtain ⟨qa, qc, hqv⟩ := hnq.shape
                  rw [hqv] at e0 hnq
                  rw [ints_length] at e0 hnq
                  have HNQ := Lib.hid hnq
                  have HBQL : Hid ((Bs U (n := i) (B U i p) q (j - (q + 1))).length ≤ 1000) := by
                    have := Bs_len U i (B U i p) (p + 1) (B_len U i p) q (j - (q + 1))
                    show _ ≤ _
                    omega
                  have HBS : Hid (Bs U (n := i) (B U i p) q (j + 1 - (q + 1)) = if bet U i (q :: B U i p j) (Bs U (n := i) (B U i p) q (j - (q + 1))) then q :: B U i p j else Bs U (n := i) (B U i p) q (j - (q + 1))) := by
                    show _ = _
                    rw [show j + 1 - (q + 1) = (j - (q + 1)) + 1 by omega, Bs, show q + 1 + (j - (q + 1)) = j by omega]
                  clear O hbr hr1 hr2 hr3 hhd hnj hnq hjv hqv HST
                  have hX1 : ∀ x : XW wr, x.val.cell? ⟨g, j * 2, none⟩ = some (.slice ja (B U i p j).length jc) := fun x => x.ext.cell d0 (fun h => h)
                  have hX2 : ∀ x : XW wr, x.val.cell? ⟨g, j * 2 + 1, none⟩ = some (.int .i64 (cost U i (B U i p j))) := fun x => x.ext.cell d1 (fun h => h)
                  obtain ⟨sv, hsv⟩ : ∃ sv, sv = sliced a q j cap 2 := ⟨_, rfl⟩
                  have hsl : ∀ x : XW wr, (Instr.sliceAt 32 (.slice a i cap) (some (.int .i64 (q : Int))) (some (.int .i64 (j : Int))) none).run Try.prog x.val = .ok sv x.val := fun x => by
                    rw [hsv]; exact run_lh 32 2 elem32 size32 a i cap .i64 .i64 q j (by omega) (by omega)
                  have HC := Lib.hid (fun (W : World) (hW : Ext wr W) => HUE.out W (HE10.out.ext hW) q j (by omega) (by omega))
                  rw [← hsv] at HC
                  generalize hbj : B U i p j = bj at *
                  have HBJ := Lib.hid hbj
                  clear hbj hsv
                  generalize hbq : Bs U (n := i) (B U i p) q (j - (q + 1)) = bq at *
                  have HBQ := Lib.hid hbq
                  clear hbq
                  generalize hcb : cost U i bj = cb at *
                  generalize hcq : cost U i bq = cq at *
                  have HCB := Lib.hid hcb
                  have HCQ := Lib.hid hcq
                  clear hcb hcq
                  generalize U q j = uv at *
                  have q1 : IntKind.i64.wrap (uv + cb) = uv + cb := IntWalk.i64_in _ (by omega)
                  have z1 : (0 : Int) ≤ (j : Int) := by omega
                  have z2 : (j : Int) < (i : Int) + 1 := by omega
                  have z3 : (0 : Int) ≤ (q : Int) := by omega
                  have z4 : (q : Int) ≤ (j : Int) := by omega
                  have z5 : (j : Int) ≤ (cap : Int) := by omega
                  have hi3 := info3
                  obtain ⟨i3, hi3', hz30, hz31, hz32⟩ := info_parts info3
                  have HAP : Hid (∀ (W : World) (b : Nat), Ext wr W → wr.heap.size ≤ b → W.heap[b]? = some (.cells #[.int .i64 (q : Int)] 3) → ∀ (o : Oper) (ac : Act) (K : Act → World → Prop), o.op = .call { callee := .builtin .append, args := #[.tmp 57, .tmp 62], argTypes := #[22, 22] } →
                      ac.eval (.tmp 57) = .slice (some ⟨b, 0, none⟩) 1 1 → ac.eval (.tmp 62) = .slice ja bj.length jc →
                      (∀ (x : Nat × Nat) W', Ext W W' → (wr.heap.size ≤ x.1 ∧ (∃ arr, W'.heap[x.1]? = some (.cells arr 3 (0, 0))) ∧ NumR (fun k => k = x.1) W' (.slice (some ⟨x.1, 0, none⟩) (bj.length + 1) x.2) (ints (q :: bj))) → K (ac.put o.dst (.slice (some ⟨x.1, 0, none⟩) (bj.length + 1) x.2)) W') → o.wp Try.prog ac W K (fun _ _ _ => False)) := by
                    intro W b hW hb hB o ac K ho e1 e2 hK
                    obtain ⟨gj, oj, cj, hjv, hjc, hjs, hjj⟩ := (HNJ.out.kept hW (fun _ _ h => h)).pos (by rw [ints_length]; omega)
                    rw [ints_length] at hjv hjc hjj
                    injection hjv with f1 f2 f3
                    subst f1; subst f3
                    obtain ⟨v', w', hrun, r1, r2⟩ := run_append_arg_grows (P := Try.prog) W 22 o.type 3 i3 (.int .i64 0) 1 8 Try.underlying22 hi3' hz30 hz31 hz32 rfl (by decide) ⟨b, 0, none⟩ 1 1 [.int .i64 (q : Int)] rfl
                      (fun t u ht => by
                        match t, ht with
                        | 0, ht => simp at ht; subst ht; exact cellRow hB 0 _ rfl)
                      ⟨gj, oj, none⟩ bj.length jc (nums (ints bj)) (by rw [nums_length, ints_length]; omega)
                      (fun t u ht => by
                        have htl : t < bj.length := by have := (List.getElem?_eq_some_iff.1 ht).1; rwa [nums_length, ints_length] at this
                        have h5 := hjj t (by omega)
                        have e5 : (⟨gj, oj, none⟩ : Addr).add t = ⟨gj, oj + t, none⟩ := by
                          unfold Addr.add
                          split
                          · rename_i h0; simp [h0]
                          · rfl
                        rw [e5, h5, ht])
                      (by omega) (by unfold maxLen; omega) (by omega)
                    unfold Oper.wp execOp
                    simp only [ho, resolve, invoke, builtin, Sem.run_bind, Sem.run_pure, Result.andThen_ok, List.map_toArray, List.map_cons, List.map_nil, e1, e2, hrun]
                    have hE : Ext W w' := (Upd.of_grown r2).mono (fun k _ h => by cases h)
                    have hle : 1 + bj.length = bj.length + 1 := Nat.add_comm _ _
                    have r1' := r1
                    rcases r1.2 with ⟨_, h2⟩ | ⟨g', cp', cur, hv', hg', hgc, _, _, _, _⟩
                    · omega
                    · rw [hv', hle]
                      have h6 := (SlR.of_own r1').weaken (T := fun k => k = g') (fun k hk => by rw [hv'] at hk; simpa [Value.ownBlock] using hk.symm)
                      rw [hv', hle] at h6
                      refine hK (g', cp') w' hE ⟨Nat.le_trans hW.size hg', ⟨cur, hgc⟩, ?_⟩
                      unfold NumR
                      rw [ints_length]
                      exact h6
                  have hrf : wr.heap.size ≤ wr.heap.size := Nat.le_refl _
                  go_wp2_with fail
                  refine wp_region_par (α := Nat × Nat) 22 [(22, 2)] [[], [0], [], [], [2, 3], [2, 3, 4], [2, 3, 4, 5], [0, 1, 2, 3, 4, 5, 6], [], [], [], [], [9, 10, 11], [0, 1, 2, 3, 4, 5, 6, 7, 8, 9, 10, 11, 12], [], [], [14, 15], [14, 15, 16], [14, 15, 16, 17], [0, 1, 2, 3, 4, 5, 6, 7, 8, 9, 10, 11, 12, 13, 14, 15, 16, 17, 18], [0, 1, 2, 3, 4, 5, 6, 7, 8, 9, 10, 11, 12, 13, 14, 15, 16, 17, 18, 19], [], [0, 1, 2, 3, 4, 5, 6, 7, 8, 9, 10, 11, 12, 13, 14, 15, 16, 17, 18, 19, 20, 21]]
                    [none, some (annBlk (fun x => .slice (some ⟨x.1, 0, none⟩) 1 1) (fun x => x.1) wr.heap.size (.cells #[.int .i64 (q : Int)] 3)), none, none, none, none, none,
                     some ⟨fun x => .slice (some ⟨x.1, 0, none⟩) (bj.length + 1) x.2, fun x W => wr.heap.size ≤ x.1 ∧ (∃ arr, W.heap[x.1]? = some (.cells arr 3 (0, 0))) ∧ NumR (fun k => k = x.1) W (.slice (some ⟨x.1, 0, none⟩) (bj.length + 1) x.2) (ints (q :: bj)), fun x W W' h hE => ⟨h.1, h.2.1.imp fun _ h => hE.heap h (fun h => h), h.2.2.kept hE (fun _ _ h => h)⟩⟩,
                     none, none, none, none, none, some (annVal (.int .i64 uv)), none, none, none, none, none, none, none, some (annBlk (fun x => .pointer (some ⟨x.1, 0, none⟩)) (fun x => x.1) wr.heap.size (.cells #[.slice none 0 0, .int .i64 0] 71))]
                    [false, true, false, false, false, false, false, true, false, false, false, false, false, true, false, false, false, false, false, false, false, true] (by kernel_rfl) (by kernel_rfl) rfl (fun _ _ d _ _ h => by cases d <;> exact h) ?_
                  simp only [List.take_succ_cons, List.take_zero, pickO, List.getElem?_cons_zero, List.getElem?_cons_succ]
                  refine can_pure0 rfl (fun K hK => ?_); go_simp; refine hK _ ?_; clear hK K
                  refine can_mem _ rfl (by go_simp) (fun W hW hG K hK => ?_) (fun K x hK => ?_)
                  · go_simp
                    exact hK (W.heap.size, 0) _ ((Upd.refl _ W).alloc _) ⟨hW.size, alloc0 _ _⟩
                  refine hK _ ?_; clear hK K
                  iterate 5 (refine can_pure0 rfl (fun K hK => ?_); go_simp; refine hK _ ?_; clear hK K)
                  refine can_mem _ rfl (by go_simp) (fun W hW hG K hK => ?_) (fun K y hK => ?_)
                  · have h1 := hG _ (List.mem_append_right _ (List.mem_singleton.2 rfl)) (by simp)
                    exact HAP.out W _ hW h1.1 h1.2 _ _ K rfl rfl rfl (fun x W' hE hN => hK x W' hE hN)
                  refine hK _ ?_; clear hK K
                  iterate 5 (refine can_pure0 rfl (fun K hK => ?_); go_simp; refine hK _ ?_; clear hK K)
                  refine can_mem _ rfl (by go_simp) (fun W hW hG K hK => ?_) (fun K x13 hK => ?_)
                  · go_simp
                    refine (HC.out W hW).mono ?_
                    rintro e w' ⟨rfl, h⟩
                    exact hK default w' h trivial
                  refine hK _ ?_; clear hK K
                  dsimp only [annVal]
                  iterate 7 (refine can_pure0 rfl (fun K hK => ?_); go_simp; refine hK _ ?_; clear hK K)
                  refine can_mem _ rfl (by go_simp) (fun W hW hG K hK => ?_) (fun K xx hK => ?_)
                  · go_simp
                    exact hK (W.heap.size, 0) _ ((Upd.refl _ W).alloc _) ⟨hW.size, alloc0 _ _⟩
                  refine hK _ ?_; clear hK K
                  refine can_end (fun W hW hG => ?_)
                  have g7 := hG _ (List.mem_append_left _ (List.mem_append_left _ (List.mem_append_right _ (List.mem_singleton.2 rfl))))
                  have g21 := hG _ (List.mem_append_right _ (List.mem_singleton.2 rfl))
                  obtain ⟨gx1, gx2⟩ := g21
                  clear hG
                  dsimp only at gx1 gx2 g7
                  dsimp only [annBlk, annVal]
                  obtain ⟨gy1, ⟨yarr, gy2⟩, gy3⟩ := g7
                  generalize y.1 = yb at *
                  generalize y.2 = yc at *
                  generalize xx.1 = xb at *
                  have hxy : yb ≠ xb := fun e => by
                    rw [e, gx2] at gy2
                    injection gy2 with h
                    injection h with _ h
                    cases h
                  have c0 := cellRow gx2 0 _ rfl
                  have c1 := cellRow gx2 1 _ rfl
                  have u0 := frozenRow gx2 0
                  have u1 := frozenRow gx2 1
                  have HXB : Hid (((W.setCell ⟨xb, 0, none⟩ (.slice (some ⟨yb, 0, none⟩) (bj.length + 1) yc)).setCell ⟨xb, 1, none⟩ (.int .i64 (uv + cb))).heap[xb]? = some (.cells #[.slice (some ⟨yb, 0, none⟩) (bj.length + 1) yc, .int .i64 (uv + cb)] 71)) := setBlock (setBlock gx2 0 _) 1 _
                  have HWE : Hid (Ext wr ((W.setCell ⟨xb, 0, none⟩ (.slice (some ⟨yb, 0, none⟩) (bj.length + 1) yc)).setCell ⟨xb, 1, none⟩ (.int .i64 (uv + cb)))) := (hW.setNew gx1 _).setNew gx1 _
                  have HNX : Hid (NumR (fun k => k = yb) ((W.setCell ⟨xb, 0, none⟩ (.slice (some ⟨yb, 0, none⟩) (bj.length + 1) yc)).setCell ⟨xb, 1, none⟩ (.int .i64 (uv + cb))) (.slice (some ⟨yb, 0, none⟩) (bj.length + 1) yc) (ints (q :: bj))) :=
                    (gy3.kept (Upd.at_ (j := 0) (.slice (some ⟨yb, 0, none⟩) (bj.length + 1) yc)) (fun k hk h => hxy (hk.symm.trans h))).kept (Upd.at_ (j := 1) (.int .i64 (uv + cb))) (fun k hk h => hxy (hk.symm.trans h))
                  have HYS : Hid (yb < ((W.setCell ⟨xb, 0, none⟩ (.slice (some ⟨yb, 0, none⟩) (bj.length + 1) yc)).setCell ⟨xb, 1, none⟩ (.int .i64 (uv + cb))).heap.size) := by
                    show _ < _
                    have := (Array.getElem?_eq_some_iff.1 gy2).1
                    simpa using this
                  refine mix_two (fun K hK => ?_); go_simp; refine hK _ _ ?_; clear hK K
                  simp only [wpMix]
                  clear c0 c1 u0 u1 gx2 gy3 gy2 hX1 hX2 hsl d0 d1 f0 f1 HAP HC
                  generalize ((W.setCell ⟨xb, 0, none⟩ (.slice (some ⟨yb, 0, none⟩) (bj.length + 1) yc)).setCell ⟨xb, 1, none⟩ (.int .i64 (uv + cb))) = w12 at *
                  have HDA12 := Lib.hid (HDA10.out.kept HWE.out (fun h => h) (fun _ _ h => h.elim))
                  have HDB12 := Lib.hid (HDB10.out.kept HWE.out (fun h => h) (fun _ _ h => h.elim))
                  have HE12 := Lib.hid (HE10.out.ext HWE.out)
                  obtain ⟨RB, hRB⟩ : ∃ b, b = bet U i (q :: bj) bq := ⟨_, rfl⟩
                  have hbt : betB (uv + cb) cq (q :: bj) bq = RB := by
                    rw [hRB]; unfold betB bet
                    rw [HCX.out, HCQ.out]
                  have HRB := Lib.hid hRB
                  have HBT : Hid (∀ x : XW w12, Calls Try.prog 47 #[.agg #[.slice (some ⟨yb, 0, none⟩) (bj.length + 1) yc, .int .i64 (uv + cb)], .agg #[.slice qa bq.length qc, .int .i64 cq]] x.val fun e w' => e = .returned (.bool RB) ∧ Ext x.val w') := fun x => by
                    have := better_any _ _ _ _ (q :: bj) bq (uv + cb) cq x.val (HNX.out.kept x.ext (fun _ _ h => h)) (HNQ.out.kept (HWE.out.ext x.ext) (fun _ _ h => h)) (by simp; omega) (by have := HBQL.out; omega)
                    rw [hbt] at this
                    exact this
                  have hY0 : ∀ x : XW w12, x.val.cell? ⟨xb, 0, none⟩ = some (.slice (some ⟨yb, 0, none⟩) (bj.length + 1) yc) := fun x => cellRow (x.ext.heap HXB.out (fun h => h)) 0 _ rfl
                  have hY1 : ∀ x : XW w12, x.val.cell? ⟨xb, 1, none⟩ = some (.int .i64 (uv + cb)) := fun x => cellRow (x.ext.heap HXB.out (fun h => h)) 1 _ rfl
                  have hY2 : ∀ x : XW w12, x.val.cell? ⟨g2, q * 2, none⟩ = some (.slice qa bq.length qc) := fun x => (HWE.out.ext x.ext).cell e0 (fun h => h)
                  have hY3 : ∀ x : XW w12, x.val.cell? ⟨g2, q * 2 + 1, none⟩ = some (.int .i64 cq) := fun x => (HWE.out.ext x.ext).cell e1 (fun h => h)
                  have hrf2 : Ext w12 w12 := Upd.refl _ _
                  have z6 : (q : Int) < (i : Int) + 1 := by omega
                  clear hRB hbt e0 e1
                  go_wp2_with fail
                  refine wp_region_ext w12 (by assumption) (by kernel_rfl) (by kernel_rfl) ?_
                  repeat (first | go_big_quiet_skip | (go_big_quiet_want; go_big_quiet_op; first | go_big_quiet_on | (apply Exists.intro; refine ⟨fun x => ?_, ?_⟩; ((go_at_call 47; exact XW.call (HBT.out _))); go_big_quiet_on)))
                  refine wpQuiet_nil ?_
                  rintro w13 ⟨⟨_, hyw13⟩, rfl⟩
                  try dsimp only
                  have HE13 := Lib.hid (HE12.out.ext hyw13)
                  have HDA13 := Lib.hid (HDA12.out.kept hyw13 (fun h => h) (fun _ _ h => h.elim))
                  have HDB13 := Lib.hid (HDB12.out.kept hyw13 (fun h => h) (fun _ _ h => h.elim))
                  have HNX13 := Lib.hid (HNX.out.kept hyw13 (fun _ _ h => h))
                  have hys : yb < w13.heap.size := Nat.lt_of_lt_of_le HYS.out hyw13.size
                  have hxb := hyw13.heap HXB.out (fun h => h)
                  have c0 := cellRow hxb 0 _ rfl
                  have c1 := cellRow hxb 1 _ rfl
                  clear hY0 hY1 hY2 hY3 hrf2 hyw13 hxb HBT
                  cases RB
                  · have hbs := HBS.out
                    rw [← HRB.out, if_neg (by simp)] at hbs
                    have HBS2 := Lib.hid hbs
                    clear hbs
                    go_wp2_with fail
                    go_roundg (i - (j + 1))
                    case measure => omega
                    case rel => exact ⟨j + 1, Ly, by go_num, rfl, by omega, by omega, HE13.out, HDA13.out, HDB13.out, HLy.out.1, HLy.out.2.1, by rw [HBS2.out]; exact HLy.out.2.2.1, HLy.out.2.2.2⟩
                  · have hbs := HBS.out
                    rw [← HRB.out, if_pos rfl] at hbs
                    have HBS2 := Lib.hid hbs
                    obtain ⟨k0, k1, m0, m1⟩ := HDB13.out.cell (i := q) (by rw [HLy.out.1]; omega)
                    have hnset : NumR (fun k => k < w13.heap.size ∧ ¬ (k = g ∨ k = g2)) w13 (.slice (some ⟨yb, 0, none⟩) (bj.length + 1) yc) (ints (q :: bj)) :=
                      HNX13.out.weaken (fun k hk => by
                        have h1 := HDA10.out.lt
                        have h2 := HDB10.out.lt
                        exact ⟨by omega, by omega⟩)
                    have hset := HDB13.out.set (i := q) (by rw [HLy.out.1]; omega) ⟨q :: bj, .slice (some ⟨yb, 0, none⟩) (bj.length + 1) yc⟩ hnset
                    rw [show cost U i (DivV.mk (q :: bj) (.slice (some ⟨yb, 0, none⟩) (bj.length + 1) yc)).st = uv + cb from HCX.out] at hset
                    have HSET := Lib.hid hset
                    have hua : Upd (fun k => k = g2) w13 ((w13.setCell ⟨g2, q * 2, none⟩ (.slice (some ⟨yb, 0, none⟩) (bj.length + 1) yc)).setCell ⟨g2, q * 2 + 1, none⟩ (.int .i64 (uv + cb))) := (Upd.at_ _).trans (Upd.at_ _)
                    have HDA14 := Lib.hid (HDA13.out.kept hua HNE.out (fun k _ h => .inr h))
                    have hge : ∀ j', j' ≠ q → (Ly.set q ⟨q :: bj, .slice (some ⟨yb, 0, none⟩) (bj.length + 1) yc⟩).getD j' .zero = Ly.getD j' .zero := fun j' h => by
                      simp only [List.getD_eq_getElem?_getD, List.getElem?_set, if_neg (Ne.symm h)]
                    have hgq : ((Ly.set q ⟨q :: bj, .slice (some ⟨yb, 0, none⟩) (bj.length + 1) yc⟩).getD q .zero).st = q :: bj := by
                      have := HLy.out.1
                      simp [List.getD_eq_getElem?_getD, List.getElem?_set, show q < Ly.length by omega]
                    have HGE2 := Lib.hid hge
                    have HGQ := Lib.hid hgq
                    clear hbs hnset hset hua hge hgq
                    go_wp2_with fail
                    go_roundg (i - (j + 1))
                    case measure => omega
                    case rel => exact ⟨j + 1, _, by go_num, rfl, by omega, by omega, (HE13.out.setNew HG2.out _).setNew HG2.out _, HDA14.out, HSET.out, by rw [List.length_set]; exact HLy.out.1, fun j' h => by rw [HGE2.out j' (by omega)]; exact HLy.out.2.1 j' h, by rw [HGQ.out, HBS2.out], fun j' h1 h2 => by rw [HGE2.out j' (by omega)]; exact HLy.out.2.2.2 j' h1 h2⟩
                · obtain rfl : j = i := by omega
                  have t4 : decide ((j : Int) < (j : Int)) = false := by simp
                  have t5 : decide (j < j) = false := by simp
                  go_wp2_with fail
                  go_roundg (j - (q + 1))
                  case measure => omega
                  case rel => exact ⟨q + 1, Ly, by go_num, rfl, by omega, HE10.out, HDA10.out, HDB10.out, HLy.out.1, fun j' h => by
                    by_cases e : j' = q
                    · subst e
                      rw [HLy.out.2.2.1, show j - (j' + 1) = j - 1 - j' by omega]; rfl
                    · exact HLy.out.2.1 j' (by omega), fun j' h1 h2 => HLy.out.2.2.2 j' (by omega) h2⟩
            · obtain rfl : q = i := by omega
              have t2 : decide ((q : Int) < (q : Int)) = false := by simp
              have t3 : decide (q < q) = false := by simp
              go_wp2_with fail
              go_roundg (most - 1 - (p + 1))
              case measure => omega
              case rel => exact ⟨p + 1, g2, cp2, Lx, rfl, by go_num, rfl, by omega, hcp2, HE9.out, HG2.out, HDB9.out.regroup rfl (fun k _ h => .inr h), HLx.out.1, HLx.out.2.1⟩
        · obtain rfl : p = most - 1 := by omega
          have t1 : decide (((most - 1 : Nat) : Int) + 1 < (most : Int)) = false := decide_eq_false (by omega)
          obtain ⟨d0, _, _, _⟩ := HD2.out.cell (i := 0) (by rw [HL.out.1]; omega)
          rw [Nat.zero_mul] at d0
          have hn0 := HD2.out.st (L.getD 0 .zero) (by have := HL.out.1; simp [List.getD_eq_getElem?_getD, show 0 < L.length by omega])
          rw [HL.out.2 0 h0] at hn0
          have HN0 := Lib.hid hn0
          obtain ⟨oa, oc, hov⟩ := hn0.shape
          rw [hov] at d0 HN0
          clear hn0 hov
          go_wp2_with fail
          go_ret
          exact ⟨_, rfl, HN0.out.weaken (fun k hk => hk.1), HE2.out⟩

end Go.Proofs.Ythpekfpeoglbgaa
