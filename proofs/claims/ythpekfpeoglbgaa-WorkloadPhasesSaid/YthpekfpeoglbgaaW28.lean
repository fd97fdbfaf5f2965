/- WorkloadEven. -/
import Derived.Test.YthpekfpeoglbgaaW26
namespace Go.Proofs.Ythpekfpeoglbgaa
open Go.RowKit Go.Hw
set_option linter.unusedVariables false
set_option linter.unusedSimpArgs false

theorem size32 (w : World) : (sizeOf (Try.prog.elem 32)).run Try.prog w = .ok 2 w := by kernel_rfl
theorem elem32 : Try.prog.underlying 32 = some (.slice (Try.prog.elem 32)) := by kernel_rfl
theorem fewB_len {l : List OpV} {n : Int} (h : fewB (opsL l) n = true) : (l.length : Int) ≤ n ∨ (2000 < l.length ∧ l.length < 2005) := by
  unfold fewB at h
  rw [opsL_length] at h
  simp only [Bool.and_eq_true, Bool.or_eq_true, decide_eq_true_eq] at h
  exact h.1
theorem fewB_args {l : List OpV} {n : Int} (h : fewB (opsL l) n = true) : ∀ o ∈ l, o.op.args.length ≤ 100000000 := fun o ho => by
  unfold fewB at h
  simp only [Bool.and_eq_true, List.all_eq_true, decide_eq_true_eq] at h
  have := h.2 o.op (List.mem_map_of_mem ho)
  omega
theorem Dv_drop {n : Nat} : ∀ (Q : List Nat) (i0 : Nat), Dv n i0 Q → ∀ i, Dv n ((Q.drop i).headD n) (Q.drop i)
  | [], i0, h, i => by simp only [List.drop_nil, List.headD_nil]; exact (rfl : n = n)
  | j :: r, i0, h, 0 => by obtain ⟨rfl, h1, h2, h3⟩ := h; exact ⟨rfl, h1, h2, h3⟩
  | j :: r, i0, h, i + 1 => by obtain ⟨rfl, h1, h2, h3⟩ := h; exact Dv_drop r _ h3 i
set_option maxRecDepth 100000 in
set_option maxHeartbeats 1000000 in
theorem even_a (S : Nat → Prop) (kind : Int) (v : Value) (l : List OpV) (w : World) (h : OpsR S w v l) (hlm : l.length ≤ maxLen) (hf : fewB (opsL l) 15 = false) : Calls Try.prog 5 #[.int .i64 kind, v] w fun e w' => e = .returned (.bool true) ∧ Ext w w' := by
  obtain ⟨a, cap, hv⟩ := h.shape
  subst hv
  have HN := Lib.hid h
  have HAW := Lib.hid (fun W : World => awake_any W)
  have HFW : Hid (∀ W, Ext w W → Calls Try.prog 18 #[.slice a l.length cap, .int .i64 15] W fun e w' => e = .returned (.bool (fewB (opsL l) 15)) ∧ Ext W w') := fun W hW => few_any 15 _ l W S (HN.out.kept hW (fun _ _ h => h)) (by decide) hlm
  clear h
  rw [hf] at HFW
  clear hf
  generalize l.length = n at *
  go_enter Try.func5, Try.ntmps5
  go_wp2_with fail
  refine (HAW.out _).mono ?_
  rintro e w2 ⟨rfl, h2⟩
  have HE2 := Lib.hid h2
  clear h2
  go_wp2_with fail
  refine (HFW.out _ HE2.out).mono ?_
  rintro e w3 ⟨rfl, h3⟩
  have HE3 := Lib.hid (HE2.out.ext h3)
  clear h3
  go_wp2_with fail
  refine (HAW.out _).mono ?_
  rintro e w9 ⟨rfl, h9⟩
  have HE9 := Lib.hid (HE3.out.ext h9)
  clear h9
  go_wp2_with fail
  go_ret
  exact ⟨rfl, HE9.out⟩

set_option maxRecDepth 100000 in
set_option maxHeartbeats 1000000 in
theorem even_b (S : Nat → Prop) (kind : Int) (v : Value) (l : List OpV) (w : World) (h : OpsR S w v l) (hlm : l.length ≤ maxLen) (hf : fewB (opsL l) 15 = true) (hn : l.length = 0) : Calls Try.prog 5 #[.int .i64 kind, v] w fun e w' => e = .returned (.bool true) ∧ Ext w w' := by
  obtain ⟨a, cap, hv⟩ := h.shape
  subst hv
  have HN := Lib.hid h
  have HAW := Lib.hid (fun W : World => awake_any W)
  have HFW : Hid (∀ W, Ext w W → Calls Try.prog 18 #[.slice a l.length cap, .int .i64 15] W fun e w' => e = .returned (.bool (fewB (opsL l) 15)) ∧ Ext W w') := fun W hW => few_any 15 _ l W S (HN.out.kept hW (fun _ _ h => h)) (by decide) hlm
  clear h
  rw [hf] at HFW
  clear hf
  have t0 : ((l.length : Int) == 0) = true := by simp [hn]
  clear hn
  generalize l.length = n at *
  go_enter Try.func5, Try.ntmps5
  go_wp2_with fail
  refine (HAW.out _).mono ?_
  rintro e w2 ⟨rfl, h2⟩
  have HE2 := Lib.hid h2
  clear h2
  go_wp2_with fail
  refine (HFW.out _ HE2.out).mono ?_
  rintro e w3 ⟨rfl, h3⟩
  have HE3 := Lib.hid (HE2.out.ext h3)
  clear h3
  go_wp2_with fail
  refine (HAW.out _).mono ?_
  rintro e w9 ⟨rfl, h9⟩
  have HE9 := Lib.hid (HE3.out.ext h9)
  clear h9
  go_wp2_with fail
  go_ret
  exact ⟨rfl, HE9.out⟩

set_option maxRecDepth 100000 in
set_option maxHeartbeats 1000000 in
theorem even_c (S : Nat → Prop) (kind : Int) (v : Value) (l : List OpV) (w : World) (h : OpsR S w v l) (hlm : l.length ≤ maxLen) (hf : fewB (opsL l) 15 = true) (hn : 0 < l.length) (hval : validL kind (opsL l) = false) : Calls Try.prog 5 #[.int .i64 kind, v] w fun e w' => e = .returned (.bool true) ∧ Ext w w' := by
  obtain ⟨a, cap, hv⟩ := h.shape
  subst hv
  have HN := Lib.hid h
  have HAW := Lib.hid (fun W : World => awake_any W)
  have HFW : Hid (∀ W, Ext w W → Calls Try.prog 18 #[.slice a l.length cap, .int .i64 15] W fun e w' => e = .returned (.bool (fewB (opsL l) 15)) ∧ Ext W w') := fun W hW => few_any 15 _ l W S (HN.out.kept hW (fun _ _ h => h)) (by decide) hlm
  clear h
  have HA : Hid (∀ o ∈ l, o.op.args.length ≤ 100000000) := fewB_args hf
  have HRV : Hid (∀ W, Ext w W → Calls Try.prog 20 #[.int .i64 kind, .slice a l.length cap] W fun e w' => e = .returned (.bool (validL kind (opsL l))) ∧ Ext W w') := fun W hW => rvalid_any kind _ l W S (HN.out.kept hW (fun _ _ h => h)) (by have := fewB_len hf; omega) HA.out
  rw [hf] at HFW
  rw [hval] at HRV
  clear hf hval
  have t0 : ((l.length : Int) == 0) = false := beq_eq_false_iff_ne.2 (by omega)
  generalize l.length = n at *
  go_enter Try.func5, Try.ntmps5
  go_wp2_with fail
  refine (HAW.out _).mono ?_
  rintro e w2 ⟨rfl, h2⟩
  have HE2 := Lib.hid h2
  clear h2
  go_wp2_with fail
  refine (HFW.out _ HE2.out).mono ?_
  rintro e w3 ⟨rfl, h3⟩
  have HE3 := Lib.hid (HE2.out.ext h3)
  clear h3
  go_wp2_with fail
  refine (HRV.out _ HE3.out).mono ?_
  rintro e w4 ⟨rfl, h4⟩
  have HE4 := Lib.hid (HE3.out.ext h4)
  clear h4
  go_wp2_with fail
  refine (HAW.out _).mono ?_
  rintro e w9 ⟨rfl, h9⟩
  have HE9 := Lib.hid (HE4.out.ext h9)
  clear h9
  go_wp2_with fail
  go_ret
  exact ⟨rfl, HE9.out⟩

set_option maxRecDepth 100000 in
set_option maxHeartbeats 4000000 in
theorem even_d (S : Nat → Prop) (kind : Int) (v : Value) (l : List OpV) (w : World) (h : OpsR S w v l) (hlm : l.length ≤ maxLen) (hf : fewB (opsL l) 15 = true) (hn : 0 < l.length) (hval : validL kind (opsL l) = true) : Calls Try.prog 5 #[.int .i64 kind, v] w fun e w' => e = .returned (.bool true) ∧ Ext w w' := by
  obtain ⟨a, cap, hv⟩ := h.shape
  subst hv
  have HN := Lib.hid h
  have HAW := Lib.hid (fun W : World => awake_any W)
  have HFW : Hid (∀ W, Ext w W → Calls Try.prog 18 #[.slice a l.length cap, .int .i64 15] W fun e w' => e = .returned (.bool (fewB (opsL l) 15)) ∧ Ext W w') := fun W hW => few_any 15 _ l W S (HN.out.kept hW (fun _ _ h => h)) (by decide) hlm
  clear h
  have HA : Hid (∀ o ∈ l, o.op.args.length ≤ 100000000) := fewB_args hf
  have HRV : Hid (∀ W, Ext w W → Calls Try.prog 20 #[.int .i64 kind, .slice a l.length cap] W fun e w' => e = .returned (.bool (validL kind (opsL l))) ∧ Ext W w') := fun W hW => rvalid_any kind _ l W S (HN.out.kept hW (fun _ _ h => h)) (by have := fewB_len hf; omega) HA.out
  rw [hf] at HFW
  rw [hval] at HRV
  have vl := (validL_iff kind (opsL l)).1 hval
  have hl15 : l.length ≤ 15 := by
    have h1 := vl.2.1
    rw [opsL_length] at h1
    have := fewB_len hf
    omega
  have HPH0 : Hid (∀ W, Ext w W → ∀ m : Nat, m < l.length → Calls Try.prog 19 #[.int .i64 kind, .slice a l.length cap, .int .i64 ((m : Int) + 1)] W fun e w' => ∃ v, e = .returned (.tuple #[v, .int .i64 0]) ∧ NumR (fun k => k < w'.heap.size) w' v ((Ph (UN (nW kind) (csL l)) l.length (m + 1)).map fun i : Nat => (i : Int)) ∧ Ext W w') := fun W hW m hm => by
    have := ph_ok S kind _ l W (HN.out.kept hW (fun _ _ h => h)) (by omega) HA.out ((m : Int) + 1) hval (by omega) (by omega) hn
    have e : ((m : Int) + 1).toNat = m + 1 := by omega
    rw [e] at this
    exact (this.mono fun e w' ⟨v, h1, h2, h3⟩ => ⟨v, h1, h2, h3⟩)
  have HUE : Hid (∀ W, Ext w W → ∀ i j : Nat, i ≤ j → j ≤ l.length → Calls Try.prog 23 #[.int .i64 kind, sliced a i j cap 2] W fun e w' => e = .returned (.int .i64 (UN (nW kind) (csL l) i j)) ∧ Ext W w') := fun W hW i j hij hj => by
    have := runeven_any S kind _ ((l.take j).drop i) W ((HN.out.kept hW (fun _ _ h => h)).part hij hj) (by rw [List.length_drop, List.length_take]; omega)
    rw [csL_part l i j hij] at this
    exact this
  have hU0 : ∀ i j, 0 ≤ UN (nW kind) (csL l) i j := fun i j => UN_nonneg _ _ _ _
  have hU1 : ∀ k, UN (nW kind) (csL l) k (k + 1) = 0 := fun k => UN_one _ _ (fun x hx => by
    unfold csL codesL at hx
    obtain ⟨o, ho, rfl⟩ := List.mem_map.1 hx
    exact validOp_code (vl.2.2 o ho)) k
  have hUle : ∀ i j, i ≤ j → j ≤ l.length → UN (nW kind) (csL l) i j ≤ (j : Int) - i := fun i j hij hj => UN_le' _ _ i j hij (by rw [csL_length]; exact hj)
  have hcap := HN.out.row.le_cap rfl
  generalize UN (nW kind) (csL l) = U at *
  have t0 : ((l.length : Int) == 0) = false := beq_eq_false_iff_ne.2 (by omega)
  clear hf hval vl hlm HA
  generalize l.length = n at *
  obtain ⟨LA, hLA⟩ : ∃ LA : Nat → Int, LA = fun m => if m = 0 then (n : Int) + 1 else cost U n (Ph U n m) := ⟨_, rfl⟩
  have HL0 : LA 0 = (n : Int) + 1 := by rw [hLA]; rfl
  have HLs : Hid (∀ m, LA (m + 1) = cost U n (Ph U n (m + 1))) := fun m => by rw [hLA]; exact if_neg (by omega)
  have HLn : LA n = 0 := by
    obtain ⟨k, rfl⟩ : ∃ k, n = k + 1 := ⟨n - 1, by omega⟩
    rw [HLs.out]
    exact Ph_cost_zero U hU0 hU1 hn
  have HDv : Hid (∀ m, Dv n 0 (Ph U n (m + 1)) ∧ (Ph U n (m + 1)).length ≤ m + 1 ∧ 0 < (Ph U n (m + 1)).length) := fun m => by
    have O := Ph_opt U hU0 hn (most := m + 1) (by omega)
    refine ⟨O.dv, by have := O.len; omega, ?_⟩
    obtain ⟨r, e, _⟩ := O.dv.cons hn
    rw [e]; simp
  have HLb : Hid (∀ m, 0 ≤ LA m ∧ LA m ≤ (n : Int) + 1) := fun m => by
    cases m with
    | zero => rw [HL0]; omega
    | succ m =>
      rw [HLs.out]
      have h1 := cost_nonneg U (n := n) hU0 (Ph U n (m + 1))
      have h2 := cost_le U n hUle _ 0 (HDv.out m).1 (by omega)
      omega
  have HLm : Hid (∀ m, LA (m + 1) ≤ LA m) := fun m => by
    cases m with
    | zero =>
      rw [HL0, HLs.out]
      have h2 := cost_le U n hUle _ 0 (HDv.out 0).1 (by omega)
      omega
    | succ m => rw [HLs.out, HLs.out]; exact Ph_cost_mono U hU0 hn (by omega) (by omega)
  have HU0 := Lib.hid hU0
  have HUle := Lib.hid hUle
  clear hLA hU0 hU1 hUle
  have HL0' := Lib.hid HL0
  have HLn' := Lib.hid HLn
  clear HL0 HLn
  go_enter Try.func5, Try.ntmps5
  go_wp2_with fail
  refine (HAW.out _).mono ?_
  rintro e w2 ⟨rfl, h2⟩
  have HE2 := Lib.hid h2
  clear h2
  go_wp2_with fail
  refine (HFW.out _ HE2.out).mono ?_
  rintro e w3 ⟨rfl, h3⟩
  have HE3 := Lib.hid (HE2.out.ext h3)
  clear h3
  go_wp2_with fail
  refine (HRV.out _ HE3.out).mono ?_
  rintro e w4 ⟨rfl, h4⟩
  have HE4 := Lib.hid (HE3.out.ext h4)
  clear h4
  go_wp2_with fail
  go_loopg [5, 6, 7, 8, 9, 10, 11, 12] n (fun gk last most s7 s8 s9 s10 s11 s12 wr => ∃ m : Nat, last = .int .i64 (LA m) ∧ most = .int .i64 ((m : Int) + 1) ∧ gk = n - m ∧ m ≤ n ∧ Hid (Ext w wr))
  case atStart => exact ⟨0, by rw [HL0'.out], rfl, rfl, Nat.zero_le _, HE4.out⟩
  case round =>
    obtain ⟨m, rfl, rfl, rfl, hm, HE⟩ := hrel
    clear HFW HRV
    by_cases hmn : m < n
    · have t1 : decide ((m : Int) + 1 ≤ (n : Int)) = true := by simp; omega
      have HPC := Lib.hid (HPH0.out wr HE.out m hmn)
      have hla := HLb.out m
      have hlb := HLb.out (m + 1)
      have hlc := HLm.out m
      have HLN := Lib.hid (HLs.out m)
      obtain ⟨hQ1, hQ2, hQ3⟩ := HDv.out m
      generalize Ph U n (m + 1) = Q at *
      generalize hLm : LA m = LM at *
      generalize hLn : LA (m + 1) = LN at *
      have HLM1 := Lib.hid hLm
      have HLM2 := Lib.hid hLn
      clear hLm hLn
      have HQ1 := Lib.hid hQ1
      clear hQ1
      go_wp2_with fail
      refine HPC.out.mono ?_
      rintro e w5 ⟨xv, rfl, hx, h5⟩
      have HE5 := Lib.hid (HE.out.ext h5)
      obtain ⟨xg, xo, xc, hxv, hxc, _, hxj⟩ := SlR.pos hx (by rw [List.length_map]; exact hQ3)
      rw [List.length_map] at hxv hxc hxj
      subst hxv
      generalize hq : Q.length = q at *
      have Hq := Lib.hid hq
      have HXC : Hid (∀ W, Ext w5 W → ∀ j, j < q → W.cell? ⟨xg, xo + j, none⟩ = some (.int .i64 ((Q.getD j 0 : Nat) : Int))) := fun W hW j hj => by
        refine hW.cell ?_ (fun h => h)
        rw [hxj j (by omega), nums_get _ _ (by rw [List.length_map, Hq.out]; exact hj)]
        simp [hj, hq]
      clear hx h5 hxj HPC hxc hq
      have k0 := HXC.out w5 (Upd.refl _ _) 0 hQ3
      have hQ0 : Q.getD 0 0 = 0 := by
        obtain ⟨r, e, _⟩ := HQ1.out.cons hn
        rw [e]; rfl
      rw [hQ0, Nat.add_zero] at k0
      have t2 : ((q : Int) == 0) = false := beq_eq_false_iff_ne.2 (by omega)
      have t3 : decide ((m : Int) + 1 < (q : Int)) = false := by simp; omega
      clear hQ0
      go_wp2_with fail
      go_loopg [9, 10, 11, 12, 69] q (fun gk sv s10 s11 s12 iv wr => ∃ (i : Nat) (sm : Int), sv = .int .i64 sm ∧ iv = .int .i64 i ∧ gk = q - i ∧ i ≤ q ∧ sm + cost U n (Q.drop i) = LN ∧ 0 ≤ sm ∧ Hid (Ext w5 wr))
      case atStart => exact ⟨0, 0, rfl, rfl, rfl, Nat.zero_le _, by rw [HLN.out]; simp, Int.le_refl _, Upd.refl _ _⟩
      case round =>
        obtain ⟨i, sm, rfl, rfl, rfl, hi, hsm, hs0, HX⟩ := hrel
        clear k0
        by_cases hiq : i < q
        · have hiq2 : i < Q.length := by rw [Hq.out]; exact hiq
          have hdr : Q.drop i = Q.getD i 0 :: Q.drop (i + 1) := by
            rw [List.drop_eq_getElem_cons hiq2]; simp [hiq2]
          have hd := Dv_drop Q 0 HQ1.out i
          rw [hdr] at hd hsm
          obtain ⟨_, hd1, hd2, hd3⟩ := hd
          have hc0 := cost_nonneg U (n := n) HU0.out (Q.drop (i + 1))
          have hu0 := HU0.out (Q.getD i 0) ((Q.drop (i + 1)).headD n)
          simp only [cost] at hsm
          have hto : (Q.drop (i + 1)).headD n = if i + 1 < q then Q.getD (i + 1) 0 else n := by
            by_cases h : i + 1 < q
            · rw [if_pos h, List.drop_eq_getElem_cons (by rw [Hq.out]; exact h)]; simp [show i + 1 < Q.length by rw [Hq.out]; exact h]
            · rw [if_neg h, List.drop_of_length_le (by rw [Hq.out]; omega)]; rfl
          have hd4 : (Q.drop (i + 1)).headD n ≤ n := by
            by_cases h : i + 1 < q
            · have hd5 := Dv_drop Q 0 HQ1.out (i + 1)
              rw [List.drop_eq_getElem_cons (by rw [Hq.out]; exact h)] at hd5 ⊢
              exact Nat.le_of_lt hd5.2.1
            · rw [hto, if_neg h]; exact Nat.le_refl _
          have k1 := HXC.out wr HX.out i hiq
          have k2 : i + 1 < q → wr.cell? ⟨xg, xo + (i + 1), none⟩ = some (.int .i64 (((Q.drop (i + 1)).headD n : Nat) : Int)) := fun h => by
            rw [hto, if_pos h]; exact HXC.out wr HX.out (i + 1) h
          have k3 : ¬ i + 1 < q → (Q.drop (i + 1)).headD n = n := fun h => by rw [hto, if_neg h]
          have HC1 := Lib.hid (HUE.out wr (HE5.out.ext HX.out) (Q.getD i 0) ((Q.drop (i + 1)).headD n) (by omega) hd4)
          have HK2 := Lib.hid k2
          have HK3 := Lib.hid k3
          clear hto hd3 k2 k3 hdr hiq2
          generalize (Q.drop (i + 1)).headD n = TT at *
          generalize Q.getD i 0 = FF at *
          generalize hcr : cost U n (Q.drop (i + 1)) = CR at *
          have HCR := Lib.hid hcr
          clear hcr
          generalize U FF TT = UV at *
          have t5 : decide ((FF : Int) < 0) = false := by first | (simp; done) | (simp; omega)
          have t6 : decide ((TT : Int) ≤ (FF : Int)) = false := by simp; omega
          have t7 : decide ((n : Int) < (TT : Int)) = false := by simp; omega
          have q1 : IntKind.i64.wrap (sm + UV) = sm + UV := IntWalk.i64_in _ (by omega)
          obtain ⟨sv, hsv⟩ : ∃ sv, sv = sliced a FF TT cap 2 := ⟨_, rfl⟩
          rw [← hsv] at HC1
          have HSV := Lib.hid hsv
          clear hsv
          by_cases h2 : i + 1 < q
          · have k2 := HK2.out h2
            have t8 : decide ((i : Int) + 1 < (q : Int)) = true := by simp; omega
            go_wp2_with (with_reducible (refine stop_at (o := ⟨some 104, _, _, _, _, _⟩) ?_))
            refine Stop.go ?_
            refine wpList_slice_lh rfl 32 (.tmp 101) (.tmp 102) (.tmp 103) rfl 2 elem32 size32 a n cap rfl .i64 .i64 FF TT rfl rfl (by omega) (by omega) ?_
            rw [← HSV.out]
            go_wp2_with fail
            refine HC1.out.mono ?_
            rintro e w6 ⟨rfl, h6⟩
            have HX6 := Lib.hid (HX.out.ext h6)
            clear h6
            go_wp2_with fail
            go_roundg (q - (i + 1))
            case measure => omega
            case rel => exact ⟨i + 1, sm + UV, by first | rfl | (congr 1; omega), by go_num, rfl, by omega, by rw [HCR.out]; omega, by omega, HX6.out⟩
          · have k3 := HK3.out h2
            subst k3
            have t8 : decide ((i : Int) + 1 < (q : Int)) = false := by simp; omega
            go_wp2_with (with_reducible (refine stop_at (o := ⟨some 104, _, _, _, _, _⟩) ?_))
            refine Stop.go ?_
            refine wpList_slice_lh rfl 32 (.tmp 101) (.tmp 102) (.tmp 103) rfl 2 elem32 size32 a TT cap rfl .i64 .i64 FF TT rfl rfl (by omega) (by omega) ?_
            rw [← HSV.out]
            go_wp2_with fail
            refine HC1.out.mono ?_
            rintro e w6 ⟨rfl, h6⟩
            have HX6 := Lib.hid (HX.out.ext h6)
            clear h6
            go_wp2_with fail
            go_roundg (q - (i + 1))
            case measure => omega
            case rel => exact ⟨i + 1, sm + UV, by first | rfl | (congr 1; omega), by go_num, rfl, by omega, by rw [HCR.out]; omega, by omega, HX6.out⟩
        · obtain rfl : i = q := by omega
          have hz : Q.drop i = [] := List.drop_of_length_le (by rw [Hq.out]; exact Nat.le_refl _)
          rw [hz] at hsm
          simp only [cost] at hsm
          have hs2 : sm = LN := by omega
          subst hs2
          have t9 : decide (LM < sm) = false := by simp; omega
          clear hz hsm
          go_wp2_with fail
          go_roundg (n - (m + 1))
          case measure => omega
          case rel => exact ⟨m + 1, by rw [HLM2.out], by go_num, rfl, by omega, HE5.out.ext HX.out⟩
    · obtain rfl : m = n := by omega
      have t1 : decide ((m : Int) + 1 ≤ (m : Int)) = false := by simp; omega
      rw [HLn'.out]
      go_wp2_with fail
      go_ret
      exact ⟨rfl, HE.out⟩

theorem even_law (S : Nat → Prop) (kind : Int) (v : Value) (l : List OpV) (w : World) (h : OpsR S w v l) (hlm : l.length ≤ maxLen) : Calls Try.prog 5 #[.int .i64 kind, v] w fun e w' => e = .returned (.bool true) ∧ Ext w w' := by
  cases hf : fewB (opsL l) 15
  · exact even_a S kind v l w h hlm hf
  · by_cases hn : l.length = 0
    · exact even_b S kind v l w h hlm hf hn
    · cases hval : validL kind (opsL l)
      · exact even_c S kind v l w h hlm hf (by omega) hval
      · exact even_d S kind v l w h hlm hf (by omega) hval

end Go.Proofs.Ythpekfpeoglbgaa
