/- ref.Measure. -/
import Derived.Test.YthpekfpeoglbgaaW10
import Derived.Test.YthpekfpeoglbgaaW21
import Derived.StillTailTactics
namespace Go.Proofs.Ythpekfpeoglbgaa
open Go.RowKit Go.Hw
set_option linter.unusedVariables false
set_option linter.unusedSimpArgs false

theorem heap_set2 {w : World} {b k j : Nat} {o : Obj} {u : Value} (h : w.heap[b]? = some o) (hne : b ≠ k) : (w.setCell ⟨k, j, none⟩ u).heap[b]? = some o :=
  (Upd.at_ (w := w) (g := k) (j := j) u).heap h hne
theorem isE_false {l : List Int} (h : (!l.isEmpty) = false) : l = [] := by cases l <;> simp_all
theorem isE_true {l : List Int} (h : (!l.isEmpty) = true) : l ≠ [] := by cases l <;> simp_all
set_option maxRecDepth 100000 in
set_option maxHeartbeats 4000000 in
/-- ref.Measure -/
theorem rmeas_any (S : Nat → Prop) (kind : Int) (v : Value) (l : List OpV) (w : World) (h : OpsR S w v l) (hval : validL kind (opsL l) = true) (hpos : 0 < l.length) :
    Calls Try.prog 25 #[.int .i64 kind, v] w fun e w' => ∃ wv, e = .returned (.agg #[.int .i64 kind, wv, .int .i64 (minL (argsL (opsL l))), .int .i64 (maxL (argsL (opsL l)))]) ∧ NumR (fun k => k < w'.heap.size) w' wv (mWs kind (opsL l)) ∧ Ext w w' := by
  have vl := (validL_iff kind (opsL l)).1 hval
  obtain ⟨a, cap, hv⟩ := h.shape
  subst hv
  have HN := Lib.hid h
  have HZ : Hid (Ext w (w.alloc (.cells #[.int .i64 0, .slice none 0 0, .int .i64 0, .int .i64 0] 24))) := (Upd.refl _ w).alloc _
  have HB0 : Hid ((w.alloc (.cells #[.int .i64 0, .slice none 0 0, .int .i64 0, .int .i64 0] 24)).heap[w.heap.size]? = some (.cells #[.int .i64 0, .slice none 0 0, .int .i64 0, .int .i64 0] 24)) := alloc0 _ _
  clear h
  obtain ⟨i0, hi0, hz0, hz1, hz2⟩ := info_parts info3
  have hK8 := nW_le kind
  obtain ⟨K, hK⟩ : ∃ K, K = nW kind := ⟨_, rfl⟩
  have HWD : Hid (∀ W, Calls Try.prog 34 #[.int .i64 kind] W fun e w' => ∃ a, e = .returned (.slice a K K) ∧ Ext W w') := fun W => by rw [hK]; exact rwords_any kind W
  rw [← hK] at hK8
  have HMK : Hid (∀ (n : Nat), n ≤ 100000 → ∀ W : World, (Instr.makeSlice 22 (.int .i64 (n : Int)) (.int .i64 (n : Int))).run Try.prog W = .ok (.slice (some ⟨W.heap.size, 0, none⟩) n n) (W.alloc (.cells (madeCells #[.int .i64 0] n) 3))) :=
    fun n hn W => made_one Try.prog 22 3 i0 (.int .i64 0) Try.underlying22 hi0 hz0 hz1 rfl (by rw [hz2]; omega) n (by omega) W
  have hmk := HMK.out K (by omega)
  have HCD : Hid (∀ i, i < l.length → 1 ≤ (csL l).getD i 0 ∧ (csL l).getD i 0 ≤ (K : Int) ∧ (l.getD i .zero).op.args.length ≤ 64) := fun i hi => by
    have hm : (l.getD i .zero).op ∈ opsL l := List.mem_map_of_mem (getD_mem hi)
    have := vl.2.2 _ hm
    have h1 := validOp_code this
    rw [csL_get l i hi]
    exact ⟨h1.1, by rw [hK]; exact h1.2, validOp_len this⟩
  have HWS : Hid (mWs kind (opsL l) = (List.range K).map fun i : Nat => cnt ((i : Int) + 1) (csL l)) := by rw [hK]; exact rfl
  obtain ⟨MNV, hMNV⟩ : ∃ x, x = minL (argsL (opsL l)) := ⟨_, rfl⟩
  obtain ⟨MXV, hMXV⟩ : ∃ x, x = maxL (argsL (opsL l)) := ⟨_, rfl⟩
  rw [← hMNV, ← hMXV]
  have HMNV := Lib.hid hMNV
  have HMXV := Lib.hid hMXV
  clear hMNV hMXV
  have hl2 : l.length ≤ 2000 := by have := vl.2.1; rw [opsL_length] at this; exact this
  clear hval vl hK hpos
  generalize hn : l.length = n at *
  have Hn := Lib.hid hn
  clear hn
  go_enter Try.func25, Try.ntmps25
  go_wp2_with fail
  refine (HWD.out _).mono ?_
  rintro e w3 ⟨wa, rfl, h3⟩
  have HE3 := Lib.hid (HZ.out.ext h3)
  have HB3 := Lib.hid (h3.heap HB0.out (fun h => h))
  clear h3
  have hP0 : ((w3.alloc (.cells (madeCells #[.int .i64 0] K) 3)).alloc (.cells #[.int .i64 0, .slice none 0 0, .int .i64 0, .int .i64 0] 24)).heap[w3.heap.size + 1]? = some (.cells #[.int .i64 0, .slice none 0 0, .int .i64 0, .int .i64 0] 24) := alloc_at _ _ (by simp)
  have p0 := cellRow hP0 0 _ rfl
  have p1 := cellRow hP0 1 _ rfl
  have p2 := cellRow hP0 2 _ rfl
  have p3 := cellRow hP0 3 _ rfl
  have q0 := frozenRow hP0 0
  have q1 := frozenRow hP0 1
  have q2 := frozenRow hP0 2
  have q3 := frozenRow hP0 3
  clear hP0
  go_wp2_with fail
  have hC0 : ((w3.alloc (.cells (madeCells #[.int .i64 0] K) 3)).alloc (.cells #[.int .i64 kind, .slice (some ⟨w3.heap.size, 0, none⟩) K K, .int .i64 0, .int .i64 0] 24)).heap[w3.heap.size]? = some (.cells (madeCells #[.int .i64 0] K) 3) := allocOld (alloc0 _ _) _
  have hP0 : ((w3.alloc (.cells (madeCells #[.int .i64 0] K) 3)).alloc (.cells #[.int .i64 kind, .slice (some ⟨w3.heap.size, 0, none⟩) K K, .int .i64 0, .int .i64 0] 24)).heap[w3.heap.size + 1]? = some (.cells #[.int .i64 kind, .slice (some ⟨w3.heap.size, 0, none⟩) K K, .int .i64 0, .int .i64 0] 24) := alloc_at _ _ (by simp)
  have hE0 : Ext w3 ((w3.alloc (.cells (madeCells #[.int .i64 0] K) 3)).alloc (.cells #[.int .i64 kind, .slice (some ⟨w3.heap.size, 0, none⟩) K K, .int .i64 0, .int .i64 0] 24)) := ((Upd.refl _ w3).alloc _).alloc _
  have HB4 := Lib.hid (hE0.heap HB3.out (fun h => h))
  have HC4 := Lib.hid hC0
  have HP4 := Lib.hid hP0
  have HE4 := Lib.hid (HE3.out.ext hE0)
  have Hs1 : Hid ((madeCells #[Value.int .i64 0] K).size = K) := by show _ = _; rw [size_madeCells]
  have Hw3 : Hid (w.heap.size < w3.heap.size) := (Array.getElem?_eq_some_iff.1 HB3.out).1
  clear hC0 hP0 hE0 HB3 HE3 p0 p1 p2 p3 q0 q1 q2 q3 hmk HB0 HZ
  generalize ((w3.alloc (.cells (madeCells #[.int .i64 0] K) 3)).alloc (.cells #[.int .i64 kind, .slice (some ⟨w3.heap.size, 0, none⟩) K K, .int .i64 0, .int .i64 0] 24)) = w4 at *
  generalize w3.heap.size = C at *
  go_loopg [6, 7, 8, 9] n (fun gk sv iv s8 s9 wr => ∃ (i : Nat) (ca : Array Value) (sb : Bool) (mn mx : Int), iv = .int .i64 i ∧ sv = .bool sb ∧ gk = n - i ∧ i ≤ n ∧ Hid (Ext w wr) ∧ Hid (wr.heap[w.heap.size]? = some (.cells #[.int .i64 0, .slice none 0 0, .int .i64 0, .int .i64 0] 24)) ∧ Hid (wr.heap[C + 1]? = some (.cells #[.int .i64 kind, .slice (some ⟨C, 0, none⟩) K K, .int .i64 mn, .int .i64 mx] 24)) ∧ Hid (wr.heap[C]? = some (.cells ca 3)) ∧
    Hid (ca.size = K ∧ ∀ c, c < K → ca[c]? = some (.int .i64 (cnt ((c : Int) + 1) ((csL l).take i)))) ∧ Hid (sb = !(argsL (opsL (l.take i))).isEmpty ∧ mn = minL (argsL (opsL (l.take i))) ∧ mx = maxL (argsL (opsL (l.take i)))))
  case atStart => exact ⟨0, _, false, 0, 0, rfl, rfl, rfl, Nat.zero_le _, HE4.out, HB4.out, HP4.out, HC4.out, ⟨Hs1.out, fun c hc => made_get _ _ _ hc⟩, ⟨rfl, rfl, rfl⟩⟩
  case round =>
    obtain ⟨i, ca, sb, mn, mx, rfl, rfl, rfl, hi, HE, HRB, HPB, HCA, Hca, HMM⟩ := hrel
    clear HB4 HC4 HP4 HE4 Hs1
    by_cases hlt : i < n
    · have hlx : i < l.length := by rw [Hn.out]; exact hlt
      obtain ⟨g, off, cap', hv, hcc, hg, c0, c1, _⟩ := (HN.out.kept HE.out (fun _ _ h => h)).at hlx
      rw [Hn.out] at hv
      injection hv with e1 e2 e3
      subst e1; subst e3
      obtain ⟨hb1, hb2, hb3⟩ := HCD.out i hlt
      rw [← csL_get l i hlx] at c0
      obtain ⟨cv, hcv⟩ := Int.eq_ofNat_of_zero_le (show 0 ≤ (csL l).getD i 0 - 1 by omega)
      have hcv1 : (csL l).getD i 0 = (cv : Int) + 1 := by omega
      have HCV := Lib.hid hcv1
      rw [hcv1] at c0
      have hcK : cv < K := by omega
      have hna := HN.out.arg _ (getD_mem hlx)
      obtain ⟨aa, ac, hoa⟩ := hna.shape
      rw [hoa] at c1 hna
      have HAA : Hid (argsL (opsL (l.take (i + 1))) = argsL (opsL (l.take i)) ++ (l.getD i .zero).op.args) := by
        have e : l.take (i + 1) = l.take i ++ [l.getD i .zero] := by rw [List.take_succ_eq_append_getElem hlx]; simp [hlx]
        show _ = _
        rw [e]
        simp [opsL, argsL]
      have HCN : Hid (∀ c : Int, cnt c ((csL l).take (i + 1)) = cnt c ((csL l).take i) + if (cv : Int) + 1 = c then 1 else 0) := fun c => by
        have hic : i < (csL l).length := by rw [csL_length]; exact hlx
        have hcv2 : (csL l)[i] = (cv : Int) + 1 := by rw [← HCV.out]; simp [hic]
        rw [List.take_succ_eq_append_getElem hic, cnt_snoc, hcv2]
      have hcnb := cnt_bd ((cv : Int) + 1) ((csL l).take i)
      have hcnl : ((csL l).take i).length ≤ n := by rw [List.length_take]; omega
      have HNA := Lib.hid hna
      have HC0 : Hid (∀ W, Ext w W → W.cell? ⟨g, off + i * 2 + 1, none⟩ = some (.slice aa (l.getD i .zero).op.args.length ac) ∧ True) := fun W hW => by
        obtain ⟨g', off', cap'', hv', _, _, _, c1', _⟩ := (HN.out.kept hW (fun _ _ h => h)).at hlx
        injection hv' with e1 e2 e3
        injection e1 with e1
        injection e1 with e1 e4
        subst e1; subst e4
        rw [hoa] at c1'
        exact ⟨c1', trivial⟩
      generalize (l.getD i .zero).op.args = ARGL at *
      generalize hA2 : argsL (opsL (l.take (i + 1))) = AL2 at *
      have HA2 := Lib.hid hA2
      clear hA2
      generalize argsL (opsL (l.take i)) = AL at *
      have hcell := Hca.out.2 cv hcK
      generalize hCN : cnt ((cv : Int) + 1) ((csL l).take i) = CN at *
      have HCNe := Lib.hid hCN
      have y0 := cellRow HPB.out 1 _ rfl
      have y1 := cellRow HCA.out cv _ hcell
      have y2 := frozenRow HCA.out cv
      have s3 : (cv : Int) < (K : Int) := by omega
      have s1 : (0 : Int) ≤ (i : Int) := by omega
      clear hg hcc e2 hcv hcv1 hna hoa hcell hCN hlx hb1 hb2
      have hw7 : Upd (fun k => k = C) wr (wr.setCell ⟨C, cv, none⟩ (.int .i64 (CN + 1))) := Upd.at_ _
      have HC7 := Lib.hid (setBlock HCA.out cv (.int .i64 (CN + 1)))
      have HP7 := Lib.hid (hw7.heap HPB.out (by omega))
      have HR7 := Lib.hid (hw7.heap HRB.out (by have := Hw3.out; omega))
      have HE7 : Hid (Ext w (wr.setCell ⟨C, cv, none⟩ (.int .i64 (CN + 1)))) := HE.out.setNew (Nat.le_of_lt Hw3.out) _
      have HCS : Hid ((ca.setIfInBounds cv (.int .i64 (CN + 1))).size = K ∧ ∀ c, c < K → (ca.setIfInBounds cv (.int .i64 (CN + 1)))[c]? = some (.int .i64 (cnt ((c : Int) + 1) ((csL l).take (i + 1))))) := by
        refine ⟨by rw [Array.size_setIfInBounds]; exact Hca.out.1, fun c hc => ?_⟩
        by_cases e : c = cv
        · subst e
          rw [Array.getElem?_setIfInBounds_self_of_lt (by rw [Hca.out.1]; exact hc), HCN.out, if_pos rfl, HCNe.out]
        · rw [Array.getElem?_setIfInBounds_ne (by omega), Hca.out.2 c hc, HCN.out, if_neg (by omega), Int.add_zero]
      clear hw7
      have e1 : IntKind.i64.wrap (cv : Int) = (cv : Int) := IntWalk.i64_in _ (by omega)
      have e2 : IntKind.i64.wrap (CN + 1) = CN + 1 := IntWalk.i64_in _ (by omega)
      have e3 : (0 : Int) ≤ (cv : Int) := by omega
      go_wp2_with fail
      go_still_tail 12, (by kernel_rfl)
      change wpList _ _ _ _ _ wr.drew
      go_wp2_with fail
      have HE8 : Hid (Ext w (wr.setCell ⟨C, cv, none⟩ (.int .i64 (CN + 1))).drew) := HE7.out.drew
      have HC8 : Hid ((wr.setCell ⟨C, cv, none⟩ (.int .i64 (CN + 1))).drew.heap[C]? = some (.cells (ca.setIfInBounds cv (.int .i64 (CN + 1))) 3)) := HC7.out
      have HP8 : Hid ((wr.setCell ⟨C, cv, none⟩ (.int .i64 (CN + 1))).drew.heap[C + 1]? = some (.cells #[.int .i64 kind, .slice (some ⟨C, 0, none⟩) K K, .int .i64 mn, .int .i64 mx] 24)) := HP7.out
      have HR8 : Hid ((wr.setCell ⟨C, cv, none⟩ (.int .i64 (CN + 1))).drew.heap[w.heap.size]? = some (.cells #[.int .i64 0, .slice none 0 0, .int .i64 0, .int .i64 0] 24)) := HR7.out
      clear HE7 HC7 HP7 HR7 y0 y1 y2 c0 c1
      generalize (wr.setCell ⟨C, cv, none⟩ (.int .i64 (CN + 1))).drew = w8 at *
      generalize hCA2 : ca.setIfInBounds cv (.int .i64 (CN + 1)) = ca2 at *
      clear hCA2
      generalize hm : ARGL.length = m at *
      have Hm := Lib.hid hm
      clear hm
      go_loopg [6, 8, 9] m (fun gk sv kv s9 wr => ∃ (k : Nat) (sb : Bool) (mn mx : Int), kv = .int .i64 k ∧ sv = .bool sb ∧ gk = m - k ∧ k ≤ m ∧ Hid (Ext w wr) ∧ Hid (wr.heap[w.heap.size]? = some (.cells #[.int .i64 0, .slice none 0 0, .int .i64 0, .int .i64 0] 24)) ∧ Hid (wr.heap[C + 1]? = some (.cells #[.int .i64 kind, .slice (some ⟨C, 0, none⟩) K K, .int .i64 mn, .int .i64 mx] 24)) ∧ Hid (wr.heap[C]? = some (.cells ca2 3)) ∧
        Hid (sb = !(AL ++ ARGL.take k).isEmpty ∧ mn = minL (AL ++ ARGL.take k) ∧ mx = maxL (AL ++ ARGL.take k)))
      case atStart => exact ⟨0, sb, mn, mx, rfl, rfl, rfl, Nat.zero_le _, HE8.out, HR8.out, HP8.out, HC8.out, by rw [List.take_zero, List.append_nil]; exact HMM.out⟩
      case round =>
        obtain ⟨k, sb3, mn3, mx3, rfl, rfl, rfl, hk, HE9, HR9, HP9, HC9, HM9⟩ := hrel
        clear HE8 HR8 HP8 HC8 HMM HE HRB HPB HCA Hca
        obtain ⟨c1, _⟩ := HC0.out _ HE9.out
        by_cases hkm : k < m
        · have hkx : k < ARGL.length := by rw [Hm.out]; exact hkm
          have tt : decide ((k : Int) < (m : Int)) = true := by simp; omega
          have tn : decide (k < m) = true := by simp; omega
          obtain ⟨ag, ao, ac', hav, hac, _, haj⟩ := SlR.pos (HNA.out.kept HE9.out (fun _ _ h => h)) (by rw [Hm.out]; omega)
          rw [Hm.out] at hav
          injection hav with e1 e2 e3
          subst e1; subst e3
          have a0 := haj k (by rw [Hm.out]; omega)
          rw [nums_get _ _ hkx] at a0
          have HSN : Hid (AL ++ ARGL.take (k + 1) = (AL ++ ARGL.take k) ++ [ARGL.getD k 0]) := by
            show _ = _
            rw [List.take_succ_eq_append_getElem hkx, List.append_assoc]; simp [hkx]
          generalize ARGL.getD k 0 = X at *
          clear haj hac e2 hkx
          have s1 : (0 : Int) ≤ (i : Int) := by omega
          have s2 : (0 : Int) ≤ (k : Int) := by omega
          have p0 := cellRow HP9.out 0 _ rfl
          have p1 := cellRow HP9.out 1 _ rfl
          have p2 := cellRow HP9.out 2 _ rfl
          have p3 := cellRow HP9.out 3 _ rfl
          have q0 := frozenRow HP9.out 0
          have q1 := frozenRow HP9.out 1
          have q2 := frozenRow HP9.out 2
          have q3 := frozenRow HP9.out 3
          cases sb3
          · have hnil := isE_false HM9.out.1.symm
            rw [hnil] at HSN
            have HFS : Hid (true = !(AL ++ ARGL.take (k + 1)).isEmpty ∧ X = minL (AL ++ ARGL.take (k + 1)) ∧ X = maxL (AL ++ ARGL.take (k + 1))) := by
              show _ ∧ _
              rw [HSN.out]; exact ⟨rfl, rfl, rfl⟩
            clear hnil HSN
            have mm1 : min X X = X := by omega
            have mm2 : max X X = X := by omega
            have mm3 : X ≤ X := Int.le_refl _
            have mm4 : ¬ X < X := by omega
            go_wp2_with (with_reducible (refine stop_at (o := ⟨some 61, _, _, _, _, _⟩) ?_))
            refine Stop.go ?_
            refine wpList_run rfl (v := .int .i64 X) (w' := (wr.setCell ⟨C + 1, 2, none⟩ (.int .i64 X)).setCell ⟨C + 1, 3, none⟩ (.int .i64 X)) ?_ ?_
            · go_simp
            go_wp2_with (with_reducible (refine stop_at (o := ⟨some 65, _, _, _, _, _⟩) ?_))
            refine Stop.go ?_
            refine wpList_run rfl (v := .int .i64 X) (w' := (wr.setCell ⟨C + 1, 2, none⟩ (.int .i64 X)).setCell ⟨C + 1, 3, none⟩ (.int .i64 X)) ?_ ?_
            · go_simp
            go_wp2_with fail
            go_roundg (m - (k + 1))
            case measure => omega
            case rel => exact ⟨k + 1, true, X, X, by go_num, rfl, rfl, by omega, (((HE9.out.setNew (Nat.le_of_lt (Nat.lt_succ_of_lt Hw3.out)) _).setNew (Nat.le_of_lt (Nat.lt_succ_of_lt Hw3.out)) _).setNew (Nat.le_of_lt (Nat.lt_succ_of_lt Hw3.out)) _).setNew (Nat.le_of_lt (Nat.lt_succ_of_lt Hw3.out)) _, heap_set2 (heap_set2 (heap_set2 (heap_set2 HR9.out (by have := Hw3.out; omega)) (by have := Hw3.out; omega)) (by have := Hw3.out; omega)) (by have := Hw3.out; omega), setBlock (setBlock (setBlock (setBlock HP9.out 2 _) 3 _) 2 _) 3 _, heap_set2 (heap_set2 (heap_set2 (heap_set2 HC9.out (by omega)) (by omega)) (by omega)) (by omega), HFS.out⟩
          · have hnn := isE_true HM9.out.1.symm
            have HFS : Hid (true = !(AL ++ ARGL.take (k + 1)).isEmpty ∧ min mn3 X = minL (AL ++ ARGL.take (k + 1)) ∧ max mx3 X = maxL (AL ++ ARGL.take (k + 1))) := by
              show _ ∧ _
              rw [HSN.out, minL_snoc _ _ hnn, maxL_snoc _ _ hnn, ← HM9.out.2.1, ← HM9.out.2.2]
              refine ⟨by cases (AL ++ ARGL.take k) <;> simp, rfl, rfl⟩
            clear hnn HSN
            generalize hMN : min mn3 X = MN at *
            generalize hMX : max mx3 X = MX at *
            have HMN := Lib.hid hMN
            have HMX := Lib.hid hMX
            clear hMN hMX
            go_wp2_with (with_reducible (refine stop_at (o := ⟨some 61, _, _, _, _, _⟩) ?_))
            refine Stop.go ?_
            refine wpList_run rfl (v := .int .i64 MN) (w' := wr) ?_ ?_
            · rw [← HMN.out]
              by_cases hm : mn3 ≤ X
              · have hmm : min mn3 X = mn3 := by omega
                rw [hmm]
                have hm2 : ¬ X < mn3 := by omega
                go_simp
              · have hmm : min mn3 X = X := by omega
                rw [hmm]
                have hm3 : ¬ mn3 < X := by omega
                have hm2 : X < mn3 := by omega
                go_simp
            go_wp2_with (with_reducible (refine stop_at (o := ⟨some 65, _, _, _, _, _⟩) ?_))
            refine Stop.go ?_
            refine wpList_run rfl (v := .int .i64 MX) (w' := wr) ?_ ?_
            · rw [← HMX.out]
              by_cases hm : mx3 < X
              · have hmm : max mx3 X = X := by omega
                rw [hmm]
                have hm3 : ¬ X < mx3 := by omega
                have hm2 : mx3 ≤ X := by omega
                go_simp
              · have hmm : max mx3 X = mx3 := by omega
                rw [hmm]
                have hm3 : ¬ mx3 < X := by omega
                have hm2 : X ≤ mx3 := by omega
                go_simp
            go_wp2_with fail
            go_roundg (m - (k + 1))
            case measure => omega
            case rel => exact ⟨k + 1, true, MN, MX, by go_num, rfl, rfl, by omega, (HE9.out.setNew (Nat.le_of_lt (Nat.lt_succ_of_lt Hw3.out)) _).setNew (Nat.le_of_lt (Nat.lt_succ_of_lt Hw3.out)) _, heap_set2 (heap_set2 HR9.out (by have := Hw3.out; omega)) (by have := Hw3.out; omega), setBlock (setBlock HP9.out 2 _) 3 _, heap_set2 (heap_set2 HC9.out (by omega)) (by omega), HFS.out⟩
        · obtain rfl : k = m := by omega
          have tt : decide ((k : Int) < (k : Int)) = false := by simp
          have tn : decide (k < k) = false := by simp
          have htk : ARGL.take k = ARGL := List.take_of_length_le (by rw [Hm.out]; exact Nat.le_refl _)
          rw [htk] at HM9
          have s1 : (0 : Int) ≤ (i : Int) := by omega
          go_wp2_with fail
          go_roundg (n - (i + 1))
          case measure => omega
          case rel => exact ⟨i + 1, ca2, sb3, mn3, mx3, by go_num, rfl, rfl, by omega, HE9.out, HR9.out, HP9.out, HC9.out, HCS.out, by rw [HA2.out, HAA.out]; exact HM9.out⟩
    · obtain rfl : i = n := by omega
      have htk : l.take i = l := List.take_of_length_le (by rw [Hn.out]; exact Nat.le_refl _)
      have htk2 : (csL l).take i = csL l := List.take_of_length_le (by rw [csL_length, Hn.out]; exact Nat.le_refl _)
      rw [htk] at HMM
      rw [htk2] at Hca
      have HNN : Hid (∀ W, W.heap[C]? = some (.cells ca 3) → NumR (fun k => k < W.heap.size) W (.slice (some ⟨C, 0, none⟩) K K) (mWs kind (opsL l))) := fun W hW => by
        have hlt := (Array.getElem?_eq_some_iff.1 hW).1
        rw [HWS.out]
        unfold NumR
        rw [List.length_map, List.length_range]
        refine SlR.mk' (g := C) (off := 0) (by simp [nums]) rfl (Nat.le_refl _) (fun _ => hlt) (fun j hj => ?_)
        rw [Nat.zero_add, cellRow hW j _ (Hca.out.2 j (by omega)), nums_get _ _ (by simp; omega)]
        simp [show j < K by omega]
      have p0 := cellRow HPB.out 0 _ rfl
      have p1 := cellRow HPB.out 1 _ rfl
      have p2 := cellRow HPB.out 2 _ rfl
      have p3 := cellRow HPB.out 3 _ rfl
      have q0 := frozenRow HPB.out 0
      have q1 := frozenRow HPB.out 1
      have q2 := frozenRow HPB.out 2
      have q3 := frozenRow HPB.out 3
      have r0 := cellRow HRB.out 0 _ rfl
      have r1 := cellRow HRB.out 1 _ rfl
      have r2 := cellRow HRB.out 2 _ rfl
      have r3 := cellRow HRB.out 3 _ rfl
      have u0 := frozenRow HRB.out 0
      have u1 := frozenRow HRB.out 1
      have u2 := frozenRow HRB.out 2
      have u3 := frozenRow HRB.out 3
      have hCR : C ≠ w.heap.size := Nat.ne_of_gt Hw3.out
      have HCR := Lib.hid hCR
      clear hCR
      obtain ⟨_, m1, m2⟩ := HMM.out
      have e1 : MNV = mn := by rw [HMNV.out, m1]
      have e2 : MXV = mx := by rw [HMXV.out, m2]
      subst e1; subst e2
      clear m1 m2 HMNV HMXV HMM HCD HWS Hn HMK HWD Hca htk htk2
      go_wp2_with fail
      refine bodyPost_ret (v := .agg #[.int .i64 kind, .slice (some ⟨C, 0, none⟩) K K, .int .i64 MNV, .int .i64 MXV]) (by simp [results, Try.results25, go_sem, r0, r1, r2, r3]) rfl ⟨_, rfl, ?_, ?_⟩
      · exact HNN.out _ (heap_set2 (heap_set2 (heap_set2 (heap_set2 HCA.out HCR.out) HCR.out) HCR.out) HCR.out)
      · exact (((HE.out.setNew (Nat.le_refl _) _).setNew (Nat.le_refl _) _).setNew (Nat.le_refl _) _).setNew (Nat.le_refl _) _

end Go.Proofs.Ythpekfpeoglbgaa
