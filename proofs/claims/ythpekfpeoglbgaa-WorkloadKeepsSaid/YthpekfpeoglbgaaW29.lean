/- workload.Measure. -/
import Derived.Test.YthpekfpeoglbgaaW10
import Derived.Test.YthpekfpeoglbgaaW21
namespace Go.Proofs.Ythpekfpeoglbgaa
open Go.RowKit Go.Hw
set_option linter.unusedVariables false
set_option linter.unusedSimpArgs false

set_option maxRecDepth 100000 in
set_option maxHeartbeats 1000000 in
theorem meas_bad1 (S : Nat → Prop) (kind : Int) (v : Value) (l : List OpV) (w : World) (h : OpsR S w v l) (hl : l.length ≤ 100000000) (ha : ∀ o ∈ l, o.op.args.length ≤ 100000000) (hval : validL kind (opsL l) = false) : Calls Try.prog 24 #[.int .i64 kind, v] w fun e w' => e = .returned (.tuple #[.agg #[.int .i64 0, .slice none 0 0, .int .i64 0, .int .i64 0], .int .i64 1]) ∧ Ext w w' := by
  obtain ⟨a, cap, hv⟩ := h.shape
  subst hv
  have HN := Lib.hid h
  have HV : Hid (∀ W, Ext w W → Calls Try.prog 26 #[.int .i64 kind, .slice a l.length cap] W fun e w' => e = .returned (.bool (validL kind (opsL l))) ∧ Ext W w') := fun W hW => valid_any kind _ l W S (HN.out.kept hW (fun _ _ h => h)) hl ha
  rw [hval] at HV
  have HZ : Hid (Ext w (w.alloc (.cells #[.int .i64 0, .slice none 0 0, .int .i64 0, .int .i64 0] 24))) := (Upd.refl _ w).alloc _
  have HB0 : Hid ((w.alloc (.cells #[.int .i64 0, .slice none 0 0, .int .i64 0, .int .i64 0] 24)).heap[w.heap.size]? = some (.cells #[.int .i64 0, .slice none 0 0, .int .i64 0, .int .i64 0] 24)) := alloc0 _ _
  clear h ha
  clear hval
  generalize l.length = n at *
  go_enter Try.func24, Try.ntmps24
  go_wp2_with fail
  refine (HV.out _ HZ.out).mono ?_
  rintro e w2 ⟨rfl, h2⟩
  have HE2 := Lib.hid (HZ.out.ext h2)
  have hb := h2.heap HB0.out (fun h => h)
  have c0 := cellRow hb 0 _ rfl
  have c1 := cellRow hb 1 _ rfl
  have c2 := cellRow hb 2 _ rfl
  have c3 := cellRow hb 3 _ rfl
  have f0 := frozenRow hb 0
  have f1 := frozenRow hb 1
  have f2 := frozenRow hb 2
  have f3 := frozenRow hb 3
  have HB2 := Lib.hid hb
  clear h2 hb
  go_wp2_with fail
  exact bodyPost_ret (v := .tuple #[.agg #[.int .i64 0, .slice none 0 0, .int .i64 0, .int .i64 0], .int .i64 1]) (by simp [results, Try.results24, go_sem, c0, c1, c2, c3]) rfl ⟨rfl, (((HE2.out.setNew (Nat.le_refl _) _).setNew (Nat.le_refl _) _).setNew (Nat.le_refl _) _).setNew (Nat.le_refl _) _⟩

set_option maxRecDepth 100000 in
set_option maxHeartbeats 1000000 in
theorem meas_bad2 (S : Nat → Prop) (kind : Int) (v : Value) (l : List OpV) (w : World) (h : OpsR S w v l) (hl : l.length ≤ 100000000) (ha : ∀ o ∈ l, o.op.args.length ≤ 100000000) (hval : validL kind (opsL l) = true) (h0 : l.length = 0) : Calls Try.prog 24 #[.int .i64 kind, v] w fun e w' => e = .returned (.tuple #[.agg #[.int .i64 0, .slice none 0 0, .int .i64 0, .int .i64 0], .int .i64 12]) ∧ Ext w w' := by
  obtain ⟨a, cap, hv⟩ := h.shape
  subst hv
  have HN := Lib.hid h
  have HV : Hid (∀ W, Ext w W → Calls Try.prog 26 #[.int .i64 kind, .slice a l.length cap] W fun e w' => e = .returned (.bool (validL kind (opsL l))) ∧ Ext W w') := fun W hW => valid_any kind _ l W S (HN.out.kept hW (fun _ _ h => h)) hl ha
  rw [hval] at HV
  have HZ : Hid (Ext w (w.alloc (.cells #[.int .i64 0, .slice none 0 0, .int .i64 0, .int .i64 0] 24))) := (Upd.refl _ w).alloc _
  have HB0 : Hid ((w.alloc (.cells #[.int .i64 0, .slice none 0 0, .int .i64 0, .int .i64 0] 24)).heap[w.heap.size]? = some (.cells #[.int .i64 0, .slice none 0 0, .int .i64 0, .int .i64 0] 24)) := alloc0 _ _
  clear h ha
  clear hval
  have t0 : ((l.length : Int) == 0) = true := by simp [h0]
  clear h0
  generalize l.length = n at *
  go_enter Try.func24, Try.ntmps24
  go_wp2_with fail
  refine (HV.out _ HZ.out).mono ?_
  rintro e w2 ⟨rfl, h2⟩
  have HE2 := Lib.hid (HZ.out.ext h2)
  have hb := h2.heap HB0.out (fun h => h)
  have c0 := cellRow hb 0 _ rfl
  have c1 := cellRow hb 1 _ rfl
  have c2 := cellRow hb 2 _ rfl
  have c3 := cellRow hb 3 _ rfl
  have f0 := frozenRow hb 0
  have f1 := frozenRow hb 1
  have f2 := frozenRow hb 2
  have f3 := frozenRow hb 3
  have HB2 := Lib.hid hb
  clear h2 hb
  go_wp2_with fail
  exact bodyPost_ret (v := .tuple #[.agg #[.int .i64 0, .slice none 0 0, .int .i64 0, .int .i64 0], .int .i64 12]) (by simp [results, Try.results24, go_sem, c0, c1, c2, c3]) rfl ⟨rfl, (((HE2.out.setNew (Nat.le_refl _) _).setNew (Nat.le_refl _) _).setNew (Nat.le_refl _) _).setNew (Nat.le_refl _) _⟩


theorem heap_set {w : World} {b k j : Nat} {o : Obj} {u : Value} (h : w.heap[b]? = some o) (hne : b ≠ k) : (w.setCell ⟨k, j, none⟩ u).heap[b]? = some o :=
  (Upd.at_ (w := w) (g := k) (j := j) u).heap h hne

theorem argsL_len64 : ∀ (L : List OpM), (∀ o ∈ L, o.args.length ≤ 64) → (argsL L).length ≤ 64 * L.length
  | [], _ => by simp [argsL]
  | o :: L, h => by
    have h1 := argsL_len64 L (fun o ho => h o (List.mem_cons_of_mem _ ho))
    have h2 := h o List.mem_cons_self
    simp only [argsL, List.map_cons, List.flatten_cons, List.length_append, List.length_cons] at h1 ⊢
    omega
set_option maxRecDepth 100000 in
set_option maxHeartbeats 4000000 in
theorem meas_ok (S : Nat → Prop) (kind : Int) (v : Value) (l : List OpV) (w : World) (h : OpsR S w v l) (hl : l.length ≤ 100000000) (ha : ∀ o ∈ l, o.op.args.length ≤ 100000000) (hval : validL kind (opsL l) = true) (h0 : 0 < l.length) : Calls Try.prog 24 #[.int .i64 kind, v] w fun e w' => ∃ wv, e = .returned (.tuple #[.agg #[.int .i64 kind, wv, .int .i64 (minL (argsL (opsL l))), .int .i64 (maxL (argsL (opsL l)))], .int .i64 0]) ∧ NumR (fun k => k < w'.heap.size) w' wv (mWs kind (opsL l)) ∧ Ext w w' := by
  have vl := (validL_iff kind (opsL l)).1 hval
  obtain ⟨a, cap, hv⟩ := h.shape
  subst hv
  have HN := Lib.hid h
  have HV : Hid (∀ W, Ext w W → Calls Try.prog 26 #[.int .i64 kind, .slice a l.length cap] W fun e w' => e = .returned (.bool (validL kind (opsL l))) ∧ Ext W w') := fun W hW => valid_any kind _ l W S (HN.out.kept hW (fun _ _ h => h)) hl ha
  rw [hval] at HV
  have HZ : Hid (Ext w (w.alloc (.cells #[.int .i64 0, .slice none 0 0, .int .i64 0, .int .i64 0] 24))) := (Upd.refl _ w).alloc _
  have HB0 : Hid ((w.alloc (.cells #[.int .i64 0, .slice none 0 0, .int .i64 0, .int .i64 0] 24)).heap[w.heap.size]? = some (.cells #[.int .i64 0, .slice none 0 0, .int .i64 0, .int .i64 0] 24)) := alloc0 _ _
  clear h ha
  have HCO : Hid (∀ W, Calls Try.prog 30 #[.int .i64 kind] W fun e w' => e = .returned (.int .i64 (nW kind)) ∧ Ext W w') := fun W => codes_any kind W
  obtain ⟨i0, hi0, hz0, hz1, hz2⟩ := info_parts info3
  have hK8 := nW_le kind
  obtain ⟨K, hK⟩ : ∃ K, K = nW kind := ⟨_, rfl⟩
  rw [← hK] at HCO hK8
  have HMK : Hid (∀ (n : Nat), n ≤ 100000 → ∀ W : World, (Instr.makeSlice 22 (.int .i64 (n : Int)) (.int .i64 (n : Int))).run Try.prog W = .ok (.slice (some ⟨W.heap.size, 0, none⟩) n n) (W.alloc (.cells (madeCells #[.int .i64 0] n) 3))) :=
    fun n hn W => made_one Try.prog 22 3 i0 (.int .i64 0) Try.underlying22 hi0 hz0 hz1 rfl (by rw [hz2]; omega) n (by omega) W
  have hmk := HMK.out K (by omega)
  have HCD : Hid (∀ i, i < l.length → 1 ≤ (csL l).getD i 0 ∧ (csL l).getD i 0 ≤ (K : Int) ∧ (l.getD i .zero).op.args.length ≤ 64) := fun i hi => by
    have hm : (l.getD i .zero).op ∈ opsL l := List.mem_map_of_mem (getD_mem hi)
    have := vl.2.2 _ hm
    have h1 := validOp_code this
    rw [csL_get l i hi]
    exact ⟨h1.1, by rw [hK]; exact h1.2, validOp_len this⟩
  have HAL : Hid (∀ i, (argsL (opsL (l.take i))).length ≤ 128000) := fun i => by
    have h1 := argsL_len64 (opsL (l.take i)) (fun o ho => by
      obtain ⟨x, hx, rfl⟩ := List.mem_map.1 ho
      exact validOp_len (vl.2.2 _ (List.mem_map_of_mem (List.mem_of_mem_take hx))))
    have h2 := vl.2.1
    rw [opsL_length] at h1 h2
    rw [List.length_take] at h1
    omega
  have HWS : Hid (mWs kind (opsL l) = (List.range K).map fun i : Nat => cnt ((i : Int) + 1) (csL l)) := by rw [hK]; exact rfl
  obtain ⟨MNV, hMNV⟩ : ∃ x, x = minL (argsL (opsL l)) := ⟨_, rfl⟩
  obtain ⟨MXV, hMXV⟩ : ∃ x, x = maxL (argsL (opsL l)) := ⟨_, rfl⟩
  rw [← hMNV, ← hMXV]
  have HMNV := Lib.hid hMNV
  have HMXV := Lib.hid hMXV
  clear hMNV hMXV
  have t0 : ((l.length : Int) == 0) = false := beq_eq_false_iff_ne.2 (by omega)
  have hl2 : l.length ≤ 2000 := by have := vl.2.1; rw [opsL_length] at this; exact this
  clear hval vl hK hl
  generalize hn : l.length = n at *
  have Hn := Lib.hid hn
  clear hn
  go_enter Try.func24, Try.ntmps24
  go_wp2_with fail
  refine (HV.out _ HZ.out).mono ?_
  rintro e w2 ⟨rfl, h2⟩
  have HE2 := Lib.hid (HZ.out.ext h2)
  have hb := h2.heap HB0.out (fun h => h)
  have c0 := cellRow hb 0 _ rfl
  have c1 := cellRow hb 1 _ rfl
  have c2 := cellRow hb 2 _ rfl
  have c3 := cellRow hb 3 _ rfl
  have f0 := frozenRow hb 0
  have f1 := frozenRow hb 1
  have f2 := frozenRow hb 2
  have f3 := frozenRow hb 3
  have HB2 := Lib.hid hb
  clear h2 hb
  go_wp2_with fail
  refine (HCO.out _).mono ?_
  rintro e w3 ⟨rfl, h3⟩
  have HE3 := Lib.hid (HE2.out.ext h3)
  have HB3 := Lib.hid (h3.heap HB2.out (fun h => h))
  clear h3 c0 c1 c2 c3 f0 f1 f2 f3
  have hP0 : ((w3.alloc (.cells (madeCells #[.int .i64 0] K) 3)).alloc (.cells #[.int .i64 0, .slice none 0 0, .int .i64 0, .int .i64 0] 24)).heap[w3.heap.size + 1]? = some (.cells #[.int .i64 0, .slice none 0 0, .int .i64 0, .int .i64 0] 24) := alloc_at _ _ (by simp)
  have p0 := cellRow hP0 0 _ rfl
  have p1 := cellRow hP0 1 _ rfl
  have p2 := cellRow hP0 2 _ rfl
  have p3 := cellRow hP0 3 _ rfl
  have q0 := frozenRow hP0 0
  have q1 := frozenRow hP0 1
  have q2 := frozenRow hP0 2
  have q3 := frozenRow hP0 3
  clear hP0
  go_wp2_with fail
  have hC0 : ((w3.alloc (.cells (madeCells #[.int .i64 0] K) 3)).alloc (.cells #[.int .i64 kind, .slice (some ⟨w3.heap.size, 0, none⟩) K K, .int .i64 0, .int .i64 0] 24)).heap[w3.heap.size]? = some (.cells (madeCells #[.int .i64 0] K) 3) := allocOld (alloc0 _ _) _
  have hP0 : ((w3.alloc (.cells (madeCells #[.int .i64 0] K) 3)).alloc (.cells #[.int .i64 kind, .slice (some ⟨w3.heap.size, 0, none⟩) K K, .int .i64 0, .int .i64 0] 24)).heap[w3.heap.size + 1]? = some (.cells #[.int .i64 kind, .slice (some ⟨w3.heap.size, 0, none⟩) K K, .int .i64 0, .int .i64 0] 24) := alloc_at _ _ (by simp)
  have hE0 : Ext w3 ((w3.alloc (.cells (madeCells #[.int .i64 0] K) 3)).alloc (.cells #[.int .i64 kind, .slice (some ⟨w3.heap.size, 0, none⟩) K K, .int .i64 0, .int .i64 0] 24)) := ((Upd.refl _ w3).alloc _).alloc _
  have HB4 := Lib.hid (hE0.heap HB3.out (fun h => h))
  have HC4 := Lib.hid hC0
  have HP4 := Lib.hid hP0
  have HE4 := Lib.hid (HE3.out.ext hE0)
  have HS4 : Hid (((w3.alloc (.cells (madeCells #[.int .i64 0] K) 3)).alloc (.cells #[.int .i64 kind, .slice (some ⟨w3.heap.size, 0, none⟩) K K, .int .i64 0, .int .i64 0] 24)).heap.size = w3.heap.size + 2) := by show _ = _; simp
  have Hs1 : Hid ((madeCells #[Value.int .i64 0] K).size = K) := by show _ = _; rw [size_madeCells]
  have Hw3 : Hid (w.heap.size < w3.heap.size) := (Array.getElem?_eq_some_iff.1 HB3.out).1
  clear hC0 hP0 hE0 HB3 HE3 HB2 HE2 p0 p1 p2 p3 q0 q1 q2 q3 hmk
  generalize ((w3.alloc (.cells (madeCells #[.int .i64 0] K) 3)).alloc (.cells #[.int .i64 kind, .slice (some ⟨w3.heap.size, 0, none⟩) K K, .int .i64 0, .int .i64 0] 24)) = w4 at *
  generalize w3.heap.size = C at *
  go_loopg [7, 9, 26] n (fun gk av s9 iv wr => ∃ (i : Nat) (ca : Array Value), iv = .int .i64 i ∧ gk = n - i ∧ i ≤ n ∧ Hid (Ext w wr) ∧ Hid (wr.heap[w.heap.size]? = some (.cells #[.int .i64 0, .slice none 0 0, .int .i64 0, .int .i64 0] 24)) ∧ Hid (wr.heap[C + 1]? = some (.cells #[.int .i64 kind, .slice (some ⟨C, 0, none⟩) K K, .int .i64 0, .int .i64 0] 24)) ∧ Hid (wr.heap[C]? = some (.cells ca 3)) ∧
    Hid (ca.size = K ∧ ∀ c, c < K → ca[c]? = some (.int .i64 (cnt ((c : Int) + 1) ((csL l).take i)))) ∧ Hid (wr.ownsRow (C + 2) 3 1 av (argsL (opsL (l.take i))).length (nums (argsL (opsL (l.take i))))) ∧ Hid (C + 2 ≤ wr.heap.size))
  case atStart => exact ⟨0, _, rfl, rfl, Nat.zero_le _, HE4.out, HB4.out, HP4.out, HC4.out, ⟨Hs1.out, fun c hc => made_get _ _ _ hc⟩, World.ownsRow_nil _ _ _ _, by have := HS4.out; exact Nat.le_of_eq this.symm⟩
  case round =>
    obtain ⟨i, ca, rfl, rfl, hi, HE, HRB, HPB, HCA, Hca, HOW, HSZ⟩ := hrel
    clear HB4 HC4 HP4 HE4 HS4 Hs1
    obtain ⟨va, vc, hav⟩ := own_shape HOW.out
    subst hav
    by_cases hlt : i < n
    · have hlx : i < l.length := by rw [Hn.out]; exact hlt
      obtain ⟨g, off, cap', hv, hcc, hg, c0, c1, _⟩ := (HN.out.kept HE.out (fun _ _ h => h)).at hlx
      rw [Hn.out] at hv
      injection hv with e1 e2 e3
      subst e1; subst e3
      obtain ⟨hb1, hb2, hb3⟩ := HCD.out i hlt
      rw [← csL_get l i hlx] at c0
      obtain ⟨cv, hcv⟩ := Int.eq_ofNat_of_zero_le (show 0 ≤ (csL l).getD i 0 - 1 by omega)
      have hcv1 : (csL l).getD i 0 = (cv : Int) + 1 := by omega
      have HCV := Lib.hid hcv1
      rw [hcv1] at c0
      have hcK : cv < K := by omega
      have hna := HN.out.arg _ (getD_mem hlx)
      obtain ⟨aa, ac, hoa⟩ := hna.shape
      rw [hoa] at c1 hna
      have hal := HAL.out i
      have hal2 := HAL.out (i + 1)
      have HAA : Hid (argsL (opsL (l.take (i + 1))) = argsL (opsL (l.take i)) ++ (l.getD i .zero).op.args) := by
        have e : l.take (i + 1) = l.take i ++ [l.getD i .zero] := by rw [List.take_succ_eq_append_getElem hlx]; simp [hlx]
        show _ = _
        rw [e]
        simp [opsL, argsL]
      have HCN : Hid (∀ c : Int, cnt c ((csL l).take (i + 1)) = cnt c ((csL l).take i) + if (cv : Int) + 1 = c then 1 else 0) := fun c => by
        have hic : i < (csL l).length := by rw [csL_length]; exact hlx
        have hcv2 : (csL l)[i] = (cv : Int) + 1 := by rw [← HCV.out]; simp [hic]
        rw [List.take_succ_eq_append_getElem hic, cnt_snoc, hcv2]
      have hcnb := cnt_bd ((cv : Int) + 1) ((csL l).take i)
      have hcnl : ((csL l).take i).length ≤ n := by rw [List.length_take]; omega
      have HNA := Lib.hid hna
      generalize (l.getD i .zero).op.args = ARGL at *
      generalize hA2 : argsL (opsL (l.take (i + 1))) = AL2 at *
      have HA2 := Lib.hid hA2
      clear hA2
      generalize argsL (opsL (l.take i)) = AL at *
      have hcell := Hca.out.2 cv hcK
      generalize hCN : cnt ((cv : Int) + 1) ((csL l).take i) = CN at *
      have HCNe := Lib.hid hCN
      have hE6 : Ext wr (wr.alloc (.cells #[.int .i64 ((cv : Int) + 1), .slice aa ARGL.length ac] 50)) := (Upd.refl _ wr).alloc _
      have hO0 := alloc0 wr (.cells #[.int .i64 0, .slice none 0 0] 50)
      have o0 := cellRow hO0 0 _ rfl
      have o1 := cellRow hO0 1 _ rfl
      have u0 := frozenRow hO0 0
      have u1 := frozenRow hO0 1
      have hO6 := alloc0 wr (.cells #[.int .i64 ((cv : Int) + 1), .slice aa ARGL.length ac] 50)
      have x0 := cellRow hO6 0 _ rfl
      have x1 := cellRow hO6 1 _ rfl
      have y0 := cellRow (hE6.heap HPB.out (fun h => h)) 1 _ rfl
      have y1 := cellRow (hE6.heap HCA.out (fun h => h)) cv _ hcell
      have y2 := frozenRow (hE6.heap HCA.out (fun h => h)) cv
      have s3 : (cv : Int) < (K : Int) := by omega
      have s1 : (0 : Int) ≤ (i : Int) := by omega
      clear hg hcc e2 hcv hcv1 hna hoa hcell hCN hO0 hlx hb1 hb2
      have hw7 : Upd (fun k => k = C) (wr.alloc (.cells #[.int .i64 ((cv : Int) + 1), .slice aa ARGL.length ac] 50)) ((wr.alloc (.cells #[.int .i64 ((cv : Int) + 1), .slice aa ARGL.length ac] 50)).setCell ⟨C, cv, none⟩ (.int .i64 (CN + 1))) := Upd.at_ _
      have z1 := hw7.cell x1 (by have := HSZ.out; show ¬ wr.heap.size = C; omega)
      have HC7 := Lib.hid (setBlock (hE6.heap HCA.out (fun h => h)) cv (.int .i64 (CN + 1)))
      have HP7 := Lib.hid (hw7.heap (hE6.heap HPB.out (fun h => h)) (by omega))
      have HR7 := Lib.hid (hw7.heap (hE6.heap HRB.out (fun h => h)) (by have := Hw3.out; omega))
      have HE7 : Hid (Ext w ((wr.alloc (.cells #[.int .i64 ((cv : Int) + 1), .slice aa ARGL.length ac] 50)).setCell ⟨C, cv, none⟩ (.int .i64 (CN + 1)))) := (HE.out.ext hE6).setNew (Nat.le_of_lt Hw3.out) _
      have HO7 : Hid (((wr.alloc (.cells #[.int .i64 ((cv : Int) + 1), .slice aa ARGL.length ac] 50)).setCell ⟨C, cv, none⟩ (.int .i64 (CN + 1))).ownsRow (C + 2) 3 1 (.slice va AL.length vc) AL.length (nums AL)) := own_kept (own_kept HOW.out hE6 (fun _ _ h => h)) hw7 (fun k hk e => by have := (HOW.out.lt k hk).1; omega)
      have HZ7 : Hid (C + 2 ≤ ((wr.alloc (.cells #[.int .i64 ((cv : Int) + 1), .slice aa ARGL.length ac] 50)).setCell ⟨C, cv, none⟩ (.int .i64 (CN + 1))).heap.size) := Nat.le_trans HSZ.out (Nat.le_trans hE6.size hw7.size)
      have HN7 : Hid (NumR S ((wr.alloc (.cells #[.int .i64 ((cv : Int) + 1), .slice aa ARGL.length ac] 50)).setCell ⟨C, cv, none⟩ (.int .i64 (CN + 1))) (.slice aa ARGL.length ac) ARGL) := HNA.out.kept HE7.out (fun _ _ h => h)
      clear hE6 hw7
      go_wp2_with (at_builtin; refine wpList_append_sl _ rfl (.tmp 39) (.tmp 41) 22 rfl (C + 2) 3 i0 (.int .i64 0) 1 8 Try.underlying22 hi0 hz0 hz1 hz2 rfl (Nat.lt_succ_self 0) (.slice va AL.length vc) AL.length _ rfl HO7.out S (.slice aa ARGL.length ac) ARGL.length _ rfl HN7.out (nums_one _) ?d3 ?d4 ?d5 ?_)
      case d3 => unfold maxLen; omega
      case d4 => omega
      case d5 => exact HZ7.out
      intro v8 w8 hG
      obtain ⟨a8, c8, hv8⟩ := own_shape hG.own
      subst hv8
      have hUg := hG.upd
      have hOB : ∀ k, (Value.slice va AL.length vc).ownBlock = some k → C + 2 ≤ k := fun k hk => (HO7.out.lt k hk).1
      have HE8 : Hid (Ext w w8) := HE7.out.trans' hUg (fun k hk e => by have := hOB k e; have := Hw3.out; omega)
      have HR8 := Lib.hid (hUg.heap HR7.out (fun e => by have := hOB _ e; have := Hw3.out; omega))
      have HP8 := Lib.hid (hUg.heap HP7.out (fun e => by have := hOB _ e; omega))
      have HC8 := Lib.hid (hUg.heap HC7.out (fun e => by have := hOB _ e; omega))
      have HO8 : Hid (w8.ownsRow (C + 2) 3 1 (.slice a8 (AL.length + ARGL.length) c8) AL2.length (nums AL2)) := by
        have := hG.own
        rw [HAA.out, List.length_append, nums_append]
        exact this
      have HZ8 : Hid (C + 2 ≤ w8.heap.size) := Nat.le_trans HZ7.out hUg.size
      have HCS : Hid ((ca.setIfInBounds cv (.int .i64 (CN + 1))).size = K ∧ ∀ c, c < K → (ca.setIfInBounds cv (.int .i64 (CN + 1)))[c]? = some (.int .i64 (cnt ((c : Int) + 1) ((csL l).take (i + 1))))) := by
        refine ⟨by rw [Array.size_setIfInBounds]; exact Hca.out.1, fun c hc => ?_⟩
        by_cases e : c = cv
        · subst e
          rw [Array.getElem?_setIfInBounds_self_of_lt (by rw [Hca.out.1]; exact hc), HCN.out, if_pos rfl, HCNe.out]
        · rw [Array.getElem?_setIfInBounds_ne (by omega), Hca.out.2 c hc, HCN.out, if_neg (by omega), Int.add_zero]
      clear hUg hOB hG x0 x1 y0 y1 y2 z1 o0 o1 u0 u1
      go_wp2_with fail
      go_roundg (n - (i + 1))
      case measure => omega
      case rel =>
        refine ⟨i + 1, _, by go_num, rfl, by omega, HE8.out, HR8.out, HP8.out, HC8.out, HCS.out, ?_, HZ8.out⟩
        rw [HA2.out]
        exact HO8.out
    · obtain rfl : i = n := by omega
      have htk : l.take i = l := List.take_of_length_le (by rw [Hn.out]; exact Nat.le_refl _)
      have htk2 : (csL l).take i = csL l := List.take_of_length_le (by rw [csL_length, Hn.out]; exact Nat.le_refl _)
      have hal := HAL.out i
      rw [htk] at HOW hal ⊢
      rw [htk2] at Hca
      have HNN : Hid (∀ W, W.heap[C]? = some (.cells ca 3) → NumR (fun k => k < W.heap.size) W (.slice (some ⟨C, 0, none⟩) K K) (mWs kind (opsL l))) := fun W hW => by
        have hlt := (Array.getElem?_eq_some_iff.1 hW).1
        rw [HWS.out]
        unfold NumR
        rw [List.length_map, List.length_range]
        refine SlR.mk' (g := C) (off := 0) (by simp [nums]) rfl (Nat.le_refl _) (fun _ => hlt) (fun j hj => ?_)
        rw [Nat.zero_add, cellRow hW j _ (Hca.out.2 j (by omega)), nums_get _ _ (by simp; omega)]
        simp [show j < K by omega]
      have p0 := cellRow HPB.out 0 _ rfl
      have p1 := cellRow HPB.out 1 _ rfl
      have p2 := cellRow HPB.out 2 _ rfl
      have p3 := cellRow HPB.out 3 _ rfl
      have q0 := frozenRow HPB.out 0
      have q1 := frozenRow HPB.out 1
      have q2 := frozenRow HPB.out 2
      have q3 := frozenRow HPB.out 3
      have r0 := cellRow HRB.out 0 _ rfl
      have r1 := cellRow HRB.out 1 _ rfl
      have r2 := cellRow HRB.out 2 _ rfl
      have r3 := cellRow HRB.out 3 _ rfl
      have u0 := frozenRow HRB.out 0
      have u1 := frozenRow HRB.out 1
      have u2 := frozenRow HRB.out 2
      have u3 := frozenRow HRB.out 3
      have hal0 : (nums (argsL (opsL l))).length = (argsL (opsL l)).length := nums_length _
      have hmin0 : (argsL (opsL l)).length = 0 → minL (argsL (opsL l)) = 0 ∧ maxL (argsL (opsL l)) = 0 := fun h => by
        rw [List.eq_nil_of_length_eq_zero h]; exact ⟨rfl, rfl⟩
      have HM0 := Lib.hid hmin0
      clear hmin0
      have hCR : C ≠ w.heap.size := Nat.ne_of_gt Hw3.out
      have hCP : C ≠ C + 1 := by omega
      have hRP : w.heap.size ≠ C + 1 := by have := Hw3.out; omega
      have HCR := Lib.hid hCR
      have HCP := Lib.hid hCP
      have HRP := Lib.hid hRP
      clear hCR hCP hRP
      generalize hAL : argsL (opsL l) = AL at *
      have HALe := Lib.hid hAL
      clear hAL hal0 HV HZ HB0 HCO HMK HCD HAL HWS Hn
      have HM12 : Hid (0 < AL.length → (Calls Try.prog 48 #[.slice va AL.length vc] wr fun e w' => e = .returned (.int .i64 (minL AL)) ∧ wr = w') ∧ (Calls Try.prog 32 #[.slice va AL.length vc] wr fun e w' => e = .returned (.int .i64 (maxL AL)) ∧ wr = w')) := fun hpos => ⟨smin_any _ _ AL wr (SlR.of_own HOW.out) (by omega) hpos, smax_any _ _ AL wr (SlR.of_own HOW.out) (by omega) hpos⟩
      clear HOW
      rw [← HMNV.out, ← HMXV.out] at HM12 HM0
      clear HMNV HMXV HALe
      generalize AL.length = ml at *
      by_cases hne : ml = 0
      · obtain ⟨e1, e2⟩ := HM0.out hne
        subst e1; subst e2; subst hne
        clear HM0 HM12
        go_wp2_with fail
        refine bodyPost_ret (v := .tuple #[.agg #[.int .i64 kind, .slice (some ⟨C, 0, none⟩) K K, .int .i64 0, .int .i64 0], .int .i64 0]) (by simp [results, Try.results24, go_sem, r0, r1, r2, r3]) rfl ⟨_, rfl, ?_, ?_⟩
        · exact HNN.out _ (heap_set (heap_set (heap_set (heap_set HCA.out HCR.out) HCR.out) HCR.out) HCR.out)
        · exact (((HE.out.setNew (Nat.le_refl _) _).setNew (Nat.le_refl _) _).setNew (Nat.le_refl _) _).setNew (Nat.le_refl _) _
      · have hpos : 0 < ml := by omega
        obtain ⟨hM1, hM2⟩ := HM12.out hpos
        have HM1 := Lib.hid hM1
        have HM2 := Lib.hid hM2
        have t1 : decide ((0 : Int) < (ml : Int)) = true := decide_eq_true (by omega)
        have t2 : (0 : Int) < (ml : Int) := by omega
        have t3 : decide (0 < ml) = true := decide_eq_true (by omega)
        clear HM0 HM12 hM1 hM2
        go_wp2_with fail
        refine HM1.out.mono ?_
        rintro e w5 ⟨rfl, rfl⟩
        go_wp2_with fail
        refine HM2.out.mono ?_
        rintro e w5 ⟨rfl, rfl⟩
        clear HM1 HM2
        go_wp2_with (with_reducible (refine stop_at (o := ⟨some 53, _, _, _, _, _⟩) ?_))
        refine Stop.go ?_
        have HP5 := Lib.hid (setBlock (setBlock HPB.out 2 (.int .i64 MNV)) 3 (.int .i64 MXV))
        have HR5 := Lib.hid (heap_set (j := 3) (u := .int .i64 MXV) (heap_set (j := 2) (u := .int .i64 MNV) HRB.out HRP.out) HRP.out)
        have HC5 := Lib.hid (heap_set (j := 3) (u := .int .i64 MXV) (heap_set (j := 2) (u := .int .i64 MNV) HCA.out HCP.out) HCP.out)
        have HE5 := Lib.hid ((HE.out.setNew (j := 2) (Nat.le_of_lt (Nat.lt_succ_of_lt Hw3.out)) (.int .i64 MNV)).setNew (j := 3) (Nat.le_of_lt (Nat.lt_succ_of_lt Hw3.out)) (.int .i64 MXV))
        clear p0 p1 p2 p3 q0 q1 q2 q3 r0 r1 r2 r3 u0 u1 u2 u3
        generalize (wr.setCell ⟨C + 1, 2, none⟩ (.int .i64 MNV)).setCell ⟨C + 1, 3, none⟩ (.int .i64 MXV) = wx at *
        have p0 := cellRow HP5.out 0 _ rfl
        have p1 := cellRow HP5.out 1 _ rfl
        have p2 := cellRow HP5.out 2 _ rfl
        have p3 := cellRow HP5.out 3 _ rfl
        have r0 := cellRow HR5.out 0 _ rfl
        have r1 := cellRow HR5.out 1 _ rfl
        have r2 := cellRow HR5.out 2 _ rfl
        have r3 := cellRow HR5.out 3 _ rfl
        have u0 := frozenRow HR5.out 0
        have u1 := frozenRow HR5.out 1
        have u2 := frozenRow HR5.out 2
        have u3 := frozenRow HR5.out 3
        go_wp2_with fail
        refine bodyPost_ret (v := .tuple #[.agg #[.int .i64 kind, .slice (some ⟨C, 0, none⟩) K K, .int .i64 MNV, .int .i64 MXV], .int .i64 0]) (by simp [results, Try.results24, go_sem, r0, r1, r2, r3]) rfl ⟨_, rfl, ?_, ?_⟩
        · exact HNN.out _ (heap_set (heap_set (heap_set (heap_set HC5.out HCR.out) HCR.out) HCR.out) HCR.out)
        · exact (((HE5.out.setNew (Nat.le_refl _) _).setNew (Nat.le_refl _) _).setNew (Nat.le_refl _) _).setNew (Nat.le_refl _) _

end Go.Proofs.Ythpekfpeoglbgaa
