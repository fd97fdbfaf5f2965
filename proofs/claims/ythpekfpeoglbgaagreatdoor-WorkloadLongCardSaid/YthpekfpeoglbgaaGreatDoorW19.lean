/- The unevenness of the parts. -/
import Derived.Test.YthpekfpeoglbgaaGreatDoorW10
import Derived.Test.YthpekfpeoglbgaaGreatDoorL3
namespace Go.Proofs.YthpekfpeoglbgaaGreatDoor
open Go.RowKit Go.Hw
set_option linter.unusedVariables false
set_option linter.unusedSimpArgs false

/-- the codes of a script -/
def csL (l : List OpV) : List Int := codesL (opsL l)
theorem csL_length (l : List OpV) : (csL l).length = l.length := by simp [csL, codesL, opsL]
theorem csL_get (l : List OpV) (j : Nat) (h : j < l.length) : (csL l).getD j 0 = (l.getD j .zero).op.code := by simp [csL, codesL, opsL, h]
theorem mxc_le_all (l : List Int) (K : Nat) : mxc l K ≤ l.length := (mxc_bd l K).2

set_option maxRecDepth 100000 in
set_option maxHeartbeats 4000000 in
/-- workload.uneven -/
theorem uneven_any (S : Nat → Prop) (v : Value) (l : List OpV) (w : World) (h : OpsR S w v l) (hl : l.length ≤ 2000) (i K : Nat) (hi : i ≤ l.length) (hK : K ≤ 8) (hc : ∀ x ∈ csL l, 1 ≤ x ∧ x ≤ K) :
    Calls Tryz.prog 44 #[v, .int .i64 i, .int .i64 K] w fun e w' => ∃ g arr, e = .returned (.slice (some ⟨g, 0, none⟩) (l.length + 1) (l.length + 1)) ∧ w'.heap[g]? = some (.cells arr 3) ∧ arr.size = l.length + 1 ∧ (∀ j, i < j → j ≤ l.length → arr[j]? = some (.int .i64 (UN K (csL l) i j))) ∧ w.heap.size ≤ g ∧ Ext w w' := by
  obtain ⟨a, cap, hv⟩ := h.shape
  subst hv
  have HN := Lib.hid h
  have HC := Lib.hid hc
  obtain ⟨i0, hi0, hz0, hz1, hz2⟩ := info_parts info3
  have HMK : Hid (∀ (n : Nat), n ≤ 100000 → ∀ W : World, (Instr.makeSlice 38 (.int .i64 (n : Int)) (.int .i64 (n : Int))).run Tryz.prog W = .ok (.slice (some ⟨W.heap.size, 0, none⟩) n n) (W.alloc (.cells (madeCells #[.int .i64 0] n) 3))) :=
    fun n hn W => made_one Tryz.prog 38 3 i0 (.int .i64 0) Tryz.underlying38 hi0 hz0 hz1 rfl (by rw [hz2]; omega) n (by omega) W
  have hmk1 := HMK.out K (by omega)
  have hmk2 := HMK.out (l.length + 1) (by omega)
  rw [show ((l.length + 1 : Nat) : Int) = (l.length : Int) + 1 by omega] at hmk2
  generalize hn : l.length = n at *
  have Hn := Lib.hid hn
  have hC0 : (((w.alloc (.cells (madeCells #[.int .i64 0] K) 3)).alloc (.cells (madeCells #[.int .i64 0] (n + 1)) 3))).heap[w.heap.size]? = some (.cells (madeCells #[.int .i64 0] K) 3) := allocOld (alloc0 _ _) _
  have hO0 : (((w.alloc (.cells (madeCells #[.int .i64 0] K) 3)).alloc (.cells (madeCells #[.int .i64 0] (n + 1)) 3))).heap[w.heap.size + 1]? = some (.cells (madeCells #[.int .i64 0] (n + 1)) 3) := alloc_at _ _ (by simp)
  have hE0 : Ext w (((w.alloc (.cells (madeCells #[.int .i64 0] K) 3)).alloc (.cells (madeCells #[.int .i64 0] (n + 1)) 3))) := ((Upd.refl _ w).alloc _).alloc _
  have HC0 := Lib.hid hC0
  have HO0 := Lib.hid hO0
  have HE0 := Lib.hid hE0
  have Hs1 : Hid ((madeCells #[Value.int .i64 0] K).size = K) := by show _ = _; rw [size_madeCells]
  have Hs2 : Hid ((madeCells #[Value.int .i64 0] (n + 1)).size = n + 1) := by show _ = _; rw [size_madeCells]
  clear h hc hC0 hO0 hE0 hz0 hz1 hz2 hi0 hn
  go_enter Tryz.func44, Tryz.ntmps44
  go_wp2_with fail
  generalize ((w.alloc (.cells (madeCells #[.int .i64 0] K) 3)).alloc (.cells (madeCells #[.int .i64 0] (n + 1)) 3)) = w3 at *
  obtain ⟨C, hCe⟩ : ∃ C, C = w.heap.size := ⟨_, rfl⟩
  rw [← hCe] at HC0 HO0 ⊢
  have HCe := Lib.hid hCe
  clear hCe hmk1 hmk2
  go_loopg [9, 10] (n - i) (fun gk ms jv wr => ∃ (j : Nat) (ca oa : Array Value), jv = .int .i64 j ∧ ms = .int .i64 (mxc (seg (csL l) i j) K) ∧ gk = n - j ∧ i ≤ j ∧ j ≤ n ∧ Hid (Ext w wr) ∧ Hid (wr.heap[C]? = some (.cells ca 3)) ∧ Hid (wr.heap[C + 1]? = some (.cells oa 3)) ∧
    Hid (ca.size = K ∧ ∀ c, c < K → ca[c]? = some (.int .i64 (cnt ((c : Int) + 1) (seg (csL l) i j)))) ∧ Hid (oa.size = n + 1 ∧ ∀ x, i < x → x ≤ j → oa[x]? = some (.int .i64 (UN K (csL l) i x))) ∧ Hid (∀ x, x ≤ n → ∃ z, oa[x]? = some (.int .i64 z)))
  case atStart =>
    exact ⟨i, _, _, rfl, by rw [seg_self, mxc_nil], rfl, Nat.le_refl _, hi, HE0.out, HC0.out, HO0.out, ⟨Hs1.out, fun c hc => by rw [made_get _ _ _ hc, seg_self, cnt_nil]⟩, ⟨Hs2.out, fun x h1 h2 => by omega⟩, fun x hx => ⟨0, made_get _ _ _ (by omega)⟩⟩
  case round =>
    obtain ⟨j, ca, oa, rfl, rfl, rfl, hij, hj, HE, HCA, HOA, Hca, Hoa, Hoz⟩ := hrel
    have HCB := Lib.hid (HC.out)
    by_cases hlt : j < n
    · have hlx : j < l.length := by rw [Hn.out]; exact hlt
      obtain ⟨g, off, cap', hv, hcc, hg, c0, c1, _⟩ := (HN.out.kept HE.out (fun _ _ h => h)).at hlx
      rw [Hn.out] at hv
      injection hv with e1 e2 e3
      subst e1; subst e3
      have hcl : j < (csL l).length := by rw [csL_length]; exact hlx
      have hcb := HC.out _ (getD_mem0 hcl)
      have Hsg := Lib.hid (seg_snoc (csL l) i j hij hcl)
      have Hmx := Lib.hid ((mxc_snoc (seg (csL l) i j) ((csL l).getD j 0) K).1 hcb)
      have Hcn : Hid (∀ c : Int, cnt c (seg (csL l) i j ++ [(csL l).getD j 0]) = cnt c (seg (csL l) i j) + if (csL l).getD j 0 = c then 1 else 0) := fun c => cnt_snoc c _ _
      rw [← csL_get l j hlx] at c0
      have Hslen : Hid ((seg (csL l) i j).length = j - i) := seg_length _ _ _ hij (by omega)
      have Hslen1 : Hid ((seg (csL l) i (j + 1)).length = j + 1 - i) := seg_length _ _ _ (by omega) (by omega)
      have hmb := mxc_bd (seg (csL l) i j) K
      rw [Hslen.out] at hmb
      clear hg hcc e2 c1 hlx hcl
      obtain ⟨cv, hcv⟩ := Int.eq_ofNat_of_zero_le (show 0 ≤ (csL l).getD j 0 - 1 by omega)
      have hcv1 : (csL l).getD j 0 = (cv : Int) + 1 := by omega
      have HCV := Lib.hid hcv1
      rw [hcv1] at c0
      have hcK : cv < K := by omega
      have hcnb := cnt_bd ((cv : Int) + 1) (seg (csL l) i j)
      rw [Hslen.out] at hcnb
      have k0 := cellRow HCA.out cv _ (Hca.out.2 cv hcK)
      have kf := frozenRow HCA.out cv
      obtain ⟨z, hz⟩ := Hoz.out (j + 1) (by omega)
      have o0 := cellRow HOA.out (j + 1) _ hz
      have of := frozenRow HOA.out (j + 1)
      generalize hcnt : cnt ((cv : Int) + 1) (seg (csL l) i j) = CN at *
      have HCN := Lib.hid hcnt
      generalize hmxe : mxc (seg (csL l) i j) K = MX at *
      have HMX := Lib.hid hmxe
      have hcnew : cnt ((cv : Int) + 1) (seg (csL l) i (j + 1)) = CN + 1 := by rw [Hsg.out, Hcn.out, hcnt, HCV.out, if_pos rfl]
      have HCNew := Lib.hid hcnew
      have hmnew : mxc (seg (csL l) i (j + 1)) K = max MX (CN + 1) := by
        rw [Hsg.out, Hmx.out, HCV.out, ← HCNew.out, Hsg.out, HCV.out]
      have HMNew := Lib.hid hmnew
      have s1 : (0 : Int) ≤ (j : Int) := by omega
      have s2 : (j : Int) < (n : Int) := by omega
      have s3 : (cv : Int) < (K : Int) := by omega
      have hun : UN K (csL l) i (j + 1) = (j : Int) + 1 - i - max MX (CN + 1) := by
        unfold UN un
        rw [HMNew.out, Hslen1.out]; omega
      have HUN := Lib.hid hun
      have HKEY : Hid (∀ X : Int, X = (j : Int) + 1 - i - max MX (CN + 1) → Ext w ((wr.setCell ⟨C, cv, none⟩ (.int .i64 (CN + 1))).setCell ⟨C + 1, j + 1, none⟩ (.int .i64 X)) ∧
          ((wr.setCell ⟨C, cv, none⟩ (.int .i64 (CN + 1))).setCell ⟨C + 1, j + 1, none⟩ (.int .i64 X)).heap[C]? = some (.cells (ca.setIfInBounds cv (.int .i64 (CN + 1))) 3) ∧
          ((wr.setCell ⟨C, cv, none⟩ (.int .i64 (CN + 1))).setCell ⟨C + 1, j + 1, none⟩ (.int .i64 X)).heap[C + 1]? = some (.cells (oa.setIfInBounds (j + 1) (.int .i64 X)) 3) ∧
          ((ca.setIfInBounds cv (.int .i64 (CN + 1))).size = K ∧ ∀ c, c < K → (ca.setIfInBounds cv (.int .i64 (CN + 1)))[c]? = some (.int .i64 (cnt ((c : Int) + 1) (seg (csL l) i (j + 1))))) ∧
          ((oa.setIfInBounds (j + 1) (.int .i64 X)).size = n + 1 ∧ ∀ x, i < x → x ≤ j + 1 → (oa.setIfInBounds (j + 1) (.int .i64 X))[x]? = some (.int .i64 (UN K (csL l) i x))) ∧
          (∀ x, x ≤ n → ∃ z, (oa.setIfInBounds (j + 1) (.int .i64 X))[x]? = some (.int .i64 z))) := by
        intro X hX
        have hCw : w.heap.size ≤ C := by have := HCe.out; omega
        have q1 : (wr.setCell ⟨C, cv, none⟩ (.int .i64 (CN + 1))).heap[C + 1]? = some (.cells oa 3) := ((Upd.refl (fun k => k = C) wr).setCell (p := ⟨C, cv, none⟩) (.inl rfl) _).heap HOA.out (by omega)
        refine ⟨(HE.out.setNew hCw _).setNew (by omega) _, ?_, setBlock q1 _ _, ⟨by rw [Array.size_setIfInBounds]; exact Hca.out.1, fun c hc => ?_⟩, ⟨by rw [Array.size_setIfInBounds]; exact Hoa.out.1, fun x h1 h2 => ?_⟩, fun x hx => ?_⟩
        · exact ((Upd.refl (fun k => k = C + 1) _).setCell (p := ⟨C + 1, j + 1, none⟩) (.inl rfl) _).heap (setBlock HCA.out cv (.int .i64 (CN + 1))) (by omega)
        · by_cases e : c = cv
          · subst e
            rw [Array.getElem?_setIfInBounds_self_of_lt (by rw [Hca.out.1]; exact hc), HCNew.out]
          · rw [Array.getElem?_setIfInBounds_ne (by omega), Hca.out.2 c hc, Hsg.out, Hcn.out, HCV.out, if_neg (by omega)]
            simp
        · by_cases e : x = j + 1
          · subst e
            rw [Array.getElem?_setIfInBounds_self_of_lt (by rw [Hoa.out.1]; omega), hX, HUN.out]
          · rw [Array.getElem?_setIfInBounds_ne (by omega)]
            exact Hoa.out.2 x h1 (by omega)
        · by_cases e : x = j + 1
          · subst e
            exact ⟨X, Array.getElem?_setIfInBounds_self_of_lt (by rw [Hoa.out.1]; omega)⟩
          · obtain ⟨z, hz⟩ := Hoz.out x hx
            exact ⟨z, by rw [Array.getElem?_setIfInBounds_ne (by omega)]; exact hz⟩
      clear hcb hcv hcv1 hz hcnt hmxe hcnew hmnew hun
      go_wp2_with fail
      all_goals
        go_roundg (n - (j + 1))
        case measure => omega
        case rel =>
          first
            | (obtain ⟨r1, r2, r3, r4, r5, r6⟩ := HKEY.out ((j : Int) + 1 - i - (CN + 1)) (by omega)
               exact ⟨j + 1, _, _, by go_num, by rw [HMNew.out]; congr 1; omega, rfl, by omega, by omega, r1, r2, r3, r4, r5, r6⟩)
            | (obtain ⟨r1, r2, r3, r4, r5, r6⟩ := HKEY.out ((j : Int) + 1 - i - MX) (by omega)
               exact ⟨j + 1, _, _, by go_num, by rw [HMNew.out]; congr 1; omega, rfl, by omega, by omega, r1, r2, r3, r4, r5, r6⟩)
    · obtain rfl : j = n := by omega
      go_wp2_with fail
      go_ret
      exact ⟨_, oa, rfl, HOA.out, Hoa.out.1, Hoa.out.2, by have := HCe.out; omega, HE.out⟩

end Go.Proofs.YthpekfpeoglbgaaGreatDoor
