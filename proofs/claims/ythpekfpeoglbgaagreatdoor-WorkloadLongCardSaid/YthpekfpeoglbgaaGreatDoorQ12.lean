/- slices.Repeat of one operation. -/
import Derived.Test.YthpekfpeoglbgaaGreatDoorQ11
import Derived.Test.YthpekfpeoglbgaaGreatDoorW20
namespace Go.Proofs.YthpekfpeoglbgaaGreatDoor
open Go.RowKit Go.Hw
set_option linter.unusedVariables false
set_option linter.unusedSimpArgs false

section
variable {P : Program}
theorem run_copy_rowS (w : World) (dT sT ty elem : TypeId) (g o dLen dCap : Nat) (a : Addr) (sLen sCap size : Nat) (cur : Array Value) (t : TypeId) (cs : List Value)
    (hu : P.underlying dT = some (.slice elem)) (hs : (P.info? elem).map (·.size) = some size)
    (hg : w.heap[g]? = some (.cells cur t (0, 0))) (hn : cs.length = Nat.min sLen dLen * size)
    (hsrc : ∀ j v, cs[j]? = some v → w.cell? (a.add j) = some v) (hfit : o + cs.length ≤ cur.size) (h1 : ∀ v ∈ cs, v.oneCell' = true) :
    (Builtin.copy_ #[dT, sT] ty #[.slice (some ⟨g, o, none⟩) dLen dCap, .slice (some a) sLen sCap]).run P w =
      .ok (goInt (Nat.min sLen dLen)) (w.setRow g (cur.toList.take o ++ cs ++ cur.toList.drop (o + cs.length)).toArray) := by
  have hl := run_loadCells_list (P := P) w a cs hsrc
  have hst := run_storeCells_at P g o t cs 0 cur w hg (by simpa using hfit) h1
  cases hq : P.info? elem with
  | none => simp [hq] at hs
  | some i =>
    have hi : i.size = size := by simpa [hq] using hs
    simp [Builtin.copy_, run_underlying hu, Builtin.lenOf, Builtin.firstCells, sizeOf, typeInfo, hq, hi, ← hn, hl, hst]
theorem wpList_copyS {w : World} {ops : Array Oper} {rest : List Oper} {o : Oper} {a : Act} {Q : Exit → Act → World → Prop} (hgd : o.guard = none) (d s : Operand) (dT sT : TypeId)
    (ho : o.op = .call { callee := .builtin .copy, args := #[d, s], argTypes := #[dT, sT] }) (elem : TypeId) (hu : P.underlying dT = some (.slice elem)) (size : Nat) (hsz : (P.info? elem).map (·.size) = some size)
    (g off : Nat) (ad : Addr) (dLen dCap sLen sCap : Nat) (hd : a.eval d = .slice (some ⟨g, off, none⟩) dLen dCap) (hs : a.eval s = .slice (some ad) sLen sCap)
    (cur : List Value) (t : TypeId) (hg : w.heap[g]? = some (.cells cur.toArray t (0, 0))) (cs : List Value) (hn : cs.length = Nat.min sLen dLen * size)
    (hsrc : ∀ j v, cs[j]? = some v → w.cell? (ad.add j) = some v)
    (hfit : off + cs.length ≤ cur.length) (h1 : ∀ v ∈ cs, v.oneCell' = true) (B : Nat) (w0 : World) (hb : Below B w0 w) (hBg : B ≤ g)
    (h : ∀ w', Hid (w'.heap[g]? = some (.cells (splice cur off cs).toArray t (0, 0))) → Below B w0 w' → wpList P ops Q rest (a.put o.dst (goInt (Nat.min sLen dLen))) w') :
    wpList P ops Q (o :: rest) a w := by
  have hr := run_copy_rowS (P := P) w dT sT o.type elem g off dLen dCap ad sLen sCap size cur.toArray t cs hu hsz hg hn hsrc (by simpa using hfit) h1
  refine wpList_plain hgd fun K hK => ?_
  unfold Oper.wp execOp
  simp only [ho, resolve, invoke, builtin, Sem.run_bind, Sem.run_pure, Result.andThen_ok, List.map_toArray, List.map_cons, List.map_nil, hd, hs, hr]
  exact hK _ _ (h _ (show _ = _ by simpa [splice] using setRow_heap w g _ _ t _ hg) (below_setRow hb hBg _))
theorem step_copyS {ops : Array Oper} {o : Oper} {a : Act} {w : World} {K : Act → World → Prop} {Q : Exit → Act → World → Prop} {E : Prop} (hgd : o.guard = none) (d s : Operand) (dT sT : TypeId)
    (ho : o.op = .call { callee := .builtin .copy, args := #[d, s], argTypes := #[dT, sT] }) (elem : TypeId) (hu : P.underlying dT = some (.slice elem)) (size : Nat) (hsz : (P.info? elem).map (·.size) = some size)
    (g off : Nat) (ad : Addr) (dLen dCap sLen sCap : Nat) (hd : a.eval d = .slice (some ⟨g, off, none⟩) dLen dCap) (hs : a.eval s = .slice (some ad) sLen sCap)
    (cur : List Value) (t : TypeId) (hg : w.heap[g]? = some (.cells cur.toArray t (0, 0))) (cs : List Value) (hn : cs.length = Nat.min sLen dLen * size)
    (hsrc : ∀ j v, cs[j]? = some v → w.cell? (ad.add j) = some v)
    (hfit : off + cs.length ≤ cur.length) (h1 : ∀ v ∈ cs, v.oneCell' = true) (B : Nat) (w0 : World) (hb : Below B w0 w) (hBg : B ≤ g)
    (h : ∀ w', Hid (w'.heap[g]? = some (.cells (splice cur off cs).toArray t (0, 0))) → Below B w0 w' → K (a.put o.dst (goInt (Nat.min sLen dLen))) w') :
    if Region.wanted o (yielded ops a.tmps) = true then Oper.wp P o a w K Q else E := by
  have hw : Region.wanted o (yielded ops a.tmps) = true := by simp [Region.wanted, hgd]
  rw [if_pos hw]
  have hr := run_copy_rowS (P := P) w dT sT o.type elem g off dLen dCap ad sLen sCap size cur.toArray t cs hu hsz hg hn hsrc (by simpa using hfit) h1
  unfold Oper.wp execOp
  simp only [ho, resolve, invoke, builtin, Sem.run_bind, Sem.run_pure, Result.andThen_ok, List.map_toArray, List.map_cons, List.map_nil, hd, hs, hr]
  exact h _ (show _ = _ by simpa [splice] using setRow_heap w g _ _ t _ hg) (below_setRow hb hBg _)
end
/-- n times the cells of one element -/
def rp (n : Nat) (X : List Value) : List Value := (List.replicate n X).flatten
theorem rp_len (n : Nat) (X : List Value) : (rp n X).length = n * X.length := by simp [rp]
theorem rp_add (n m : Nat) (X : List Value) : rp (n + m) X = rp n X ++ rp m X := by
  unfold rp
  rw [← List.replicate_append_replicate, List.flatten_append]
theorem rp_succ (n : Nat) (X : List Value) : rp (n + 1) X = X ++ rp n X := by unfold rp; rw [List.replicate_succ, List.flatten_cons]
theorem rp_drop (c m : Nat) (h : m ≤ c) (X : List Value) : (rp c X).drop (m * X.length) = rp (c - m) X := by
  have : rp c X = rp m X ++ rp (c - m) X := by rw [← rp_add]; congr 1; omega
  rw [this, List.drop_left' (rp_len m X)]
theorem rp_take (c m : Nat) (h : m ≤ c) (X : List Value) : (rp c X).take (m * X.length) = rp m X := by
  have : rp c X = rp m X ++ rp (c - m) X := by rw [← rp_add]; congr 1; omega
  rw [this, List.take_left' (rp_len m X)]
theorem splice_rp (X Z : List Value) (hx : X.length = Z.length) (c n m : Nat) (hn : n + m ≤ c) : splice (rp n X ++ rp (c - n) Z) (n * Z.length) (rp m X) = rp (n + m) X ++ rp (c - (n + m)) Z := by
  unfold splice
  rw [List.take_left' (by rw [rp_len, hx]), rp_len, ← hx, ← Nat.add_mul, rp_add, List.append_assoc]
  congr 2
  rw [List.drop_append, List.drop_eq_nil_of_le (by rw [rp_len]; exact Nat.mul_le_mul_right _ (by omega)), List.nil_append, rp_len, ← Nat.sub_mul, hx, rp_drop _ _ (by omega)]
  congr 1
  omega
theorem rp_get (X : List Value) (hX : X.length = 2) : ∀ (n q r : Nat), q < n → r < 2 → (rp n X)[q * 2 + r]? = X[r]?
  | 0, q, r, h, _ => by omega
  | n + 1, 0, r, _, hr => by rw [rp_succ, List.getElem?_append_left (by omega)]; simp
  | n + 1, q + 1, r, h, hr => by
    rw [rp_succ, List.getElem?_append_right (by omega), hX]
    rw [show (q + 1) * 2 + r - 2 = q * 2 + r by omega]
    exact rp_get X hX n q r (by omega) hr
theorem rp_mem (n : Nat) (X : List Value) : ∀ v ∈ rp n X, v ∈ X := by
  intro v hv
  unfold rp at hv
  obtain ⟨l, hl, hv⟩ := List.mem_flatten.1 hv
  rw [List.eq_of_mem_replicate hl] at hv
  exact hv
theorem made2 (x y : Value) (c : Nat) : madeCells #[x, y] (c * 2) = (rp c [x, y]).toArray := by
  apply Array.ext
  · rw [size_madeCells]; simp [rp_len]
  · intro i h1 h2
    rw [size_madeCells] at h1
    have e : i = i / 2 * 2 + i % 2 := by omega
    have h3 := rp_get [x, y] rfl c (i / 2) (i % 2) (by omega) (by omega)
    rw [← e] at h3
    have h4 : (rp c [x, y]).toArray[i]? = [x, y][i % 2]? := by simpa using h3
    rw [Array.getElem?_eq_getElem h2] at h4
    have h5 : (madeCells #[x, y] (c * 2))[i] = #[x, y][i % 2]! := by simp [madeCells]
    rw [h5]
    have h6 : i % 2 = 0 ∨ i % 2 = 1 := by omega
    rcases h6 with h6 | h6 <;> (rw [h6] at h4 ⊢; simpa using h4.symm)

set_option maxRecDepth 100000 in
set_option maxHeartbeats 2000000 in
theorem repeat_op (X : List Value) (hX : X.length = 2) (hX1 : ∀ v ∈ X, v.oneCell' = true) (sg sc c : Nat) (w : World) (hx : ∀ r, r < 2 → w.cell? ⟨sg, r, none⟩ = X[r]?) (hc1 : 1 ≤ c) (hc : c ≤ 100000) :
    Calls Tryz.prog 11 #[.slice (some ⟨sg, 0, none⟩) 1 sc, .int .i64 c] w fun e w' => e = .returned (.slice (some ⟨w.heap.size, 0, none⟩) c c) ∧ w'.heap[w.heap.size]? = some (.cells (rp c X).toArray 40) ∧ Ext w w' := by
  obtain ⟨i0, hi0, hz0, hz1, hz2⟩ := info_parts info50
  have hmk : ∀ W : World, (Instr.makeSlice 23 (.int .i64 (c : Int)) (.int .i64 (c : Int))).run Tryz.prog W = .ok (.slice (some ⟨W.heap.size, 0, none⟩) c c) (W.alloc (.cells (rp c [.int .i64 0, .slice none 0 0]).toArray 40)) := fun W => by
    have hr := run_make (P := Tryz.prog) W 23 40 i0 (.agg #[.int .i64 0, .slice none 0 0]) Tryz.underlying23 hi0 hz0 .i64 .i64 c c (by omega) (by omega) (by rw [hz2]; omega) (by omega)
    simp only [Int.toNat_natCast, hz1] at hr
    rw [show (Value.agg #[.int .i64 0, .slice none 0 0]).cells = #[.int .i64 0, .slice none 0 0] from rfl, made2] at hr
    exact hr
  have HM := Lib.hid (mul_one c w hc)
  have hsz : (Tryz.prog.info? 40).map (·.size) = some 2 := by rw [hi0]; simp [hz1]
  have HSZ := Lib.hid hsz
  have HX : Hid (∀ W, Ext w W → ∀ r, r < 2 → W.cell? ⟨sg, r, none⟩ = X[r]?) := fun W hW r hr => by
    have h1 := hx r hr
    rw [List.getElem?_eq_getElem (by omega)] at h1 ⊢
    exact hW.cell h1 (fun h => h)
  have HX1 := Lib.hid hX1
  have wc : IntKind.u64.wrap (c : Int) = c := by rw [wrap_u64']; omega
  have wc2 : IntKind.i64.wrap (c : Int) = c := IntWalk.i64_in _ (by omega)
  have HG0 := Lib.hid (alloc0 w (.cells (rp c [.int .i64 0, .slice none 0 0]).toArray 40))
  have HE0 : Hid (Ext w (w.alloc (.cells (rp c [.int .i64 0, .slice none 0 0]).toArray 40))) := (Upd.refl _ w).alloc _
  have HXL := Lib.hid hX
  have HSP : Hid (∀ n m, n + m ≤ c → splice (rp n X ++ rp (c - n) [.int .i64 0, .slice none 0 0]) (n * 2) (rp m X) = rp (n + m) X ++ rp (c - (n + m)) [.int .i64 0, .slice none 0 0]) := fun n m h => splice_rp X [.int .i64 0, .slice none 0 0] (by rw [hX]; rfl) c n m h
  clear hz0 hz1 hz2 hi0 hsz hx hX1 hX
  go_enter Tryz.func11, Tryz.ntmps11
  go_wp2_with fail
  refine HM.out.mono ?_
  rintro e w2 ⟨rfl, rfl⟩
  go_wp2_with (with_reducible (refine stop_at (o := ⟨some 33, _, _, _, _, _⟩) ?_))
  refine Stop.go ?_
  refine wpList_copyS rfl (.tmp 31) (.tmp 32) 23 23 rfl 40 Tryz.underlying23 2 HSZ.out w.heap.size 0 ⟨sg, 0, none⟩ c c 1 sc rfl rfl (rp c [.int .i64 0, .slice none 0 0]) 40 HG0.out X (by rw [HXL.out, show Nat.min 1 c = 1 from Nat.min_eq_left hc1]) ?c2 ?c3 HX1.out w.heap.size w HE0.out.below (Nat.le_refl _) ?_
  case c2 =>
    intro j v hj
    have hj2 : j < 2 := by have := (List.getElem?_eq_some_iff.1 hj).1; rw [HXL.out] at this; exact this
    have h1 := HX.out _ HE0.out j hj2
    rw [hj] at h1
    have e : (⟨sg, 0, none⟩ : Addr).add j = ⟨sg, j, none⟩ := by
      unfold Addr.add
      split
      · rename_i h0; simp [h0]
      · simp
    rw [e]
    exact h1
  case c3 => rw [rp_len, HXL.out]; simp; omega
  intro w3 hg3 hb3
  rw [show Nat.min 1 c = 1 from Nat.min_eq_left hc1]
  have he1 : splice (rp c [.int .i64 0, .slice none 0 0]) 0 X = rp 1 X ++ rp (c - 1) [.int .i64 0, .slice none 0 0] := by
    have := HSP.out 0 1 (by omega)
    simpa [rp] using this
  have HG3 : Hid (w3.heap[w.heap.size]? = some (.cells (rp 1 X ++ rp (c - 1) [.int .i64 0, .slice none 0 0]).toArray 40)) := by rw [← he1]; exact hg3.out
  have HE3 := Lib.hid (ext_of_below hb3)
  clear hg3 hb3 he1 hmk
  generalize hb : w.heap.size = b at *
  have Hb := Lib.hid hb
  clear hb
  go_wp2_with fail
  go_loopg [8] (c - 1) (fun gk nv wr => ∃ k : Nat, nv = .int .i64 k ∧ gk = c - k ∧ 1 ≤ k ∧ k ≤ c ∧ Hid (Ext w wr) ∧ Hid (wr.heap[b]? = some (.cells (rp k X ++ rp (c - k) [.int .i64 0, .slice none 0 0]).toArray 40)))
  case atStart => exact ⟨1, rfl, rfl, Nat.le_refl _, hc1, HE3.out, HG3.out⟩
  case round =>
    obtain ⟨k, rfl, rfl, hk1, hkc, HE, HG⟩ := hrel
    by_cases hlt : k < c
    · have i1 : (0 : Int) ≤ (k : Int) := by omega
      have i2 : (k : Int) ≤ (c : Int) := by omega
      have hne : ¬ (c = k) := by omega
      have hk0 : ¬ (k = 0) := by omega
      obtain ⟨m, hm⟩ : ∃ m, m = Nat.min k (c - k) := ⟨_, rfl⟩
      have hm1 : m ≤ k := by rw [hm]; exact Nat.min_le_left _ _
      have hm2 : m ≤ c - k := by rw [hm]; exact Nat.min_le_right _ _
      have hm3 : 1 ≤ m := by rw [hm]; exact Nat.le_min.2 ⟨hk1, by omega⟩
      have Hm := Lib.hid hm
      have HLn : Hid ((rp m X).length = Nat.min k (c - k) * 2) := Lib.hid (by rw [rp_len, HXL.out, hm])
      have Hfit : Hid (k * 2 + (rp m X).length ≤ (rp k X ++ rp (c - k) [.int .i64 0, .slice none 0 0]).length) := Lib.hid (by rw [List.length_append, rp_len, rp_len, rp_len, HXL.out]; simp; omega)
      have H1c : Hid (∀ v ∈ rp m X, v.oneCell' = true) := fun v hv => HX1.out v (rp_mem m X v hv)
      have Hsrc : Hid (∀ j v, (rp m X)[j]? = some v → wr.drew.cell? ((⟨b, 0, none⟩ : Addr).add j) = some v) := fun j v hj => by
        have hjm : j < m * 2 := by have := (List.getElem?_eq_some_iff.1 hj).1; rw [rp_len, HXL.out] at this; exact this
        have e : (⟨b, 0, none⟩ : Addr).add j = ⟨b, j, none⟩ := by
          unfold Addr.add
          split
          · rename_i h0; simp [h0]
          · simp
        rw [e]
        refine (cell_of_row wr b j _ 40 _ HG.out).trans ?_
        have h2 : (rp k X)[j]? = some v := by
          have := rp_add m (k - m) X
          rw [show m + (k - m) = k by omega] at this
          rw [this, List.getElem?_append_left (by rw [rp_len, HXL.out]; exact hjm)]
          exact hj
        simp only [List.getElem?_toArray]
        rw [List.getElem?_append_left (by rw [rp_len, HXL.out]; omega)]
        exact h2
      have Hspl := Lib.hid (HSP.out k m (by omega))
      have s5 : IntKind.i64.wrap ((k : Int) + (m : Int)) = (k : Int) + (m : Int) := IntWalk.i64_in _ (by omega)
      have Hgi : Hid (goInt (Nat.min k (c - k)) = .int .i64 m) := Lib.hid (by rw [← hm]; rfl)
      have HB0 : Hid (Below w.heap.size w wr.drew) := Ext.below (Upd.drew HE.out)
      have Hbb : Hid (w.heap.size ≤ b) := Nat.le_of_eq Hb.out
      clear hm
      go_wp2_with fail
      refine wp_region_mix [(0, 0), (1, 0), (2, 0), (3, 0), (4, 0), (5, 0), (6, 0), (7, 1), (8, 2), (9, 2)] 8 (fun _ => True) (by kernel_rfl) (by kernel_rfl) (fun _ _ d _ _ h => by cases d <;> exact h) trivial ?_
      simp only [pickO, List.getElem?_cons_zero, List.getElem?_cons_succ]
      iterate 7 (refine mix_take (fun K hK => ?_); go_simp; refine hK _ ?_; clear hK K)
      refine mix_one (fun K hK hS => ?_) trivial
      refine step_copyS rfl (.tmp 41) (.tmp 44) 23 23 rfl 40 Tryz.underlying23 2 HSZ.out b (k * 2) ⟨b, 0, none⟩ (c - k) (c - k) k c rfl rfl _ 40 HG.out (rp m X) HLn.out Hsrc.out Hfit.out H1c.out w.heap.size w HB0.out Hbb.out ?_
      intro w5 hg5 hb5
      rw [Hgi.out]
      have HG5 : Hid (w5.heap[b]? = some (.cells (rp (k + m) X ++ rp (c - (k + m)) [.int .i64 0, .slice none 0 0]).toArray 40)) := by rw [← Hspl.out]; exact hg5.out
      have HE5 := Lib.hid (ext_of_below hb5)
      clear hg5 hb5
      refine hK _ _ trivial ?_
      clear hK K hS
      iterate 2 (refine mix_two (fun K hK => ?_); go_simp; refine hK _ _ ?_; clear hK K)
      simp only [wpMix]
      go_wp2_with fail
      go_roundg (c - (k + m))
      case measure => omega
      case rel => exact ⟨k + m, by go_num, rfl, by omega, by omega, HE5.out, HG5.out⟩
    · obtain rfl : k = c := by omega
      go_wp2_with fail
      go_ret
      rw [Hb.out]
      refine ⟨rfl, ?_, HE.out⟩
      have := HG.out
      rw [Nat.sub_self, show rp 0 [.int .i64 0, .slice none 0 0] = [] from rfl, List.append_nil] at this
      exact this

end Go.Proofs.YthpekfpeoglbgaaGreatDoor
