/- model.Parse. -/
import Derived.Test.YthpekfpeoglbgaaGreatDoorQ3
import Derived.Test.YthpekfpeoglbgaaGreatDoorL4
import Derived.Test.YthpekfpeoglbgaaGreatDoorW9
namespace Go.Proofs.YthpekfpeoglbgaaGreatDoor
open Go.RowKit Go.Hw
set_option linter.unusedVariables false
set_option linter.unusedSimpArgs false

theorem idxFrom_bd (x : ByteArray) : ∀ (zs : List ByteArray) (i : Nat), Lib.idxFromS zs x i = -1 ∨ ((i : Int) ≤ Lib.idxFromS zs x i ∧ Lib.idxFromS zs x i < (i : Int) + zs.length)
  | [], i => Or.inl rfl
  | z :: zs, i => by
    unfold Lib.idxFromS
    split
    · right; simp only [List.length_cons]; omega
    · rcases idxFrom_bd x zs (i + 1) with h | h
      · exact Or.inl h
      · right; simp only [List.length_cons]; omega
theorem idx_bd (kind : Int) (p : ByteArray) : -1 ≤ Lib.idxOfS (nmB kind) p ∧ Lib.idxOfS (nmB kind) p < 8 := by
  have h1 := idxFrom_bd p (nmB kind) 0
  have h2 : (nmB kind).length ≤ 8 := by unfold nmB; rw [List.length_map, wNm_length]; exact nW_le kind
  unfold Lib.idxOfS
  omega
/-- what model.Parse leaves -/
def MPost (kind : Int) (t : ByteArray) (w : World) (e : Ending) (w' : World) : Prop :=
  (∃ o v, Good kind t o ∧ e = .returned (.tuple #[.agg #[.int .i64 o.code, v], .int .i64 0]) ∧ NumR (fun k => w.heap.size ≤ k) w' v o.args ∧ Ext w w') ∨
  ((∀ o, ¬ Good kind t o) ∧ e = .returned (.tuple #[.agg #[.int .i64 0, .slice none 0 0], .int .i64 7]) ∧ Ext w w')
theorem ext_upd {F : Nat → Prop} {w a b : World} (h : Ext w a) (k : Upd F a b) (hF : ∀ k, F k → w.heap.size ≤ k) : Ext w b :=
  h.trans' k (fun i hi hf => by have := hF i hf; omega)
theorem good_at {kind : Int} {t p0 : ByteArray} {rest : List ByteArray} (hp : partsB t = p0 :: rest) {o : OpM} (h : Good kind t o) : rest.length ≤ 64 ∧ ∀ i, i < rest.length → ∃ v, Lib.atoiAll (rest.getD i ByteArray.empty).data.toList = .ok v := by
  have h1 := parts_good h
  rw [hp] at h1
  injection h1 with h2 h3
  obtain ⟨h4, h5, h6, h7⟩ := valid_args h.1
  subst h3
  refine ⟨by rw [List.length_map]; exact h4, fun i hi => ?_⟩
  rw [List.length_map] at hi
  have hb := key_bd (h5 (o.args[i]) (by simp))
  refine ⟨o.args[i], ?_⟩
  simp only [List.getD_eq_getElem?_getD, List.getElem?_map, List.getElem?_eq_getElem hi, Option.map_some, Option.getD_some, bs_data]
  exact atoi_itoa _ (by omega) (by omega)
theorem own_alloc {w : World} {base e size n : Nat} {v : Value} {xs : List Value} (h : w.ownsRow base e size v n xs) (o : Obj) : (w.alloc o).ownsRow base e size v n xs := own_kept h ((Upd.refl (fun _ => False) w).alloc o) (fun _ _ h => h)
theorem updAt {w : World} {g j : Nat} (u : Value) : Upd (fun k => k = g) w (w.setCell ⟨g, j, none⟩ u) := (Upd.refl (fun k => k = g) w).setCell (p := ⟨g, j, none⟩) (.inl rfl) u
set_option maxHeartbeats 1000000 in
set_option maxRecDepth 100000 in
theorem mparse_x (kind : Int) (t : ByteArray) (w : World) (hk : 1 ≤ kind ∧ kind ≤ 6) (hE : Env w) (hs : t.size ≤ 1000000) :
    Calls Tryz.prog 23 #[.int .i64 kind, .string t] w (MPost kind t w) := by
  obtain ⟨i0, hi, hz0, hz1, hz2⟩ := info_parts info3
  obtain ⟨p0, rest, hpr⟩ : ∃ p0 rest, partsB t = p0 :: rest := by
    cases h : partsB t with
    | nil => have := parts_length t; rw [h] at this; simp at this
    | cons a b => exact ⟨a, b, rfl⟩
  have HPR := Lib.hid hpr
  have hlen : (partsB t).length = rest.length + 1 := by rw [hpr]; rfl
  have hcs : rest.length ≤ 1000000 := by
    have h1 := parts_length t
    have h2 := count_size t
    omega
  have HSZ : Hid (∀ i, i < rest.length → (rest.getD i ByteArray.empty).size ≤ 1000000) := fun i hi => by
    refine Nat.le_trans (parts_size t _ ?_) hs
    rw [hpr]
    simp [hi]
  have CW : Hid (∀ W : World, Calls Tryz.prog 47 #[.int .i64 kind] W fun e w' => ∃ g, e = .returned (.slice (some ⟨g, 0, none⟩) (nW kind) (nW kind)) ∧ WordsC kind w' g ∧ Ext W w') := fun W => wordsC_known kind W hk
  have CS : Hid (∀ W : World, Ext w W → Calls Tryz.prog 48 #[.string t, .string ⟨#[32]⟩] W fun e w' => ∃ g, e = .returned (.slice (some ⟨g, 0, none⟩) (rest.length + 1) (rest.length + 1)) ∧ (∀ j, j < rest.length + 1 → w'.cell? ⟨g, j, none⟩ = some (.string ((p0 :: rest).getD j ByteArray.empty))) ∧ Ext W w') := fun W hW => by
    have := split_x t W (hE.ext hW) hs
    rw [hlen, hpr] at this
    exact this
  have CA : Hid (∀ (i : Nat) (W : World), i < rest.length → Ext w W → (∃ v, Lib.atoiAll (rest.getD i ByteArray.empty).data.toList = .ok v ∧ Calls Tryz.prog 51 #[.string (rest.getD i ByteArray.empty)] W fun e w' => e = .returned (.tuple #[.int .i64 v, .nilIface]) ∧ Ext W w') ∨
    ((∀ v, Lib.atoiAll (rest.getD i ByteArray.empty).data.toList ≠ .ok v) ∧ ∃ v, Calls Tryz.prog 51 #[.string (rest.getD i ByteArray.empty)] W fun e w' => ∃ q, e = .returned (.tuple #[.int .i64 v, .iface 134 (.pointer (some q))]) ∧ Ext W w')) := fun i W hi hW => atoi_x _ W (hE.ext hW) (HSZ.out i hi)
  have CX : Hid (∀ (g pp pg : Nat) (W : World), WordsC kind W g → W.cell? ⟨pp, 0, none⟩ = some (.slice (some ⟨pg, 0, none⟩) (rest.length + 1) (rest.length + 1)) → W.cell? ⟨pg, 0, none⟩ = some (.string p0) → Calls Tryz.prog 49 #[.slice (some ⟨g, 0, none⟩) (nW kind) (nW kind), .func (.func 50) #[] #[.pointer (some ⟨pp, 0, none⟩)]] W fun e w' => e = .returned (.int .i64 (Lib.idxOfS (nmB kind) p0)) ∧ Ext W w') :=
    fun g pp pg W h1 h2 h3 => idx_word kind g pp pg _ _ p0 W h1 h2 h3 (by omega)
  have hbd := idx_bd kind p0
  obtain ⟨c, hc⟩ : ∃ c, cdB kind p0 = c := ⟨_, rfl⟩
  have hc2 : 1 + Lib.idxOfS (nmB kind) p0 = c := hc
  have HC := Lib.hid hc
  generalize Lib.idxOfS (nmB kind) p0 = X at *
  have u1 : IntKind.i64.wrap (1 + X) = c := by rw [hc2]; exact IntWalk.i64_in _ (by omega)
  have CT : Hid (∀ (vals : List Int) (v : Value) (W : World) (S : Nat → Prop), NumR S W v vals → vals.length ≤ 65 → Ext w W → Calls Tryz.prog 29 #[.int .i64 kind, .agg #[.int .i64 c, v]] W fun e w' => (validOp kind ⟨c, vals⟩ = false ∧ e = .returned (.tuple #[.string ⟨#[]⟩, .int .i64 1]) ∧ Ext W w') ∨ (validOp kind ⟨c, vals⟩ = true ∧ e = .returned (.tuple #[.string (bs (opT kind ⟨c, vals⟩)), .int .i64 0]) ∧ Ext W w')) := fun vals v W S hN hl hW => by
    cases hv : validOp kind ⟨c, vals⟩ with
    | false => exact (text_bad kind ⟨c, vals⟩ v W S hN (by simp only; omega) hv).mono fun e w' h => Or.inl ⟨rfl, h⟩
    | true => exact (text_ok kind ⟨c, vals⟩ v W S hN (hE.ext hW).tab hv).mono fun e w' h => Or.inr ⟨rfl, h⟩
  clear hE hs hpr hlen hk hc
  have HZ : Hid (Ext w (w.alloc (.cells #[.int .i64 0, .slice none 0 0] 40))) := (Upd.refl _ w).alloc _
  have HB : Hid (∀ W, Ext (w.alloc (.cells #[.int .i64 0, .slice none 0 0] 40)) W → W.heap[w.heap.size]? = some (.cells #[.int .i64 0, .slice none 0 0] 40)) := fun W hW => hW.heap (alloc0 w _) (fun h => h)
  go_enter Tryz.func23, Tryz.ntmps23
  go_wp2_with fail
  refine (CW.out _).mono ?_
  rintro e w2 ⟨gw, rfl, hwc, h2⟩
  have HWC := Lib.hid hwc
  have HE2 := Lib.hid h2
  clear hwc h2
  have hnil := Lib.run_eql_slice_nil (P := Tryz.prog) w2 94 99 (some ⟨gw, 0, none⟩) (nW kind) (nW kind) 0 0 Tryz.underlying94
  go_wp2_with fail
  clear hnil
  refine (CS.out _ (HZ.out.ext HE2.out)).mono ?_
  rintro e w3 ⟨pg, rfl, hpc, h3⟩
  have HE3 := Lib.hid (HE2.out.ext h3)
  have HWC3 := Lib.hid (HWC.out.ext h3)
  have HPC := Lib.hid hpc
  clear h3 hpc
  have hlt3 : pg < w3.heap.size := by
    have := HPC.out 0 (by omega)
    exact World.block_lt_of_cell? w3 _ this
  go_wp2_with fail
  have hb4 := alloc0 w3 (.cells #[.slice (some ⟨pg, 0, none⟩) (rest.length + 1) (rest.length + 1)] 60)
  have HE4 : Hid (Ext w3 (w3.alloc (.cells #[.slice (some ⟨pg, 0, none⟩) (rest.length + 1) (rest.length + 1)] 60))) := (Upd.refl _ w3).alloc _
  generalize w3.alloc (.cells #[.slice (some ⟨pg, 0, none⟩) (rest.length + 1) (rest.length + 1)] 60) = w4 at *
  have HB4 := Lib.hid hb4
  have HPC4 : Hid (∀ j, j < rest.length + 1 → w4.cell? ⟨pg, j, none⟩ = some (.string ((p0 :: rest).getD j ByteArray.empty))) := fun j hj => cell_ext (HPC.out j hj) HE4.out
  refine (CX.out gw w3.heap.size pg w4 (HWC3.out.ext HE4.out) (cellRow HB4.out 0 _ rfl) (HPC4.out 0 (by omega))).mono ?_
  rintro e w5 ⟨rfl, h5⟩
  have HE5 := Lib.hid h5
  clear h5 hb4
  have h7 := allocOld (HE5.out.heap HB4.out (fun h => h)) (.cells #[.int .i64 c, .slice none 0 0] 40)
  have c7 := cellRow h7 0 _ rfl
  clear h7
  go_wp2_with (with_reducible (refine stop_at (o := ⟨some 28, _, _, _, _, _⟩) ?_))
  refine Stop.go ?_
  have HE6 : Hid (Ext w5 (w5.alloc (.cells #[.int .i64 c, .slice none 0 0] 40))) := (Upd.refl _ w5).alloc _
  have HB6 := Lib.hid (alloc0 w5 (.cells #[.int .i64 c, .slice none 0 0] 40))
  have hsz6 := alloc_size w5 (.cells #[.int .i64 c, .slice none 0 0] 40)
  generalize w5.alloc (.cells #[.int .i64 c, .slice none 0 0] 40) = w6 at *
  have hlt5 : pg < w5.heap.size := by have h1 := HE4.out.size; have h2 := HE5.out.size; omega
  have hPS : SlR (fun k => k < w5.heap.size) w6 1 (.slice (some ⟨pg, 0, none⟩) (rest.length + 1) (rest.length + 1)) (rest.length + 1) ((p0 :: rest).map Value.string) :=
    SlR.mk' (by simp) rfl (Nat.le_refl _) (fun _ => hlt5) (fun j hj => by
      rw [Nat.zero_add, cell_ext (cell_ext (HPC4.out j (by omega)) HE5.out) HE6.out]
      have hj2 : j < (p0 :: rest).length := by simp; omega
      rw [List.getElem?_map, List.getD_eq_getElem?_getD, List.getElem?_eq_getElem hj2]
      rfl)
  refine wpList_slice_from w6 rfl 60 _ _ rfl 1 (by kernel_rfl) (fun _ => by kernel_rfl) _ _ _ _ rfl hPS 1 .i64 1 rfl rfl (by omega) (fun sv hsv => ?_)
  have HPS : Hid (SlR (fun k => k < w5.heap.size) w6 1 sv rest.length (rest.map Value.string)) := by
    rw [Nat.add_sub_cancel] at hsv
    exact hsv
  obtain ⟨sa, sc, hsv2⟩ := HPS.out.shape
  subst hsv2
  have HZ6 : Hid (w6.heap[w.heap.size]? = some (.cells #[.int .i64 0, .slice none 0 0] 40)) := HB.out _ ((HE3.out.ext HE4.out).ext (HE5.out.ext HE6.out))
  clear hPS hsv c7
  have HW6 : Hid (Ext w w6) := HZ.out.ext ((HE3.out.ext HE4.out).ext (HE5.out.ext HE6.out))
  have hle5 : w.heap.size < w5.heap.size := by
    have h1 := ((HE3.out.ext HE4.out).ext HE5.out).size
    rw [alloc_size] at h1
    omega
  clear HE2 HE3 HE4 HE5 HE6 HWC HWC3 HPC HPC4 HB4 CW CS CX HB HZ
  generalize hB5 : w5.heap.size = B at *
  have hB6 : B < w6.heap.size := by omega
  clear hsz6 hB5
  have NGa := Lib.hid (fun (o : OpM) (h : Good kind t o) => good_at HPR.out h)
  go_wp2_with fail
  go_loopg [30] rest.length (fun gk i wr => ∃ (j : Nat) (vals : List Int) (av : Value), i = .int .i64 j ∧ gk = rest.length - j ∧ j ≤ rest.length ∧ vals.length = j ∧ j ≤ 65 ∧ Hid (∀ i, i < j → Lib.atoiAll (rest.getD i ByteArray.empty).data.toList = .ok (vals.getD i 0)) ∧
    Hid (Upd (fun k => k = B) w6 wr) ∧ Hid (wr.heap[B]? = some (.cells #[.int .i64 c, av] 40 (0, 0))) ∧ Hid (wr.ownsRow w6.heap.size 3 1 av j (nums vals)))
  case atStart => exact ⟨0, [], .slice none 0 0, rfl, rfl, Nat.zero_le _, rfl, Nat.zero_le _, fun i h => absurd h (Nat.not_lt_zero _), Upd.refl _ _, HB6.out, World.ownsRow_nil _ _ _ _⟩
  case round =>
    obtain ⟨j, vals, av, rfl, rfl, hj, hvl, h65, HV, HU, HO, HA⟩ := hrel
    have HZr := Lib.hid (HU.out.heap HZ6.out (by omega))
    have HWr := Lib.hid (ext_upd HW6.out HU.out (fun k hk => by omega))
    have hszr := HU.out.size
    obtain ⟨aa, ac, hav⟩ := own_shape HA.out
    subst hav
    by_cases hlt : j < rest.length
    · have hq := HPS.out.kept HU.out (fun k hk h => by omega)
      obtain ⟨sg, soff, scap, hsv, hsc, hsg, hsj⟩ := hq.pos (by omega)
      injection hsv with e1 e2 e3
      subst e1; subst e3
      have c0 := hsj j (by omega)
      rw [List.getElem?_map, List.getElem?_eq_getElem hlt, Option.map_some] at c0
      have hgd : rest.getD j ByteArray.empty = rest[j] := by simp [hlt]
      rw [← hgd] at c0
      have i0' : (0 : Int) ≤ (j : Int) := by omega
      have i1' : (j : Int) < (rest.length : Int) := by omega
      have HCA := Lib.hid (CA.out j wr hlt HWr.out)
      clear hq hsg hsj e2 hgd
      have HXJ : Hid (∀ v, Lib.atoiAll (rest.getD j ByteArray.empty).data.toList = .ok v → ∀ i, i < j + 1 → Lib.atoiAll (rest.getD i ByteArray.empty).data.toList = .ok ((vals ++ [v]).getD i 0)) := fun v hv i hi => by
        by_cases e : i = j
        · subst e
          rw [hv]
          congr 1
          simp [← hvl]
        · rw [HV.out i (by omega)]
          congr 1
          have : i < vals.length := by omega
          simp [List.getElem?_append_left this]
      have hng : (∀ v, Lib.atoiAll (rest.getD j ByteArray.empty).data.toList ≠ .ok v) → ∀ o, ¬ Good kind t o := fun h o ho => by
        obtain ⟨v, hv⟩ := (NGa.out o ho).2 j hlt
        exact h v hv
      rcases HCA.out with ⟨v, hv, hcall⟩ | ⟨hv, v, hcall⟩
      · have HCC := Lib.hid hcall
        have HXV := Lib.hid (HXJ v hv)
        have HBV := Lib.hid (Lib.atoiAll_bounds hv)
        clear hcall HCA hng HXJ
        by_cases h64 : 64 < j
        · have NG : Hid (∀ o, ¬ Good kind t o) := fun o ho => by
            have := (NGa.out o ho).1
            omega
          have t1 : decide ((64 : Int) < (j : Int)) = true := decide_eq_true (by omega)
          have t2 : decide (64 < j) = true := decide_eq_true h64
          clear hv
          generalize rest.getD j ByteArray.empty = Y at *
          go_wp2_with fail
          refine HCC.out.mono ?_
          rintro e w9 ⟨rfl, h9⟩
          have HE9 := Lib.hid h9
          have hb9 := HE9.out.heap HO.out (fun h => h)
          have c8 := cellRow hb9 0 _ rfl
          have c9 := cellRow hb9 1 _ rfl
          clear h9 c0 hb9
          have hz6 := HE9.out.heap HZr.out (fun h => h)
          have z0 := cellRow hz6 0 _ rfl
          have z1 := cellRow hz6 1 _ rfl
          have m0 := frozenRow hz6 0
          have m1 := frozenRow hz6 1
          have hfin := setBlock (setBlock hz6 0 (.int .i64 0)) 1 (.slice none 0 0)
          have y0 := cellRow hfin 0 _ rfl
          have y1 := cellRow hfin 1 _ rfl
          clear hz6 hfin
          simp at y0 y1
          go_wp2_with fail
          refine bodyPost_ret (v := .tuple #[.agg #[.int .i64 0, .slice none 0 0], .int .i64 7]) (by simp [results, Tryz.results23, go_sem, z0, z1, y0, y1]) rfl (Or.inr ⟨NG.out, rfl, ?_⟩)
          exact ((HWr.out.ext HE9.out).setNew (Nat.le_refl _) _).setNew (Nat.le_refl _) _
        · have t1 : decide ((64 : Int) < (j : Int)) = false := decide_eq_false (by omega)
          have t2 : decide (64 < j) = false := decide_eq_false h64
          have vb := HBV.out
          clear hv
          generalize rest.getD j ByteArray.empty = Y at *
          go_wp2_with fail
          refine HCC.out.mono ?_
          rintro e w9 ⟨rfl, h9⟩
          have HE9 := Lib.hid h9
          have hb9 := HE9.out.heap HO.out (fun h => h)
          have c8 := cellRow hb9 0 _ rfl
          have c9 := cellRow hb9 1 _ rfl
          have HB9 := Lib.hid hb9
          have HA9 := Lib.hid (own_kept HA.out HE9.out (fun _ _ h => h))
          have HU9 := Lib.hid (HU.out.ext HE9.out)
          have hsz9 := HU9.out.size
          clear h9 c0 hb9
          go_wp2_with (at_builtin; refine wpList_append_at _ rfl (.tmp 49) (.tmp 51) 38 rfl w6.heap.size 3 i0 (.int .i64 0) 1 8 Tryz.underlying38 hi hz0 hz1 hz2 rfl (by decide) _ _ _ rfl (own_alloc HA9.out _) ⟨w9.heap.size, 0, none⟩ 1 1 [.int .i64 v] rfl rfl ?c1 ?c2 ?c3 ?c4 ?c5 ?_)
          case c1 =>
            intro k u hj
            match k, hj with
            | 0, hj => simp at hj; subst hj; simp [Addr.add]
          case c2 => intro u hu; simp at hu; subst hu; rfl
          case c3 => unfold maxLen; omega
          case c4 => omega
          case c5 => simp; omega
          intro av' w10 hG
          have HG := Lib.hid hG
          have HU10 : Hid (Upd (fun k => k = B) w6 w10) := (HU9.out.alloc _).trans' HG.out.upd (fun k hk he => by
            have h1 := HA9.out.lt k (by simpa [Value.ownBlock] using he)
            omega)
          have hb10 : w10.heap[B]? = some (.cells #[.int .i64 c, .slice aa j ac] 40 (0, 0)) := HG.out.upd.heap (allocOld HB9.out _) (fun he => by
            have h1 := HA9.out.lt B (by simpa [Value.ownBlock] using he)
            omega)
          have HB10 := Lib.hid hb10
          have m1 := frozenRow hb10 1
          have m0 := cellRow hb10 1 _ rfl
          obtain ⟨ba, bc, hbv⟩ := own_shape HG.out.own
          subst hbv
          have HA10 := Lib.hid HG.out.own
          have hne10 := HG.out.where_
          have HW10 : Hid ((Value.slice ba (j + 1) bc).ownBlock ≠ some B) := fun h => by
            have h1 := HA10.out.lt B h
            omega
          clear hG hb10 c8 c9 hne10
          go_wp2_with fail
          go_roundg (rest.length - (j + 1))
          case measure => omega
          case rel =>
            refine ⟨j + 1, vals ++ [v], .slice ba (j + 1) bc, by go_num, rfl, by omega, by simp [hvl], by omega, HXV, HU10.out.setCell (p := ⟨B, 1, none⟩) (.inl rfl) _, ?_, ?_⟩
            · exact setBlock HB10.out 1 (.slice ba (j + 1) bc)
            · rw [nums_append]
              exact own_kept HA10.out (updAt (w := w10) (g := B) (j := 1) _) (fun k hk he => HW10.out (by rw [hk, he]))
      · have NG := Lib.hid (hng hv)
        have HCC := Lib.hid hcall
        clear hcall HCA hng hv HXJ
        generalize rest.getD j ByteArray.empty = Y at *
        go_wp2_with fail
        refine HCC.out.mono ?_
        rintro e w9 ⟨q, rfl, h9⟩
        have HE9 := Lib.hid h9
        clear h9 c0
        have hz6 := HE9.out.heap HZr.out (fun h => h)
        have z0 := cellRow hz6 0 _ rfl
        have z1 := cellRow hz6 1 _ rfl
        have m0 := frozenRow hz6 0
        have m1 := frozenRow hz6 1
        have hfin := setBlock (setBlock hz6 0 (.int .i64 0)) 1 (.slice none 0 0)
        have y0 := cellRow hfin 0 _ rfl
        have y1 := cellRow hfin 1 _ rfl
        clear hz6 hfin
        simp at y0 y1
        go_wp2_with fail
        refine bodyPost_ret (v := .tuple #[.agg #[.int .i64 0, .slice none 0 0], .int .i64 7]) (by simp [results, Tryz.results23, go_sem, z0, z1, y0, y1]) rfl (Or.inr ⟨NG.out, rfl, ?_⟩)
        exact ((HWr.out.ext HE9.out).setNew (Nat.le_refl _) _).setNew (Nat.le_refl _) _
    · obtain rfl : j = rest.length := by omega
      have HNV : Hid (NumR (fun k => w6.heap.size ≤ k) wr (.slice aa rest.length ac) vals) := by
        unfold NumR
        rw [hvl]
        exact (SlR.of_own HA.out).weaken (fun k hk => (HA.out.lt k (by simpa [Value.ownBlock] using hk)).1)
      have CT2 := Lib.hid (CT.out vals _ wr _ HNV.out (by omega) HWr.out)
      have HGE : Hid (∀ o, Good kind t o → (⟨c, vals⟩ : OpM) = o) := fun o ho => by
        rw [← HC.out]
        exact good_eq ho HPR.out hvl (fun i hi => HV.out i (by omega))
      have c8 := cellRow HO.out 0 _ rfl
      have c9 := cellRow HO.out 1 _ rfl
      go_wp2_with fail
      refine CT2.out.mono ?_
      rintro e w9 (⟨hv, rfl, h9⟩ | ⟨hv, rfl, h9⟩)
      · have HE9 := Lib.hid h9
        have NG : Hid (∀ o, ¬ Good kind t o) := fun o ho => by
          have h1 := HGE.out o ho
          have h2 := ho.1
          rw [← h1, hv] at h2
          cases h2
        clear h9 c8 c9 hv
        have hz6 := HE9.out.heap HZr.out (fun h => h)
        have z0 := cellRow hz6 0 _ rfl
        have z1 := cellRow hz6 1 _ rfl
        have m0 := frozenRow hz6 0
        have m1 := frozenRow hz6 1
        have hfin := setBlock (setBlock hz6 0 (.int .i64 0)) 1 (.slice none 0 0)
        have y0 := cellRow hfin 0 _ rfl
        have y1 := cellRow hfin 1 _ rfl
        clear hz6 hfin
        simp at y0 y1
        go_wp2_with fail
        refine bodyPost_ret (v := .tuple #[.agg #[.int .i64 0, .slice none 0 0], .int .i64 7]) (by simp [results, Tryz.results23, go_sem, z0, z1, y0, y1]) rfl (Or.inr ⟨NG.out, rfl, ?_⟩)
        exact ((HWr.out.ext HE9.out).setNew (Nat.le_refl _) _).setNew (Nat.le_refl _) _
      · have HE9 := Lib.hid h9
        obtain ⟨T, hT⟩ : ∃ T, bs (opT kind ⟨c, vals⟩) = T := ⟨_, rfl⟩
        rw [hT]
        by_cases hTt : T = t
        · have HGG : Hid (Good kind t ⟨c, vals⟩) := ⟨hv, by rw [hT, hTt]⟩
          have t1 : (T.toList == t.toList) = true := (Lib.bytes_beq_iff _ _).2 hTt
          have t2 : (T.toList != t.toList) = false := by rw [bne, t1]; rfl
          have hz6 := HE9.out.heap HZr.out (fun h => h)
          have z0 := cellRow hz6 0 _ rfl
          have z1 := cellRow hz6 1 _ rfl
          have m0 := frozenRow hz6 0
          have m1 := frozenRow hz6 1
          have hb9 := HE9.out.heap HO.out (fun h => h)
          have d8 := cellRow hb9 0 _ rfl
          have d9 := cellRow hb9 1 _ rfl
          have hfin := setBlock (setBlock hz6 0 (.int .i64 c)) 1 (.slice aa rest.length ac)
          have y0 := cellRow hfin 0 _ rfl
          have y1 := cellRow hfin 1 _ rfl
          clear hz6 hfin hb9 h9 c8 c9 hv hT hTt
          simp at y0 y1
          go_wp2_with fail
          refine bodyPost_ret (v := .tuple #[.agg #[.int .i64 c, .slice aa rest.length ac], .int .i64 0]) (by simp [results, Tryz.results23, go_sem, z0, z1, y0, y1]) rfl (Or.inl ⟨⟨c, vals⟩, _, HGG.out, rfl, ?_, ?_⟩)
          · have hk1 := (HNV.out.kept HE9.out (fun _ _ h => h)).kept (updAt (w := w9) (g := w.heap.size) (j := 0) (.int .i64 c)) (fun k hk he => by omega)
            have hk2 := SlR.kept hk1 (updAt (g := w.heap.size) (j := 1) (.slice aa rest.length ac)) (fun k hk he => by omega)
            exact SlR.weaken hk2 (fun k hk => by omega)
          · exact ((HWr.out.ext HE9.out).setNew (Nat.le_refl _) _).setNew (Nat.le_refl _) _
        · have NG : Hid (∀ o, ¬ Good kind t o) := fun o ho => by
            have h1 := HGE.out o ho
            have h2 := ho.2
            rw [← h1, hT] at h2
            exact hTt h2
          have t1 : (T.toList == t.toList) = false := (Lib.bytes_beq_false_iff _ _).2 hTt
          have t2 : (T.toList != t.toList) = true := by rw [bne, t1]; rfl
          clear h9 c8 c9 hv hT hTt
          have hz6 := HE9.out.heap HZr.out (fun h => h)
          have z0 := cellRow hz6 0 _ rfl
          have z1 := cellRow hz6 1 _ rfl
          have m0 := frozenRow hz6 0
          have m1 := frozenRow hz6 1
          have hfin := setBlock (setBlock hz6 0 (.int .i64 0)) 1 (.slice none 0 0)
          have y0 := cellRow hfin 0 _ rfl
          have y1 := cellRow hfin 1 _ rfl
          clear hz6 hfin
          simp at y0 y1
          go_wp2_with fail
          refine bodyPost_ret (v := .tuple #[.agg #[.int .i64 0, .slice none 0 0], .int .i64 7]) (by simp [results, Tryz.results23, go_sem, z0, z1, y0, y1]) rfl (Or.inr ⟨NG.out, rfl, ?_⟩)
          exact ((HWr.out.ext HE9.out).setNew (Nat.le_refl _) _).setNew (Nat.le_refl _) _

end Go.Proofs.YthpekfpeoglbgaaGreatDoor
