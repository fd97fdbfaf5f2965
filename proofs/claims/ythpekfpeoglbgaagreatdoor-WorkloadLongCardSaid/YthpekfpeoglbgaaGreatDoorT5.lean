/- The text of an operation. -/
import Derived.Test.YthpekfpeoglbgaaGreatDoorT4
import Derived.Test.YthpekfpeoglbgaaGreatDoorW3
namespace Go.Proofs.YthpekfpeoglbgaaGreatDoor
open Go.RowKit Go.Hw
set_option linter.unusedVariables false
set_option linter.unusedSimpArgs false

def argT (l : List Int) : List UInt8 := l.flatMap fun n => 32 :: Lib.itoa n
theorem argT_take (l : List Int) (j : Nat) (h : j < l.length) : argT (l.take (j + 1)) = argT (l.take j) ++ (32 :: Lib.itoa (l.getD j 0)) := by
  unfold argT
  rw [List.take_succ_eq_append_getElem h, List.flatMap_append]
  simp [List.getD_eq_getElem?_getD, h]
theorem argT_len {l : List Int} (h : ∀ n ∈ l, keyB n = true) (j : Nat) : (argT (l.take j)).length ≤ 22 * l.length := by
  have h1 := fm_len (l := l.take j) (fun n hn => h n (List.mem_of_mem_take hn))
  have h2 : (l.take j).length ≤ l.length := by rw [List.length_take]; omega
  unfold argT
  omega
theorem opT_eq (kind : Int) (o : OpM) : opT kind o = wN kind o.code ++ argT o.args := rfl
theorem below_tr {a b c : World} (h : Ext a b) (k : Below a.heap.size b c) : Ext a c :=
  ⟨k.os.trans h.os, k.tape.trans h.tape, k.output.trans h.output, Nat.le_trans h.size k.size, fun i hi _ => (k.block i hi).trans (h.block i hi (fun x => x))⟩
theorem text_bad (kind : Int) (o : OpM) (v : Value) (w : World) (S : Nat → Prop) (h : NumR S w v o.args) (hl : o.args.length ≤ 100000000) (hv : validOp kind o = false) : Calls Tryz.prog 29 #[.int .i64 kind, .agg #[.int .i64 o.code, v]] w fun e w' => e = .returned (.tuple #[.string ⟨#[]⟩, .int .i64 1]) ∧ Ext w w' := by
  obtain ⟨a, cap, hvs⟩ := h.shape
  have HC : Hid (∀ W, Ext w W → Calls Tryz.prog 37 #[.int .i64 kind, .agg #[.int .i64 o.code, v]] W fun e w' => e = .returned (.bool false) ∧ Ext W w') := fun W hW => by
    have := vop_any kind o v W S (h.kept hW (fun _ _ h => h)) hl
    rw [hv] at this; exact this
  subst hvs
  have HE0 : Hid (Ext w (w.alloc (.cells #[.int .i64 o.code, .slice a o.args.length cap] 40))) := (Upd.refl _ w).alloc _
  have hb := alloc0 w (.cells #[.int .i64 o.code, .slice a o.args.length cap] 40)
  have k0 := cellRow hb 0 _ rfl
  have k1 := cellRow hb 1 _ rfl
  generalize o.code = X at *
  generalize o.args.length = Y at *
  clear hb hv h
  go_enter Tryz.func29, Tryz.ntmps29
  go_wp2_with fail
  refine (HC.out _ HE0.out).mono ?_
  rintro e w4 ⟨rfl, h4⟩
  have H4 := Lib.hid (HE0.out.ext h4)
  clear h4 k0 k1
  go_wp2_with fail
  go_ret2
  exact ⟨rfl, H4.out⟩
set_option maxRecDepth 100000 in
theorem text_ok (kind : Int) (o : OpM) (v : Value) (w : World) (S : Nat → Prop) (h : NumR S w v o.args) (htab : Lib.TabIs Tryz.prog w "internal/strconv.uint64pow10" .u64 Lib.pow10Tab) (hv : validOp kind o = true) : Calls Tryz.prog 29 #[.int .i64 kind, .agg #[.int .i64 o.code, v]] w fun e w' => e = .returned (.tuple #[.string (bs (opT kind o)), .int .i64 0]) ∧ Ext w w' := by
  obtain ⟨a, cap, hvs⟩ := h.shape
  obtain ⟨hal, hak, hc1, hc2⟩ := valid_args hv
  have hkk : 1 ≤ kind ∧ kind ≤ 6 := (nW_known kind).1 (by omega)
  have HC : Hid (∀ W, Ext w W → Calls Tryz.prog 37 #[.int .i64 kind, .agg #[.int .i64 o.code, v]] W fun e w' => e = .returned (.bool true) ∧ Ext W w') := fun W hW => by
    have := vop_any kind o v W S (h.kept hW (fun _ _ h => h)) (by omega)
    rw [hv] at this; exact this
  have HN := Lib.hid h
  have CW : Hid (∀ W : World, Calls Tryz.prog 47 #[.int .i64 kind] W fun e w' => ∃ v, e = .returned v ∧ WordsN kind W w' v) := fun W => wordsN_known kind W hkk
  have CI : Hid (∀ (n : Int) (W : World), n ∈ o.args → Ext w W → Calls Tryz.prog 58 #[.int .i64 n] W fun e w' => e = .returned (.string (bs (Lib.itoa n))) ∧ Ext W w') := fun n W hn hW => by
    have := hak n hn
    unfold keyB at this
    have := of_decide_eq_true this
    exact itoa_x n W (by omega) (by omega) (tab_ext htab hW)
  have HAK := Lib.hid hak
  have hLen := argT_len hak
  have HLEN := Lib.hid hLen
  have hwl := wN_len kind o.code
  obtain ⟨c, hc⟩ : ∃ c : Nat, o.code = (c : Int) + 1 := ⟨(o.code - 1).toNat, by omega⟩
  have hwn : wN kind o.code = (wNm kind).getD c [] := by unfold wN; rw [hc]; congr 1; omega
  rw [opT_eq]
  rw [hwn] at hwl ⊢
  generalize hNM : (wNm kind).getD c [] = NM at *
  have hcn : c < nW kind := by omega
  have hn8 := nW_le kind
  rw [hc] at HC ⊢
  clear hLen hc hc1 hc2 hwn hv h hak htab
  generalize o.args = args at *
  subst hvs
  have HE0 : Hid (Ext w (w.alloc (.cells #[.int .i64 ((c : Int) + 1), .slice a args.length cap] 40))) := (Upd.refl _ w).alloc _
  have hb := alloc0 w (.cells #[.int .i64 ((c : Int) + 1), .slice a args.length cap] 40)
  have k0 := cellRow hb 0 _ rfl
  have k1 := cellRow hb 1 _ rfl
  have HX : Hid (∀ W, Ext (w.alloc (.cells #[.int .i64 ((c : Int) + 1), .slice a args.length cap] 40)) W → W.cell? ⟨w.heap.size, 0, none⟩ = some (.int .i64 ((c : Int) + 1)) ∧ W.cell? ⟨w.heap.size, 1, none⟩ = some (.slice a args.length cap)) := fun W hW => ⟨cellRow (hW.heap hb (fun h => h)) 0 _ rfl, cellRow (hW.heap hb (fun h => h)) 1 _ rfl⟩
  have u1 : IntKind.i64.wrap ((c : Int) + 1 - 1) = (c : Int) := by rw [show (c : Int) + 1 - 1 = c by omega]; exact IntWalk.i64_in _ (by omega)
  have u2 : (c : Int) + 1 - 1 = (c : Int) := by omega
  have u5 : IntKind.i64.wrap (c : Int) = (c : Int) := IntWalk.i64_in _ (by omega)
  have u3 : (0 : Int) ≤ (c : Int) := by omega
  have u4 : (c : Int) < (nW kind : Int) := by omega
  have hsz : w.heap.size < (w.alloc (.cells #[.int .i64 ((c : Int) + 1), .slice a args.length cap] 40)).heap.size := by simp
  clear hb
  go_enter Tryz.func29, Tryz.ntmps29
  go_wp2_with fail
  refine (HC.out _ HE0.out).mono ?_
  rintro e w4 ⟨rfl, h4⟩
  have HE4 := Lib.hid h4
  have hB4 := HE4.out.size
  clear h4 k0 k1
  obtain ⟨k0, k1⟩ := HX.out _ HE4.out
  go_wp2_with fail
  have HB5 : Hid (BdR w4.heap.size w4.heap.size [] (w4.alloc (.cells #[.pointer none, .slice none 0 0] 71))) := BdR.new _ _ (Nat.le_refl _)
  have HE5 : Hid (Ext w4 (w4.alloc (.cells #[.pointer none, .slice none 0 0] 71))) := (Upd.refl _ w4).alloc _
  generalize w4.alloc (.cells #[.pointer none, .slice none 0 0] 71) = w5 at *
  have HX4 : Hid (∀ W, Ext w4 W → W.cell? ⟨w.heap.size, 0, none⟩ = some (.int .i64 ((c : Int) + 1)) ∧ W.cell? ⟨w.heap.size, 1, none⟩ = some (.slice a args.length cap)) := fun W hW => HX.out W (HE4.out.ext hW)
  clear k0 k1
  obtain ⟨k0, k1⟩ := HX4.out _ HE5.out
  have hX0 : ∀ x : XW w5, x.val.cell? ⟨w.heap.size, 0, none⟩ = some (.int .i64 ((c : Int) + 1)) := fun x => x.ext.cell k0 (fun h => h)
  refine wp_region_par (α := Nat) 8 [(8, 2)] [[], [0], [], [2], [2, 3], [0, 1, 2, 3, 4], [0, 1, 2, 3, 4, 5], [0, 1, 2, 3, 4, 5, 6], [0, 1, 2, 3, 4, 5, 6, 7]]
    [none, some ⟨fun g => .slice (some ⟨g, 0, none⟩) (nW kind) (nW kind), fun g W => W.cell? ⟨g, c * 3, none⟩ = some (.string (bs NM)), fun g W W' h hE => hE.cell h (fun h => h)⟩, none, none, none, none, none, none]
    [false, true, false, false, false, false, false, false] (by kernel_rfl) (by kernel_rfl) rfl (fun _ _ d _ _ h => by cases d <;> exact h) ?_
  simp only [List.take_succ_cons, List.take_zero, pickO, List.getElem?_cons_zero, List.getElem?_cons_succ]
  refine can_pure0 rfl (fun K hK => ?_); go_simp; refine hK _ ?_; clear hK K
  refine can_mem _ rfl (by go_simp) (fun W hW hG K hK => ?_) (fun K g hK => ?_)
  · go_simp
    refine (CW.out W).mono ?_
    rintro e w' ⟨vv, rfl, hwn⟩
    obtain ⟨g, rfl, hcell⟩ := hwn.row
    have h1 := hcell c hcn
    rw [hNM] at h1
    exact hK g w' hwn.ext h1
  refine hK _ ?_; clear hK K
  dsimp only
  iterate 5 (refine can_pure0 rfl (fun K hK => ?_); go_simp; refine hK _ ?_; clear hK K)
  refine can_pure rfl (fun K' hK => ?_)
  go_simp
  refine ⟨.string (bs NM), fun W hW hG => ?_, ?_⟩
  · go_simp
  refine hK _ ?_; clear hK K'
  refine can_end (fun w6 hW hG => ?_)
  clear hG hX0 k0 k1
  have HE6 := Lib.hid (HE5.out.ext hW)
  have HB6 := Lib.hid (HB5.out.ext hW)
  have hsz6 := HE6.out.size
  clear hW
  obtain ⟨k0, k1⟩ := HX4.out _ HE6.out
  refine mix_two (fun K hK => ?_)
  go_simp
  refine (write_x _ _ _ NM _ HB6.out (by simp; omega) hsz6).mono ?_
  rintro e w7 ⟨rfl, h71, h72⟩
  refine hK _ _ ?_; clear hK K
  have HE7 := Lib.hid (below_tr HE6.out h72)
  have HB7 := Lib.hid h71
  clear h71 h72 k0 k1 hsz6
  obtain ⟨k0, k1⟩ := HX4.out _ HE7.out
  simp only [wpMix]
  go_wp2_with fail
  go_loopg [25] args.length (fun gk i wr => ∃ j : Nat, i = .int .i64 j ∧ gk = args.length - j ∧ j ≤ args.length ∧ Hid (BdR w4.heap.size w4.heap.size (NM ++ argT (args.take j)) wr) ∧ Hid (Ext w4 wr))
  case atStart => exact ⟨0, rfl, rfl, Nat.zero_le _, Lib.hid (by simpa [argT] using HB7.out), HE7⟩
  case round =>
    obtain ⟨j, rfl, rfl, hj, HB, HE⟩ := hrel
    have hsz8 := HE.out.size
    have hl1 := HLEN.out j
    by_cases hlt : j < args.length
    · have hq : SlR S wr 1 (.slice a args.length cap) args.length (nums args) := HN.out.kept (HE0.out.ext (HE4.out.ext HE.out)) (fun _ _ h => h)
      obtain ⟨g, off, cap', hv, hc, hg, hcc⟩ := hq.pos (by omega)
      injection hv with e1 e2 e3
      subst e1; subst e3
      have c0 := hcc j (by omega)
      rw [nums_get _ _ hlt] at c0
      have hmem := getD_mem0 hlt
      have HT := Lib.hid (argT_take args j hlt)
      have CI2 := Lib.hid (fun W (hW : Ext wr W) => CI.out _ W hmem (HE0.out.ext (HE4.out.ext (HE.out.ext hW))))
      have hkx := itoa_len (HAK.out _ hmem)
      have hkb := bs_size (Lib.itoa (args.getD j 0))
      obtain ⟨R, hR⟩ : ∃ R, (⟨#[32]⟩ : ByteArray) ++ bs (Lib.itoa (args.getD j 0)) = R := ⟨_, rfl⟩
      have HR : Hid (R = bs (32 :: Lib.itoa (args.getD j 0))) := by rw [← hR]; exact bs_app [32] _
      have HR2 := Lib.hid hR
      clear hR hg hq hcc hmem e2 hc
      have i0' : (0 : Int) ≤ (j : Int) := by omega
      have i1' : (j : Int) < (args.length : Int) := by omega
      generalize args.getD j 0 = x at *
      generalize Lib.itoa x = X at *
      have s1 : ¬ (9223372036854775807 < 1 + (bs X).size) := by omega
      go_wp2_with fail
      refine (CI2.out _ (Upd.refl _ _)).mono ?_
      rintro e w8 ⟨rfl, h8⟩
      have HE8 := Lib.hid (HE.out.ext h8)
      have HB8 := Lib.hid (HB.out.ext h8)
      have hsz9 := HE8.out.size
      clear h8 hsz8 c0
      have hR2 := HR2.out
      go_wp2_with fail
      clear hR2
      rw [HR.out]
      refine (write_x _ _ _ (32 :: X) _ HB8.out (by simp; omega) hsz9).mono ?_
      rintro e w9 ⟨rfl, h91, h92⟩
      have HE9 := Lib.hid (below_tr HE8.out h92)
      have HB9 : Hid (BdR w4.heap.size w4.heap.size (NM ++ argT (args.take (j + 1))) w9) := Lib.hid (by rw [HT.out, ← List.append_assoc]; exact h91)
      clear h91 h92 hsz9
      go_wp2_with fail
      go_roundg (args.length - (j + 1))
      case measure => omega
      case rel => exact ⟨j + 1, by go_num, rfl, by omega, HB9, HE9⟩
    · obtain rfl : j = args.length := by omega
      have HB2 := HB.out
      rw [List.take_length] at HB2
      have HB3 := Lib.hid HB2
      clear HB2 HB
      go_wp2_with fail
      refine (bstr_x _ _ _ _ HB3.out hsz8).mono ?_
      rintro e w9 ⟨rfl, h92⟩
      have HE9 := Lib.hid (below_tr HE.out h92)
      clear h92 hsz8
      go_wp2_with fail
      go_ret2
      exact ⟨rfl, HE0.out.ext (HE4.out.ext HE9.out)⟩

/-- heartwoodref03.Text -/
theorem rtext_ok (kind : Int) (o : OpM) (v : Value) (w : World) (S : Nat → Prop) (h : NumR S w v o.args) (hv : validOp kind o = true) : Calls Tryz.prog 55 #[.int .i64 kind, .agg #[.int .i64 o.code, v]] w fun e w' => e = .returned (.string (bs (opT kind o))) ∧ Ext w w' := by
  obtain ⟨a, cap, hvs⟩ := h.shape
  obtain ⟨hal, hak, hc1, hc2⟩ := valid_args hv
  have hkk : 1 ≤ kind ∧ kind ≤ 6 := (nW_known kind).1 (by omega)
  have HN := Lib.hid h
  have CW : Hid (∀ W : World, Calls Tryz.prog 53 #[.int .i64 kind] W fun e w' => ∃ v, e = .returned v ∧ RNames kind W w' v) := fun W => rnames_known kind W hkk
  have CI : Hid (∀ (n : Int) (W : World), n ∈ o.args → Calls Tryz.prog 78 #[.int .i64 n] W fun e w' => e = .returned (.string (bs (Lib.itoa n))) ∧ Ext W w') := fun n W hn => by
    have := hak n hn
    unfold keyB at this
    have := of_decide_eq_true this
    exact dec_x n W (by omega) (by omega)
  have HAK := Lib.hid hak
  have hLen := argT_len hak
  have HLEN := Lib.hid hLen
  have hwl := wN_len kind o.code
  obtain ⟨c, hc⟩ : ∃ c : Nat, o.code = (c : Int) + 1 := ⟨(o.code - 1).toNat, by omega⟩
  have hwn : wN kind o.code = (wNm kind).getD c [] := by unfold wN; rw [hc]; congr 1; omega
  rw [opT_eq]
  rw [hwn] at hwl ⊢
  generalize hNM : (wNm kind).getD c [] = NM at *
  have hcn : c < nW kind := by omega
  have hn8 := nW_le kind
  rw [hc]
  clear hLen hc hc1 hc2 hwn hv h hak
  generalize o.args = args at *
  subst hvs
  have HE0 : Hid (Ext w (w.alloc (.cells #[.int .i64 ((c : Int) + 1), .slice a args.length cap] 40))) := (Upd.refl _ w).alloc _
  have hb := alloc0 w (.cells #[.int .i64 ((c : Int) + 1), .slice a args.length cap] 40)
  have k0 := cellRow hb 0 _ rfl
  have k1 := cellRow hb 1 _ rfl
  have HX : Hid (∀ W, Ext (w.alloc (.cells #[.int .i64 ((c : Int) + 1), .slice a args.length cap] 40)) W → W.cell? ⟨w.heap.size, 0, none⟩ = some (.int .i64 ((c : Int) + 1)) ∧ W.cell? ⟨w.heap.size, 1, none⟩ = some (.slice a args.length cap)) := fun W hW => ⟨cellRow (hW.heap hb (fun h => h)) 0 _ rfl, cellRow (hW.heap hb (fun h => h)) 1 _ rfl⟩
  have u1 : IntKind.i64.wrap ((c : Int) + 1 - 1) = (c : Int) := by rw [show (c : Int) + 1 - 1 = c by omega]; exact IntWalk.i64_in _ (by omega)
  have u2 : (c : Int) + 1 - 1 = (c : Int) := by omega
  have u5 : IntKind.i64.wrap (c : Int) = (c : Int) := IntWalk.i64_in _ (by omega)
  have u3 : (0 : Int) ≤ (c : Int) := by omega
  have u4 : (c : Int) < (nW kind : Int) := by omega
  clear hb
  go_enter Tryz.func55, Tryz.ntmps55
  go_wp2_with fail
  generalize w.alloc (.cells #[.int .i64 ((c : Int) + 1), .slice a args.length cap] 40) = w5 at *
  have hX0 : ∀ x : XW w5, x.val.cell? ⟨w.heap.size, 0, none⟩ = some (.int .i64 ((c : Int) + 1)) := fun x => x.ext.cell k0 (fun h => h)
  refine wp_region_par (α := Nat) 8 [] [[], [0], [], [2], [2, 3], [0, 1, 2, 3, 4], [0, 1, 2, 3, 4, 5], [0, 1, 2, 3, 4, 5, 6]]
    [none, some ⟨fun g => .slice (some ⟨g, 0, none⟩) (nW kind) (nW kind), fun g W => W.cell? ⟨g, c, none⟩ = some (.string (bs NM)), fun g W W' h hE => hE.cell h (fun h => h)⟩, none, none, none, none, none, none]
    [false, true, false, false, false, false, false, false] (by kernel_rfl) (by kernel_rfl) rfl (fun _ _ d _ _ h => by cases d <;> exact h) ?_
  simp only [List.take_succ_cons, List.take_zero, pickO, List.getElem?_cons_zero, List.getElem?_cons_succ]
  refine can_pure0 rfl (fun K hK => ?_); go_simp; refine hK _ ?_; clear hK K
  refine can_mem _ rfl (by go_simp) (fun W hW hG K hK => ?_) (fun K g hK => ?_)
  · go_simp
    refine (CW.out W).mono ?_
    rintro e w' ⟨vv, rfl, hwn⟩
    obtain ⟨g, rfl, hcell⟩ := hwn.row
    have h1 := hcell c hcn
    rw [hNM] at h1
    exact hK g w' hwn.ext h1
  refine hK _ ?_; clear hK K
  dsimp only
  iterate 4 (refine can_pure0 rfl (fun K hK => ?_); go_simp; refine hK _ ?_; clear hK K)
  refine can_pure rfl (fun K' hK => ?_)
  go_simp
  refine ⟨.string (bs NM), fun W hW hG => ?_, ?_⟩
  · go_simp
  refine hK _ ?_; clear hK K'
  refine can_pure0 rfl (fun K hK => ?_); go_simp; refine hK _ ?_; clear hK K
  refine can_end (fun w6 hW hG => ?_)
  clear hG hX0 k0 k1
  have HE6 := Lib.hid hW
  clear hW
  simp only [wpMix]
  go_wp2_with fail
  go_loopg [5, 6] args.length (fun gk s i wr => ∃ j : Nat, i = .int .i64 j ∧ s = .string (bs (NM ++ argT (args.take j))) ∧ gk = args.length - j ∧ j ≤ args.length ∧ Hid (Ext w5 wr))
  case atStart => exact ⟨0, rfl, by simp [argT], rfl, Nat.zero_le _, HE6⟩
  case round =>
    obtain ⟨j, rfl, rfl, rfl, hj, HE⟩ := hrel
    have hl1 := HLEN.out j
    obtain ⟨k0, k1⟩ := HX.out _ HE.out
    by_cases hlt : j < args.length
    · have hq : SlR S wr 1 (.slice a args.length cap) args.length (nums args) := HN.out.kept (HE0.out.ext HE.out) (fun _ _ h => h)
      obtain ⟨g, off, cap', hv, hc, hg, hcc⟩ := hq.pos (by omega)
      injection hv with e1 e2 e3
      subst e1; subst e3
      have c0 := hcc j (by omega)
      rw [nums_get _ _ hlt] at c0
      have hmem := getD_mem0 hlt
      have HT := Lib.hid (argT_take args j hlt)
      have CI2 := Lib.hid (fun W => CI.out _ W hmem)
      have hkx := itoa_len (HAK.out _ hmem)
      have hkb := bs_size (Lib.itoa (args.getD j 0))
      have hka := bs_size (NM ++ argT (args.take j))
      rw [List.length_append] at hka
      obtain ⟨R1, hR1⟩ : ∃ R, bs (NM ++ argT (args.take j)) ++ (⟨#[32]⟩ : ByteArray) = R := ⟨_, rfl⟩
      obtain ⟨R, hR⟩ : ∃ R, R1 ++ bs (Lib.itoa (args.getD j 0)) = R := ⟨_, rfl⟩
      have HR : Hid (R = bs (NM ++ argT (args.take (j + 1)))) := Lib.hid (by
        rw [HT.out, ← hR, ← hR1]
        have : (⟨#[32]⟩ : ByteArray) = bs [32] := rfl
        rw [this, bs_app, bs_app]
        refine congrArg bs ?_
        simp)
      have hR1s : R1.size = (bs (NM ++ argT (args.take j))).size + 1 := by rw [← hR1, ByteArray.size_append]; rfl
      have HQ1 := Lib.hid hR1
      have HQ := Lib.hid hR
      clear hR hR1 hg hq hcc hmem e2 hc HT
      have i0' : (0 : Int) ≤ (j : Int) := by omega
      have i1' : (j : Int) < (args.length : Int) := by omega
      generalize args.getD j 0 = x at *
      generalize Lib.itoa x = X at *
      generalize bs (NM ++ argT (args.take j)) = A at *
      have s1 : ¬ (9223372036854775807 < A.size + 1) := by omega
      have s2 : ¬ (9223372036854775807 < R1.size + (bs X).size) := by omega
      have q1 := HQ1.out
      have q2 := HQ.out
      go_wp2_with fail
      refine (CI2.out _).mono ?_
      rintro e w8 ⟨rfl, h8⟩
      have HE8 := Lib.hid (HE.out.ext h8)
      clear h8 c0 k0 k1
      go_wp2_with fail
      clear q1 q2
      have hRR := HR.out
      subst hRR
      go_roundg (args.length - (j + 1))
      case measure => omega
      case rel => exact ⟨j + 1, by go_num, rfl, rfl, by omega, HE8⟩
    · obtain rfl : j = args.length := by omega
      have e1 : bs (NM ++ argT (args.take args.length)) = bs (NM ++ argT args) := by rw [List.take_length]
      rw [e1]
      clear e1
      go_wp2_with fail
      go_ret
      exact ⟨rfl, HE0.out.ext HE.out⟩

end Go.Proofs.YthpekfpeoglbgaaGreatDoor
