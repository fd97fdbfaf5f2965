/- workload.Text. -/
import Derived.Test.YthpekfpeoglbgaaGreatDoorT5
import Derived.Test.YthpekfpeoglbgaaGreatDoorW8
namespace Go.Proofs.YthpekfpeoglbgaaGreatDoor
open Go.RowKit Go.Hw
set_option linter.unusedVariables false
set_option linter.unusedSimpArgs false

theorem itoa_chr {n : Int} (h : chrB n = true) : (Lib.itoa n).length ≤ 3 := by
  unfold chrB at h
  have h := of_decide_eq_true h
  have h2 : ∀ k : Fin 256, (Lib.itoa ((k : Nat) : Int)).length ≤ 3 := by decide +kernel
  have := h2 ⟨n.toNat, by omega⟩
  simp only [show ((n.toNat : Nat) : Int) = n by omega] at this
  exact this
theorem fm_len3 {l : List Int} (h : ∀ n ∈ l, chrB n = true) : (l.flatMap fun n => 32 :: Lib.itoa n).length ≤ 4 * l.length := by
  induction l with
  | nil => simp
  | cons a l ih =>
    have h1 := itoa_chr (h a (by simp))
    have h2 := ih (fun n hn => h n (by simp [hn]))
    simp only [List.flatMap_cons, List.length_append, List.length_cons]
    omega
theorem opT_len2 {kind : Int} {o : OpM} (h : validOp kind o = true) : (opT kind o).length ≤ 265 := by
  have h4 := wN_len kind o.code
  have hva := valid_args h
  unfold validOp at h
  rw [Bool.and_eq_true] at h
  obtain ⟨h1, h2⟩ := h
  unfold opT
  rw [List.length_append]
  by_cases ha : ar kind o.code < 0
  · rw [if_pos ha, Bool.and_eq_true] at h2
    have h5 := of_decide_eq_true h2.1
    have := fm_len3 (fun n hn => List.all_eq_true.1 h2.2 n hn)
    omega
  · rw [if_neg ha, Bool.and_eq_true] at h2
    have h5 := of_decide_eq_true h2.1
    have h6 := ar_bd kind o.code
    have := fm_len (fun n hn => hva.2.1 n hn)
    omega
theorem lnT_len2 {kind : Int} {l : List OpM} (h : l.all (validOp kind) = true) : (lnT kind l).length ≤ 266 * l.length := by
  induction l with
  | nil => simp [lnT]
  | cons a l ih =>
    rw [List.all_cons, Bool.and_eq_true] at h
    have h1 := opT_len2 h.1
    have h2 := ih h.2
    unfold lnT at *
    simp only [List.flatMap_cons, List.length_append, List.length_cons, List.length_nil]
    omega
theorem lnT_take (kind : Int) (l : List OpV) (j : Nat) (h : j < l.length) : lnT kind ((opsL l).take (j + 1)) = lnT kind ((opsL l).take j) ++ (opT kind (l.getD j .zero).op ++ [10]) := by
  have h2 : j < (opsL l).length := by rw [opsL_length]; exact h
  rw [List.take_succ_eq_append_getElem h2, lnT_snoc]
  have : (opsL l)[j] = (l.getD j .zero).op := by simp [opsL, h]
  rw [this]
theorem lnT_tlen {kind : Int} {l : List OpM} (h : l.all (validOp kind) = true) (j : Nat) : (lnT kind (l.take j)).length ≤ 266 * l.length := by
  have h1 : (l.take j).all (validOp kind) = true := List.all_eq_true.2 (fun x hx => List.all_eq_true.1 h x (List.mem_of_mem_take hx))
  have h2 := lnT_len2 h1
  have h3 : (l.take j).length ≤ l.length := by rw [List.length_take]; omega
  omega
theorem opV_valid {kind : Int} {l : List OpV} (h : (opsL l).all (validOp kind) = true) {j : Nat} (hj : j < l.length) : validOp kind (l.getD j .zero).op = true :=
  List.all_eq_true.1 h _ (List.mem_map_of_mem (getD_mem hj))
theorem wtext_bad (kind : Int) (v : Value) (l : List OpV) (w : World) (S : Nat → Prop) (h : OpsR S w v l) (hl : l.length ≤ 100000000) (ha : ∀ o ∈ l, o.op.args.length ≤ 100000000) (hv : validL kind (opsL l) = false) : Calls Tryz.prog 10 #[.int .i64 kind, v] w fun e w' => e = .returned (.tuple #[.string ⟨#[]⟩, .int .i64 1]) ∧ Ext w w' := by
  obtain ⟨a, cap, hvs⟩ := h.shape
  have HC : Hid (∀ W, Ext w W → Calls Tryz.prog 14 #[.int .i64 kind, v] W fun e w' => e = .returned (.bool false) ∧ Ext W w') := fun W hW => by
    have := valid_any kind v l W S (h.kept hW (fun _ _ h => h)) hl ha
    rw [hv] at this; exact this
  subst hvs
  clear hv h ha
  go_enter Tryz.func10, Tryz.ntmps10
  go_wp2_with fail
  refine (HC.out _ (Upd.refl _ _)).mono ?_
  rintro e w4 ⟨rfl, h4⟩
  have H4 := Lib.hid h4
  clear h4
  go_wp2_with fail
  go_ret2
  exact ⟨rfl, H4.out⟩
set_option maxRecDepth 100000 in
theorem wtext_ok (kind : Int) (v : Value) (l : List OpV) (w : World) (S : Nat → Prop) (h : OpsR S w v l) (htab : Lib.TabIs Tryz.prog w "internal/strconv.uint64pow10" .u64 Lib.pow10Tab) (hv : validL kind (opsL l) = true) (R : ByteArray) (E : Int)
    (hRE : (R = bs (scT kind (opsL l)) ∧ E = 0 ∧ (scT kind (opsL l)).length ≤ 65536) ∨ (R = ⟨#[]⟩ ∧ E = 4 ∧ 65536 < (scT kind (opsL l)).length)) : Calls Tryz.prog 10 #[.int .i64 kind, v] w fun e w' => e = .returned (.tuple #[.string R, .int .i64 E]) ∧ Ext w w' := by
  obtain ⟨a, cap, hvs⟩ := h.shape
  have hv0 := hv
  unfold validL at hv
  simp only [Bool.and_eq_true, decide_eq_true_eq] at hv
  obtain ⟨⟨hkn, hll⟩, hall⟩ := hv
  rw [opsL_length] at hll
  have hkk : 1 ≤ kind ∧ kind ≤ 6 := by unfold knownB at hkn; exact of_decide_eq_true hkn
  have ha : ∀ o ∈ l, o.op.args.length ≤ 100000000 := fun o ho => by have := (valid_args (List.all_eq_true.1 hall o.op (List.mem_map_of_mem ho))).1; omega
  have HC : Hid (∀ W, Ext w W → Calls Tryz.prog 14 #[.int .i64 kind, v] W fun e w' => e = .returned (.bool true) ∧ Ext W w') := fun W hW => by
    have := valid_any kind v l W S (h.kept hW (fun _ _ h => h)) (by omega) ha
    rw [hv0] at this; exact this
  have HN := Lib.hid h
  have CT : Hid (∀ (j : Nat) (W : World), j < l.length → Ext w W → Calls Tryz.prog 29 #[.int .i64 kind, .agg #[.int .i64 (l.getD j .zero).op.code, (l.getD j .zero).v]] W fun e w' => e = .returned (.tuple #[.string (bs (opT kind (l.getD j .zero).op)), .int .i64 0]) ∧ Ext W w') := fun j W hj hW =>
    text_ok kind _ _ W S ((h.arg _ (getD_mem hj)).kept hW (fun _ _ h => h)) (tab_ext htab hW) (opV_valid hall hj)
  have HLN := Lib.hid (fun j => lnT_tlen hall j)
  have HOL := Lib.hid (fun (j : Nat) (hj : j < l.length) => opT_len (opV_valid hall hj))
  have HRE := Lib.hid hRE
  have hhd := hdT_len kind
  rw [opsL_length] at HLN
  obtain ⟨kk, hk⟩ : ∃ kk : Nat, kind = (kk : Int) + 1 := ⟨(kind - 1).toNat, by omega⟩
  have hkk6 : kk < 6 := by omega
  obtain ⟨KW, hKW⟩ : ∃ KW, bs (kWd kind) = KW := ⟨_, rfl⟩
  have CK : Hid (∀ W : World, Calls Tryz.prog 22 #[] W fun e w' => ∃ g, e = .returned (.slice (some ⟨g, 0, none⟩) 6 6) ∧ w'.cell? ⟨g, kk, none⟩ = some (.string KW) ∧ Ext W w') := fun W => (kwords_any W).mono (by
    rintro e w' ⟨g, he, hx, hc⟩
    have := hc kk hkk6
    rw [← hk, hKW] at this
    exact ⟨g, he, this, hx⟩)
  have hKs : KW.size ≤ 5 := by rw [← hKW, bs_size]; exact kWd_len kind
  obtain ⟨R1, hR1⟩ : ∃ R, (⟨#[115, 99, 114, 105, 112, 116, 32]⟩ : ByteArray) ++ KW = R := ⟨_, rfl⟩
  obtain ⟨R2, hR2⟩ : ∃ R, R1 ++ (⟨#[10]⟩ : ByteArray) = R := ⟨_, rfl⟩
  have HR : Hid (R2 = bs (hdT kind)) := Lib.hid (by
    rw [← hR2, ← hR1, ← hKW]
    unfold hdT
    rw [← bs_app, ← bs_app]
    rfl)
  have hR1s : R1.size = 7 + KW.size := by rw [← hR1, ByteArray.size_append]; rfl
  have s1 : ¬ (9223372036854775807 < 7 + KW.size) := by omega
  have s2 : ¬ (9223372036854775807 < R1.size + 1) := by omega
  have HQ1 := Lib.hid hR1
  have HQ2 := Lib.hid hR2
  clear hR1 hR2 hKW hv0 hkn hall ha h htab hRE
  subst hvs
  have u2 : kind - 1 = (kk : Int) := by omega
  have u3 : (0 : Int) ≤ (kk : Int) := by omega
  have u4 : (kk : Int) < 6 := by omega
  have HK := Lib.hid hk
  clear hk
  go_enter Tryz.func10, Tryz.ntmps10
  go_wp2_with fail
  refine (HC.out _ (Upd.refl _ _)).mono ?_
  rintro e w4 ⟨rfl, h4⟩
  have HE4 := Lib.hid h4
  clear h4
  go_wp2_with fail
  have HB5 : Hid (BdR w4.heap.size w4.heap.size [] (w4.alloc (.cells #[.pointer none, .slice none 0 0] 71))) := BdR.new _ _ (Nat.le_refl _)
  have HE5 : Hid (Ext w4 (w4.alloc (.cells #[.pointer none, .slice none 0 0] 71))) := (Upd.refl _ w4).alloc _
  refine (CK.out _).mono ?_
  rintro e w6 ⟨g, rfl, c0, h6⟩
  have HE6 := Lib.hid (HE5.out.ext h6)
  have HB6 := Lib.hid (HB5.out.ext h6)
  have hsz6 := HE6.out.size
  clear h6
  have q1 := HQ1.out
  have q2 := HQ2.out
  go_wp2_with fail
  clear q1 q2 c0
  rw [HR.out]
  refine (write_x _ _ _ (hdT kind) _ HB6.out (by simp; omega) hsz6).mono ?_
  rintro e w7 ⟨rfl, h71, h72⟩
  have HE7 := Lib.hid (below_tr HE6.out h72)
  have HB7 := Lib.hid h71
  clear h71 h72 hsz6
  go_wp2_with fail
  go_loopg [25] l.length (fun gk i wr => ∃ j : Nat, i = .int .i64 j ∧ gk = l.length - j ∧ j ≤ l.length ∧ Hid (BdR w4.heap.size w4.heap.size (hdT kind ++ lnT kind ((opsL l).take j)) wr) ∧ Hid (Ext w4 wr))
  case atStart => exact ⟨0, rfl, rfl, Nat.zero_le _, Lib.hid (by simpa [lnT] using HB7.out), HE7⟩
  case round =>
    obtain ⟨j, rfl, rfl, hj, HB, HE⟩ := hrel
    have hsz8 := HE.out.size
    have hl1 := HLN.out j
    by_cases hlt : j < l.length
    · obtain ⟨g, off, cap', hv, hc, hg, c0, c1, hargs⟩ := (HN.out.kept (HE4.out.ext HE.out) (fun _ _ h => h)).at hlt
      injection hv with e1 e2 e3
      subst e1; subst e3
      obtain ⟨a2, cap2, hv2⟩ := hargs.shape
      have HC2 := Lib.hid (fun W (hW : Ext wr W) => CT.out j W hlt (HE4.out.ext (HE.out.ext hW)))
      have hol := HOL.out j hlt
      have i0' : (0 : Int) ≤ (j : Int) := by omega
      have i1' : (j : Int) < (l.length : Int) := by omega
      have HT := Lib.hid (lnT_take kind l j hlt)
      rw [hv2] at c1 HC2
      clear hg e2 hc hv2 hargs
      have hos := bs_size (opT kind (l.getD j .zero).op)
      obtain ⟨R5, hR5⟩ : ∃ R, bs (opT kind (l.getD j .zero).op) ++ (⟨#[10]⟩ : ByteArray) = R := ⟨_, rfl⟩
      have HR5 : Hid (R5 = bs (opT kind (l.getD j .zero).op ++ [10])) := Lib.hid (by rw [← hR5]; exact bs_app _ [10])
      have HQ5 := Lib.hid hR5
      clear hR5
      generalize opT kind (l.getD j .zero).op = X at *
      generalize (l.getD j .zero).op.code = XC at *
      generalize (l.getD j .zero).op.args.length = Y at *
      have s3 : ¬ (9223372036854775807 < (bs X).size + 1) := by omega
      go_wp2_with fail
      refine (HC2.out _ ((Upd.refl _ _).alloc _)).mono ?_
      rintro e w8 ⟨rfl, h8⟩
      have HE8 := Lib.hid ((HE.out.alloc _).ext h8)
      have HB8 := Lib.hid (HB.out.ext (((Upd.refl _ _).alloc _).ext h8))
      have hsz9 := HE8.out.size
      clear h8 hsz8 c0 c1
      have q5 := HQ5.out
      go_wp2_with fail
      clear q5
      rw [HR5.out]
      refine (write_x _ _ _ (X ++ [10]) _ HB8.out (by simp; omega) hsz9).mono ?_
      rintro e w9 ⟨rfl, h91, h92⟩
      have HE9 := Lib.hid (below_tr HE8.out h92)
      have HB9 : Hid (BdR w4.heap.size w4.heap.size (hdT kind ++ lnT kind ((opsL l).take (j + 1))) w9) := Lib.hid (by rw [HT.out, ← List.append_assoc]; exact h91)
      clear h91 h92 hsz9
      go_wp2_with fail
      go_roundg (l.length - (j + 1))
      case measure => omega
      case rel => exact ⟨j + 1, by go_num, rfl, by omega, HB9, HE9⟩
    · obtain rfl : j = l.length := by omega
      have HB2 := HB.out
      rw [← opsL_length l, List.take_length] at HB2
      have HB3 : Hid (BdR w4.heap.size w4.heap.size (scT kind (opsL l)) wr) := HB2
      clear HB2 HB
      go_wp2_with fail
      refine (blen_x _ _ _ _ HB3.out).mono ?_
      rintro e w9 ⟨rfl, rfl⟩
      rcases HRE.out with ⟨rfl, rfl, hsl⟩ | ⟨rfl, rfl, hsl⟩
      · have t1 : decide (65536 < (scT kind (opsL l)).length) = false := decide_eq_false (by omega)
        have t2 : decide ((65536 : Int) < ((scT kind (opsL l)).length : Int)) = false := decide_eq_false (by omega)
        go_wp2_with fail
        refine (bstr_x _ _ _ _ HB3.out hsz8).mono ?_
        rintro e w9 ⟨rfl, h92⟩
        have HE9 := Lib.hid (below_tr HE.out h92)
        clear h92 hsz8
        go_wp2_with fail
        go_ret2
        exact ⟨rfl, HE4.out.ext HE9.out⟩
      · have t1 : decide (65536 < (scT kind (opsL l)).length) = true := decide_eq_true (by omega)
        have t2 : decide ((65536 : Int) < ((scT kind (opsL l)).length : Int)) = true := decide_eq_true (by omega)
        go_wp2_with fail
        go_ret2
        exact ⟨rfl, HE4.out.ext HE.out⟩

end Go.Proofs.YthpekfpeoglbgaaGreatDoor
