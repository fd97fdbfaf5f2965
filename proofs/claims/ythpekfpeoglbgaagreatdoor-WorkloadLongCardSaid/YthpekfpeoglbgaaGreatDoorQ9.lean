/- heartwoodref51.Parse. -/
import Derived.Test.YthpekfpeoglbgaaGreatDoorQ7
namespace Go.Proofs.YthpekfpeoglbgaaGreatDoor
open Go.RowKit Go.Hw
set_option linter.unusedVariables false
set_option linter.unusedSimpArgs false

/-- what the reference's Parse leaves -/
def RPP (R : PR) (w : World) (e : Ending) (w' : World) : Prop :=
  ∃ v L2, e = .returned (.tuple #[.int .i64 R.kind, v, .int .i64 R.line, .int .i64 R.err]) ∧ OpsR (fun k => k < w'.heap.size) w' v L2 ∧ opsL L2 = R.ops ∧ Ext w w'
theorem line_l (L : List UInt8) (a : Nat) (W : World) (ha : a ≤ L.length) (hs : L.length ≤ 1000000) : Calls Tryz.prog 24 #[.string (bs L), .int .i64 (a : Int)] W fun e w' => e = .returned (.tuple #[.string (if (Lib.cut (L.drop a) [10]).2.2 = true then bs (Lib.cut (L.drop a) [10]).1 else ⟨#[]⟩), .bool (Lib.cut (L.drop a) [10]).2.2]) ∧ W = w' := by
  have := line_x (bs L) a W (by rw [bs_size]; exact ha) (by rw [bs_size]; exact hs)
  rw [bs_data] at this
  exact this
set_option maxHeartbeats 1000000 in
set_option maxRecDepth 100000 in
theorem rwparse_big (L : List UInt8) (w : World) (hs : L.length ≤ 1000000) (hb : 65536 < L.length) : Calls Tryz.prog 8 #[.string (bs L)] w (RPP (parseT L) w) := by
  have hR : parseT L = ⟨0, [], 0, 4⟩ := by unfold parseT; rw [if_pos hb]
  have HR := Lib.hid hR
  have hsz := bs_size L
  have t1 : decide ((65536 : Int) < ((bs L).size : Int)) = true := decide_eq_true (by omega)
  have t1' : decide (65536 < (bs L).size) = true := decide_eq_true (by omega)
  clear hR hsz
  generalize parseT L = RES at *
  generalize bs L = t at *
  go_enter Tryz.func8, Tryz.ntmps8
  go_wp2_with fail
  refine bodyPost_ret (v := .tuple #[.int .i64 0, .slice none 0 0, .int .i64 0, .int .i64 4]) (by simp [results, Tryz.results8, go_sem]) rfl ⟨_, [], by rw [HR.out], ?_, by rw [HR.out]; rfl, Upd.refl _ _⟩
  exact ⟨SlR.nil _ _ _, fun o ho => by cases ho⟩

set_option maxHeartbeats 1000000 in
set_option maxRecDepth 100000 in
theorem rwparse_bad (L : List UInt8) (w : World) (hs : L.length ≤ 1000000) (hb : ¬ 65536 < L.length) (X : ByteArray) (K : Int) (ok : Bool) (hX : (if (Lib.cut L [10]).2.2 = true then bs (Lib.cut L [10]).1 else ⟨#[]⟩) = X) (hO : (Lib.cut L [10]).2.2 = ok) (hK : ∀ W : World, Calls Tryz.prog 25 #[.string X] W fun e w' => e = .returned (.int .i64 K) ∧ Ext W w') (hz : ok = false ∨ K = 0) (HR : Hid (parseT L = ⟨0, [], 1, 7⟩)) : Calls Tryz.prog 8 #[.string (bs L)] w (RPP (parseT L) w) := by
  have hsz := bs_size L
  have t1 : decide ((65536 : Int) < ((bs L).size : Int)) = false := decide_eq_false (by omega)
  have t1' : decide (65536 < (bs L).size) = false := decide_eq_false (by omega)
  have CL : Hid (∀ W : World, Calls Tryz.prog 24 #[.string (bs L), .int .i64 0] W fun e w' => e = .returned (.tuple #[.string X, .bool ok]) ∧ W = w') := fun W => by
    have := line_l L 0 W (Nat.zero_le _) hs
    rw [List.drop_zero, hX, hO] at this
    exact this
  have CH := Lib.hid hK
  clear hX hO hK hsz
  generalize parseT L = RES at *
  generalize bs L = t at *
  cases ok with
  | false =>
    go_enter Tryz.func8, Tryz.ntmps8
    go_wp2_with fail
    refine (CL.out _).mono ?_
    rintro e w4 ⟨rfl, rfl⟩
    go_wp2_with fail
    refine (CH.out _).mono ?_
    rintro e w5 ⟨rfl, h5⟩
    have HE5 := Lib.hid h5
    clear h5
    go_wp2_with fail
    refine bodyPost_ret (v := .tuple #[.int .i64 0, .slice none 0 0, .int .i64 1, .int .i64 7]) (by simp [results, Tryz.results8, go_sem]) rfl ⟨_, [], by rw [HR.out], ?_, by rw [HR.out]; rfl, HE5.out⟩
    exact ⟨SlR.nil _ _ _, fun o ho => by cases ho⟩
  | true =>
    obtain rfl : K = 0 := by rcases hz with h | h; cases h; exact h
    go_enter Tryz.func8, Tryz.ntmps8
    go_wp2_with fail
    refine (CL.out _).mono ?_
    rintro e w4 ⟨rfl, rfl⟩
    go_wp2_with fail
    refine (CH.out _).mono ?_
    rintro e w5 ⟨rfl, h5⟩
    have HE5 := Lib.hid h5
    clear h5
    go_wp2_with fail
    refine bodyPost_ret (v := .tuple #[.int .i64 0, .slice none 0 0, .int .i64 1, .int .i64 7]) (by simp [results, Tryz.results8, go_sem]) rfl ⟨_, [], by rw [HR.out], ?_, by rw [HR.out]; rfl, HE5.out⟩
    exact ⟨SlR.nil _ _ _, fun o ho => by cases ho⟩

set_option maxHeartbeats 1000000 in
set_option maxRecDepth 100000 in
theorem rwparse_ok (L : List UInt8) (w : World) (hs : L.length ≤ 1000000) (hw0 : 0 < w.heap.size) (hb : ¬ 65536 < L.length) (A1 A2 : List UInt8) (hcut : Lib.cut L [10] = (A1, A2, true)) (hdr : L.drop (A1.length + 1) = A2) (hal : A1.length + 1 ≤ L.length) (K : Int) (hK : kOf A1 = K) (hK1 : 1 ≤ K) (hK6 : K ≤ 6) (RES : PR) (HR0 : Hid (lns K 2000 A2 [] = RES)) : Calls Tryz.prog 8 #[.string (bs L)] w (RPP RES w) := by
  obtain ⟨i5, hi5, hz50, hz51, hz52⟩ := info_parts info50
  have hsz := bs_size L
  have t1 : decide ((65536 : Int) < ((bs L).size : Int)) = false := decide_eq_false (by omega)
  have t1' : decide (65536 < (bs L).size) = false := decide_eq_false (by omega)
  have CLL : Hid (∀ (a : Nat) (W : World), a ≤ L.length → Calls Tryz.prog 24 #[.string (bs L), .int .i64 (a : Int)] W fun e w' => e = .returned (.tuple #[.string (if (Lib.cut (L.drop a) [10]).2.2 = true then bs (Lib.cut (L.drop a) [10]).1 else ⟨#[]⟩), .bool (Lib.cut (L.drop a) [10]).2.2]) ∧ W = w') := fun a W ha => line_l L a W ha hs
  have CL : Hid (∀ W : World, Calls Tryz.prog 24 #[.string (bs L), .int .i64 0] W fun e w' => e = .returned (.tuple #[.string (bs A1), .bool true]) ∧ W = w') := fun W => by
    have := CLL.out 0 W (Nat.zero_le _)
    rw [List.drop_zero, hcut] at this
    exact this
  have CH : Hid (∀ W : World, Calls Tryz.prog 25 #[.string (bs A1)] W fun e w' => e = .returned (.int .i64 K) ∧ Ext W w') := fun W => by
    have := head_x A1 W (by omega)
    rw [hK] at this
    exact this
  have CM : Hid (∀ (R : List UInt8) (W : World), R.length ≤ 1000000 → Calls Tryz.prog 26 #[.int .i64 K, .string (bs R)] W (RPost K (bs R) W)) := fun R W hR => rparse_x K (bs R) W ⟨hK1, hK6⟩ (by rw [bs_size]; exact hR)
  have e1 : ((K : Int) == 0) = false := beq_eq_false_iff_ne.2 (by omega)
  have ha1 := bs_size A1
  have HD0 := Lib.hid hdr
  clear hcut hdr hK
  generalize hL : bs L = t at *
  have HLt := Lib.hid hL
  clear hL
  go_enter Tryz.func8, Tryz.ntmps8
  go_wp2_with fail
  refine (CL.out _).mono ?_
  rintro e w4 ⟨rfl, rfl⟩
  go_wp2_with fail
  refine (CH.out _).mono ?_
  rintro e w5 ⟨rfl, h5⟩
  have HE5 := Lib.hid h5
  clear h5
  generalize bs A1 = r1 at *
  go_wp2_with fail
  go_loopg [9, 10, 11] 2000 (fun gk lv n x wx => ∃ (a : Nat) (L2 : List OpV), x = .int .i64 (a : Int) ∧ n = .int .i64 (2001 - (gk : Int)) ∧ gk ≤ 2000 ∧ a ≤ L.length ∧ Hid (lns K gk (L.drop a) (opsL L2) = RES) ∧ L2.length = 2000 - gk ∧ Hid (Ext w5 wx) ∧ Hid (GenR w5.heap.size 0 wx lv L2))
  case atStart => exact ⟨A1.length + 1, [], by go_num, rfl, Nat.le_refl _, hal, by rw [HD0.out]; exact HR0.out, rfl, Upd.refl _ _, GenR.nil _ _ _⟩
  case round =>
    obtain ⟨a, L2, rfl, rfl, hgk, hal2, HL, hL2, HE0, HG⟩ := hrel
    have HE := Lib.hid (HE5.out.ext HE0.out)
    have hsz0 := HE0.out.size
    have HL2 := Lib.hid hL2
    have hL2b : L2.length ≤ 2000 := by omega
    clear hL2
    obtain ⟨la, lc, hlv⟩ := own_shape HG.out.own
    subst hlv
    have hszr := HE.out.size
    obtain ⟨N0, hN0⟩ : ∃ N : Int, 2001 - (gk : Int) = N := ⟨_, rfl⟩
    rw [hN0]
    have hN2 : 1 ≤ N0 ∧ N0 ≤ 2001 := by omega
    by_cases hr : a < L.length
    · have s1 : decide ((a : Int) < (t.size : Int)) = true := decide_eq_true (by omega)
      have s1' : decide (a < t.size) = true := decide_eq_true (by omega)
      have hne : L.drop a ≠ [] := fun e => by
        have := congrArg List.length e
        rw [List.length_drop] at this
        simp at this
        omega
      cases gk with
      | zero =>
        have HRES : Hid (RES = ⟨0, [], 2002, 4⟩) := Lib.hid (by rw [← HL.out]; exact lns_full K _ _ hne)
        obtain rfl : N0 = 2001 := by omega
        clear hne hN0
        go_wp2_with fail
        refine bodyPost_ret (v := .tuple #[.int .i64 0, .slice none 0 0, .int .i64 2002, .int .i64 4]) (by simp [results, Tryz.results8, go_sem]) rfl ⟨_, [], by rw [HRES.out], ?_, by rw [HRES.out]; rfl, HE.out⟩
        exact ⟨SlR.nil _ _ _, fun o ho => by cases ho⟩
      | succ g =>
        have m1 : ((N0 + 1 : Int) == 2002) = false := beq_eq_false_iff_ne.2 (by omega)
        have m2 : ¬ (N0 + 1 = 2002) := by omega
        obtain ⟨⟨C1, C2, okc⟩, hC⟩ : ∃ q, Lib.cut (L.drop a) [10] = q := ⟨_, rfl⟩
        have hCl : C1.length ≤ 1000000 ∧ (okc = true → L.drop (a + C1.length + 1) = C2 ∧ a + C1.length + 1 ≤ L.length) := by
          rcases cut_cases 10 (L.drop a) with ⟨x, b, e, _, hcc⟩ | ⟨_, hcc⟩
          · rw [hC] at hcc
            injection hcc with h1 h2
            injection h2 with h2 h3
            have := congrArg List.length e
            rw [List.length_append, List.length_cons, List.length_drop] at this
            rw [h1, h2]
            refine ⟨by omega, fun _ => ⟨?_, by omega⟩⟩
            rw [Nat.add_assoc, ← List.drop_drop, e]
            simp
          · rw [hC] at hcc
            injection hcc with h1 h2
            injection h2 with h2 h3
            rw [h1]
            exact ⟨by rw [List.length_drop]; omega, fun h => by rw [h3] at h; cases h⟩
        have CL2 : Hid (∀ W : World, Calls Tryz.prog 24 #[.string t, .int .i64 (a : Int)] W fun e w' => e = .returned (.tuple #[.string (if okc = true then bs C1 else ⟨#[]⟩), .bool okc]) ∧ W = w') := fun W => by
          have := CLL.out a W hal2
          rw [hC] at this
          exact this
        have HST : Hid (∀ o, okc = true → Good K (bs C1) o → lns K g C2 (opsL L2 ++ [o]) = RES) := fun o h1 h2 => by
          rw [← HL.out, lns_step K g _ _ o hne (by rw [hC]; exact h1) (by rw [hC]; exact opOf_some h2), hC]
        have HBD : Hid (okc = false ∨ (∀ o, ¬ Good K (bs C1) o) → RES = ⟨0, [], N0 + 1, 7⟩) := fun h => by
          rw [← HL.out, lns_bad K g _ _ hne (by rw [hC]; exact h.imp id (fun h => opOf_none h))]
          congr 1
          omega
        clear hC hne HL
        cases okc with
        | false =>
          have HRES := Lib.hid (HBD.out (Or.inl rfl))
          have CM2 := Lib.hid (fun W : World => CM.out [] W (by simp))
          rw [bs_nil] at CM2
          clear HBD HST
          go_wp2_with fail
          refine (CL2.out _).mono ?_
          rintro e w6 ⟨rfl, rfl⟩
          simp only [Bool.false_eq_true, if_false]
          go_wp2_with fail
          refine (CM2.out _).mono ?_
          rintro e w7 (⟨o, v, hgo, rfl, hno, h7⟩ | ⟨hno, rfl, h7⟩)
          · have HE7 := Lib.hid (HE.out.ext h7)
            obtain ⟨va, vc, hvs⟩ := hno.shape
            subst hvs
            clear hno hgo
            go_wp2_with fail
            refine bodyPost_ret (v := .tuple #[.int .i64 0, .slice none 0 0, .int .i64 (N0 + 1), .int .i64 7]) (by simp [results, Tryz.results8, go_sem]) rfl ⟨_, [], by rw [HRES.out], ?_, by rw [HRES.out]; rfl, HE7.out.alloc _⟩
            exact ⟨SlR.nil _ _ _, fun o ho => by cases ho⟩
          · have HE7 := Lib.hid (HE.out.ext h7)
            clear hno
            go_wp2_with fail
            refine bodyPost_ret (v := .tuple #[.int .i64 0, .slice none 0 0, .int .i64 (N0 + 1), .int .i64 7]) (by simp [results, Tryz.results8, go_sem]) rfl ⟨_, [], by rw [HRES.out], ?_, by rw [HRES.out]; rfl, HE7.out.alloc _⟩
            exact ⟨SlR.nil _ _ _, fun o ho => by cases ho⟩
        | true =>
          obtain ⟨hd2, hd3⟩ := hCl.2 rfl
          have CM2 := Lib.hid (fun W : World => CM.out C1 W hCl.1)
          have hcs := bs_size C1
          have HD2 := Lib.hid hd2
          clear hd2
          have u1 : IntKind.i64.wrap ((a : Int) + C1.length) = (a : Int) + C1.length := IntWalk.i64_in _ (by omega)
          generalize hC1 : bs C1 = r2 at *
          have HC1 := Lib.hid hC1
          clear hC1
          go_wp2_with fail
          refine (CL2.out _).mono ?_
          rintro e w6 ⟨rfl, rfl⟩
          simp only [if_true]
          go_wp2_with fail
          refine (CM2.out _).mono ?_
          rintro e w7 (⟨o, v, hgo, rfl, hno, h7⟩ | ⟨hno, rfl, h7⟩)
          · have HE7 := Lib.hid (HE.out.ext h7)
            have HGO := Lib.hid hgo
            have HNO := Lib.hid (NumR.lt hno)
            obtain ⟨va, vc, hvs⟩ := hno.shape
            subst hvs
            have hbo := alloc0 w7 (.cells #[.int .i64 o.code, .slice va o.args.length vc] 40)
            have HF7 := Lib.hid h7
            have HF8 := Lib.hid (HF7.out.alloc (.cells #[.int .i64 o.code, .slice va o.args.length vc] 40))
            have HN8 := Lib.hid ((HNO.out).kept ((Upd.refl (fun _ => False) w7).alloc (.cells #[.int .i64 o.code, .slice va o.args.length vc] 40)) (fun _ _ h => h))
            have hs8 := alloc_size w7 (.cells #[.int .i64 o.code, .slice va o.args.length vc] 40)
            have q0 := cellRow hbo 0 _ rfl
            have q1 := cellRow hbo 1 _ rfl
            have hsz7 := h7.size
            clear h7 hgo hno hbo HNO
            have HST2 := Lib.hid (HST.out o (by first | rfl | trivial) HGO.out)
            have hval := (valid_args HGO.out.1).1
            have HA8 := Lib.hid (own_kept HG.out.own HF8.out (fun _ _ h => h))
            clear HBD HST
            go_wp2_with (at_builtin; refine wpList_append_at _ rfl (.tmp 63) (.tmp 65) 23 rfl w5.heap.size 40 i5 (.agg #[.int .i64 0, .slice none 0 0]) 2 32 Tryz.underlying23 hi5 hz50 hz51 hz52 rfl (by decide) _ _ _ rfl (own_alloc HA8.out _) ⟨w7.heap.size + 1, 0, none⟩ 1 1 [.int .i64 o.code, .slice va o.args.length vc] rfl rfl ?d1 ?d2 ?d3 ?d4 ?d5 ?_)
            case d1 =>
              intro j u hj
              match j, hj with
              | 0, hj => simp at hj; subst hj; simp [Addr.add, alloc_size]
              | 1, hj => simp at hj; subst hj; simp [Addr.add, alloc_size]
            case d2 => intro u hu; simp at hu; rcases hu with rfl | rfl <;> rfl
            case d3 => unfold maxLen; omega
            case d4 => omega
            case d5 => rw [alloc_size, alloc_size]; omega
            intro v5 w9 hG
            have hno : NumR (fun k => wr.heap.size ≤ k ∧ k < ((w7.alloc (.cells #[.int .i64 o.code, .slice va o.args.length vc] 40)).alloc (.cells #[.int .i64 o.code, .slice va o.args.length vc] 40)).heap.size ∧ k ≠ 0) ((w7.alloc (.cells #[.int .i64 o.code, .slice va o.args.length vc] 40)).alloc (.cells #[.int .i64 o.code, .slice va o.args.length vc] 40)) (.slice va o.args.length vc) o.args := by
              refine (HN8.out.kept ((Upd.refl (fun _ => False) _).alloc _) (fun _ _ h => h)).weaken (fun k hk => ⟨by omega, by rw [alloc_size]; omega, by omega⟩)
            have HG2 := Lib.hid (HG.out.push (o := ⟨o, .slice va o.args.length vc⟩) ((HF8.out.alloc _).mono (fun _ _ h => h.elim)) hno (by omega) hG)
            have hsz5 := HE5.out.size
            have HE9 := Lib.hid (ext_upd (HE0.out.ext (HF8.out.alloc (.cells #[.int .i64 o.code, .slice va o.args.length vc] 40))) hG.upd (fun k hk => (HA8.out.lt k hk).1))
            obtain ⟨xa, xc, hxs⟩ := own_shape hG.own
            subst hxs
            clear hG hno q0 q1 hs8
            go_wp2_with fail
            go_roundg g
            case measure => omega
            case rel =>
              refine ⟨a + C1.length + 1, L2 ++ [⟨o, .slice va o.args.length vc⟩], ?_, by go_num, by omega, hd3, ?_, by have := HL2.out; simp; omega, HE9, ?_⟩
              · first | go_num | (congr 1; omega)
              · rw [show opsL (L2 ++ [⟨o, .slice va o.args.length vc⟩]) = opsL L2 ++ [o] by simp [opsL], HD2.out]
                exact HST2.out
              · exact HG2.out
          · have HE7 := Lib.hid (HE.out.ext h7)
            have HRES := Lib.hid (HBD.out (Or.inr hno))
            clear hno HBD HST
            go_wp2_with fail
            refine bodyPost_ret (v := .tuple #[.int .i64 0, .slice none 0 0, .int .i64 (N0 + 1), .int .i64 7]) (by simp [results, Tryz.results8, go_sem]) rfl ⟨_, [], by rw [HRES.out], ?_, by rw [HRES.out]; rfl, HE7.out.alloc _⟩
            exact ⟨SlR.nil _ _ _, fun o ho => by cases ho⟩
    · have s1 : decide ((a : Int) < (t.size : Int)) = false := decide_eq_false (by omega)
      have s1' : decide (a < t.size) = false := decide_eq_false (by omega)
      have hne : L.drop a = [] := List.drop_eq_nil_of_le (by omega)
      have HRES : Hid (RES = ⟨K, opsL L2, 0, 0⟩) := Lib.hid (by rw [← HL.out, hne, lns_nil])
      clear hne
      go_wp2_with fail
      refine bodyPost_ret (v := .tuple #[.int .i64 K, .slice la L2.length lc, .int .i64 0, .int .i64 0]) (by simp [results, Tryz.results8, go_sem]) rfl ⟨_, L2, by rw [HRES.out], ?_, by rw [HRES.out], HE.out⟩
      exact HG.out.ops

end Go.Proofs.YthpekfpeoglbgaaGreatDoor
