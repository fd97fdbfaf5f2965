/- WorkloadParses. -/
import Derived.Test.YthpekfpeoglbgaaGreatDoorQ8
import Derived.Test.YthpekfpeoglbgaaGreatDoorQ9
import Derived.Test.YthpekfpeoglbgaaGreatDoorW23
namespace Go.Proofs.YthpekfpeoglbgaaGreatDoor
open Go.RowKit Go.Hw
set_option linter.unusedVariables false
set_option linter.unusedSimpArgs false

theorem rwparse_x (L : List UInt8) (w : World) (hs : L.length ≤ 1000000) (hw0 : 0 < w.heap.size) : Calls Tryz.prog 8 #[.string (bs L)] w (RPP (parseT L) w) := by
  by_cases hb : 65536 < L.length
  · exact rwparse_big L w hs hb
  · have hp : (Lib.cut L [10]).2.2 = false ∨ kOf (Lib.cut L [10]).1 = 0 → parseT L = ⟨0, [], 1, 7⟩ := fun h => by
      unfold parseT
      rw [if_neg hb, if_neg]
      rintro ⟨h1, h2⟩
      rcases h with h | h
      · rw [h] at h1; cases h1
      · exact h2 h
    cases hC : (Lib.cut L [10]).2.2 with
    | false => exact rwparse_bad L w hs hb (bs []) (kOf []) false (by rw [hC]; rfl) hC (fun W => head_x [] W (by simp)) (Or.inl rfl) (hp (Or.inl hC))
    | true =>
      rcases cut_cases 10 L with ⟨a, b, e, _, hcc⟩ | ⟨_, hcc⟩
      · have hla : a.length + 1 ≤ L.length := by
          have := congrArg List.length e
          rw [List.length_append, List.length_cons] at this
          omega
        by_cases hz : kOf a = 0
        · refine rwparse_bad L w hs hb (bs a) 0 true (by rw [hcc]; rfl) hC (fun W => ?_) (Or.inr rfl) (hp (Or.inr (by rw [hcc]; exact hz)))
          have := head_x a W (by omega)
          rw [hz] at this
          exact this
        · have hbd := kOf_bd a
          refine rwparse_ok L w hs hw0 hb a b hcc (by rw [e, ← List.drop_drop]; simp) hla (kOf a) rfl (by omega) (by omega) (parseT L) ?_
          unfold parseT
          rw [if_neg hb, hcc, if_pos ⟨rfl, hz⟩]
          exact Lib.hid rfl
      · rw [hcc] at hC
        exact absurd (show false = true from hC) (by decide)
theorem eqP (a b c d : Int) (w : World) : (Op.equalIn 10000 25 (.agg #[.int .i64 a, .int .i64 b]) (.agg #[.int .i64 c, .int .i64 d])).run Tryz.prog w = .ok (a == c && b == d) w := by
  have u3 := Tryz.underlying3
  have hS : Tryz.prog.underlying 25 = some (.struct (Tryz.prog.fieldsOf 25)) := by kernel_rfl
  have hp : Tryz.prog.stoodInHeld 25 = false := by kernel_rfl
  rw [show (10000 : Nat) = 9999 + 1 from rfl, run_equalIn_agg w 9999 25 _ _ hS hp]
  simp only [Program.fieldsOf, Tryz.underlying25]
  go_simp
  by_cases h1 : a = c <;> by_cases h2 : b = d <;> simp [h1, h2]
/-- what is read is short -/
theorem parse_args (L : List UInt8) : (parseT L).ops.length ≤ 2000 ∧ ∀ o ∈ (parseT L).ops, o.args.length ≤ 64 := by
  by_cases h : (parseT L).err = 0
  · obtain ⟨_, hv, _⟩ := parse_sc h
    unfold validL at hv
    simp only [Bool.and_eq_true, decide_eq_true_eq] at hv
    exact ⟨hv.1.2, fun o ho => (valid_args (List.all_eq_true.1 hv.2 o ho)).1⟩
  · have hz : ∀ (K : Int) (f : Nat) (R : List UInt8) (acc : List OpM), (lns K f R acc).err ≠ 0 → (lns K f R acc).ops = [] := by
      intro K f
      induction f with
      | zero =>
        intro R acc h
        by_cases hr : R = []
        · subst hr; rw [lns_nil] at h; exact absurd rfl h
        · rw [lns_full K R acc hr]
      | succ f ih =>
        intro R acc h
        by_cases hr : R = []
        · subst hr; rw [lns_nil] at h; exact absurd rfl h
        · cases hc : (Lib.cut R [10]).2.2 with
          | false => rw [lns_bad K f R acc hr (Or.inl hc)]
          | true =>
            cases ho : opOf K (Lib.cut R [10]).1 with
            | none => rw [lns_bad K f R acc hr (Or.inr ho)]
            | some o =>
              rw [lns_step K f R acc o hr hc ho] at h ⊢
              exact ih _ _ h
    have he : (parseT L).ops = [] := by
      unfold parseT at h ⊢
      split
      · rfl
      · rename_i h1
        rw [if_neg h1] at h
        split
        · rename_i h2
          rw [if_pos h2] at h
          exact hz _ _ _ _ h
        · rfl
    rw [he]
    exact ⟨by simp, fun o ho => by cases ho⟩
theorem parse_line (L : List UInt8) : 0 ≤ (parseT L).line := by
  have hz : ∀ (K : Int) (f : Nat) (R : List UInt8) (acc : List OpM), f ≤ 2000 → 0 ≤ (lns K f R acc).line := by
    intro K f
    induction f with
    | zero =>
      intro R acc _
      by_cases hr : R = []
      · subst hr; rw [lns_nil]; exact Int.le_refl 0
      · rw [lns_full K R acc hr]; decide
    | succ f ih =>
      intro R acc hf
      by_cases hr : R = []
      · subst hr; rw [lns_nil]; exact Int.le_refl 0
      · cases hc : (Lib.cut R [10]).2.2 with
        | false => rw [lns_bad K f R acc hr (Or.inl hc)]; simp only; omega
        | true =>
          cases ho : opOf K (Lib.cut R [10]).1 with
          | none => rw [lns_bad K f R acc hr (Or.inr ho)]; simp only; omega
          | some o =>
            rw [lns_step K f R acc o hr hc ho]
            exact ih _ _ (by omega)
  unfold parseT
  split
  · decide
  · split
    · exact hz _ _ _ _ (Nat.le_refl _)
    · decide
theorem opsL_args {L2 : List OpV} {ops : List OpM} (h : opsL L2 = ops) (ha : ops.length ≤ 2000 ∧ ∀ o ∈ ops, o.args.length ≤ 64) : L2.length ≤ 2000 ∧ ∀ o ∈ L2, o.op.args.length ≤ 100000000 := by
  subst h
  rw [opsL_length] at ha
  refine ⟨ha.1, fun o ho => ?_⟩
  have := ha.2 o.op (List.mem_map_of_mem ho)
  omega
def sizeB (n : Nat) : Bool := (decide (2500 < n) && decide (n ≤ 65536)) || decide (65636 < n)
set_option maxHeartbeats 1000000 in
set_option maxRecDepth 100000 in
theorem parses_a (t : ByteArray) (w : World) (hz : sizeB t.size = true) : Calls Tryz.prog 3 #[.string t] w fun e w' => e = .returned (.bool true) ∧ Ext w w' := by
  have HAW := Lib.hid (fun W : World => awake_any W)
  by_cases h1 : 65636 < t.size
  · have t1 : decide ((2500 : Int) < (t.size : Int)) = true := decide_eq_true (by omega)
    have t1' : decide (2500 < t.size) = true := decide_eq_true (by omega)
    have t2 : decide ((t.size : Int) ≤ 65536) = false := decide_eq_false (by omega)
    have t2' : decide (t.size ≤ 65536) = false := decide_eq_false (by omega)
    have t3 : decide ((65636 : Int) < (t.size : Int)) = true := decide_eq_true (by omega)
    have t3' : decide (65636 < t.size) = true := decide_eq_true (by omega)
    clear hz h1
    go_enter Tryz.func3, Tryz.ntmps3
    go_wp2_with fail
    refine (HAW.out _).mono ?_
    rintro e w2 ⟨rfl, h2⟩
    have HE2 := Lib.hid h2
    clear h2
    go_wp2_with fail
    refine (HAW.out _).mono ?_
    rintro e w9 ⟨rfl, h9⟩
    have HE9 := Lib.hid (HE2.out.ext h9)
    clear h9
    go_wp2_with fail
    go_ret
    exact ⟨rfl, HE9.out⟩
  · have h2 : 2500 < t.size ∧ t.size ≤ 65536 := by
      unfold sizeB at hz
      simp only [Bool.or_eq_true, Bool.and_eq_true, decide_eq_true_eq] at hz
      rcases hz with hz | hz
      · exact hz
      · exact absurd hz h1
    have t1 : decide ((2500 : Int) < (t.size : Int)) = true := decide_eq_true (by omega)
    have t1' : decide (2500 < t.size) = true := decide_eq_true (by omega)
    have t2 : decide ((t.size : Int) ≤ 65536) = true := decide_eq_true (by omega)
    have t2' : decide (t.size ≤ 65536) = true := decide_eq_true (by omega)
    clear hz h1 h2
    go_enter Tryz.func3, Tryz.ntmps3
    go_wp2_with fail
    refine (HAW.out _).mono ?_
    rintro e w2 ⟨rfl, h2⟩
    have HE2 := Lib.hid h2
    clear h2
    go_wp2_with fail
    refine (HAW.out _).mono ?_
    rintro e w9 ⟨rfl, h9⟩
    have HE9 := Lib.hid (HE2.out.ext h9)
    clear h9
    go_wp2_with fail
    go_ret
    exact ⟨rfl, HE9.out⟩

set_option maxHeartbeats 4000000 in
set_option maxRecDepth 100000 in
theorem parses_b (t : ByteArray) (w : World) (hE : Env w) (hz : sizeB t.size = false) : Calls Tryz.prog 3 #[.string t] w fun e w' => e = .returned (.bool true) ∧ Ext w w' := by
  have HAW := Lib.hid (fun W : World => awake_any W)
  have hsz : t.size ≤ 65636 ∧ (t.size ≤ 2500 ∨ 65536 < t.size) := by
    unfold sizeB at hz
    simp only [Bool.or_eq_false_iff, Bool.and_eq_false_iff, decide_eq_false_iff_not] at hz
    omega
  have hw0 : 0 < w.heap.size := by
    obtain ⟨m, hm⟩ := hE.mx
    exact World.block_lt_of_cell? w _ hm
  have hpa := parse_args t.data.toList
  have hpl := parse_line t.data.toList
  have CP : Hid (∀ W, Ext w W → Calls Tryz.prog 7 #[.string t] W (PPost (parseT t.data.toList) W)) := fun W hW => by
    have := wparse_x t.data.toList W (hE.ext hW) (by rw [len_size]; omega)
    rw [bs_of] at this
    exact this
  have CR : Hid (∀ W, Ext w W → Calls Tryz.prog 8 #[.string t] W (RPP (parseT t.data.toList) W)) := fun W hW => by
    have := rwparse_x t.data.toList W (by rw [len_size]; omega) (by have := hW.size; omega)
    rw [bs_of] at this
    exact this
  generalize parseT t.data.toList = R at *
  clear hE hz hw0
  obtain ⟨RK, RO, RL, RE⟩ := R
  obtain ⟨PC, hPC⟩ : ∃ PC : Int, (if 0 < RL then 1 else 0) = PC := ⟨_, rfl⟩
  have HPC := Lib.hid hPC
  have HPA := Lib.hid hpa
  unfold PPost at CP
  unfold RPP at CR
  simp only at CP CR hpa hpl
  rw [hPC] at CP
  have heq := fun (a b c d : Int) (W : World) => eqP a b c d W
  by_cases hpos : 0 < RL
  · have p1 : decide (0 < RL) = true := decide_eq_true hpos
    obtain rfl : PC = 1 := by rw [← hPC, if_pos hpos]
    clear hPC
    by_cases hsm : t.size ≤ 2500
    · have t1 : decide ((2500 : Int) < (t.size : Int)) = false := decide_eq_false (by omega)
      have t1' : decide (2500 < t.size) = false := decide_eq_false (by omega)
      have t3 : decide ((65636 : Int) < (t.size : Int)) = false := decide_eq_false (by omega)
      have t3' : decide (65636 < t.size) = false := decide_eq_false (by omega)
      clear hsz hsm hpos
      go_enter Tryz.func3, Tryz.ntmps3
      go_wp2_with fail
      refine (HAW.out _).mono ?_
      rintro e w2 ⟨rfl, h2⟩
      have HE2 := Lib.hid h2
      clear h2
      go_wp2_with fail
      refine (CP _ HE2.out).mono ?_
      rintro e w3 ⟨v1, L1, rfl, hO1, hL1, h3⟩
      have HE3 := Lib.hid (HE2.out.ext h3)
      obtain ⟨a1, c1, hv1⟩ := hO1.shape
      subst hv1
      have HO1 := Lib.hid hO1
      have HL1 := Lib.hid hL1
      have hb3 := alloc0 w3 (.cells #[.int .i64 RL, .int .i64 1] 25)
      have HE4 := Lib.hid ((Upd.refl (fun _ => False) w3).alloc (.cells #[.int .i64 RL, .int .i64 1] 25))
      have HB3 := Lib.hid hb3
      clear h3 hO1 hL1 hb3
      go_wp2_with fail
      generalize w3.alloc (.cells #[.int .i64 RL, .int .i64 1] 25) = w4 at *
      refine (CR _ (HE3.out.ext HE4.out)).mono ?_
      rintro e w5 ⟨v2, L2, rfl, hO2, hL2, h5⟩
      have HE5 := Lib.hid (HE4.out.ext h5)
      obtain ⟨a2, c2, hv2⟩ := hO2.shape
      subst hv2
      have HO2 := Lib.hid hO2
      have HL2 := Lib.hid hL2
      have hb5 := h5.heap HB3.out (fun h => h)
      have hc5 := allocOld hb5 (.cells #[.int .i64 0, .int .i64 0] 25)
      have hd5 := alloc0 w5 (.cells #[.int .i64 0, .int .i64 0] 25)
      have HE6 := Lib.hid ((Upd.refl (fun _ => False) w5).alloc (.cells #[.int .i64 0, .int .i64 0] 25))
      have hlt : w3.heap.size < w5.heap.size := (Array.getElem?_eq_some_iff.1 hb5).1
      have HC5 := Lib.hid hc5
      have HD5 := Lib.hid hd5
      clear h5 hO2 hL2 hb5 hc5 hd5
      have z0 := cellRow HD5.out 0 _ rfl
      have z1 := cellRow HD5.out 1 _ rfl
      have n0 := frozenRow HD5.out 0
      have n1 := frozenRow HD5.out 1
      go_wp2_with (with_reducible (refine stop_at (o := ⟨some 46, _, _, _, _, _⟩) ?_))
      refine Stop.go ?_
      obtain ⟨w6, h6⟩ : ∃ w6, w5.alloc (.cells #[.int .i64 0, .int .i64 0] 25) = w6 := ⟨_, rfl⟩
      rw [h6] at HC5 HD5 HE6 z0 z1 n0 n1 ⊢
      clear h6
      have HD6 := Lib.hid (setBlock (setBlock HD5.out 0 (.int .i64 RL)) 1 (.int .i64 1))
      have HU6 : Hid (Upd (fun k => k = w5.heap.size) w6 ((w6.setCell ⟨w5.heap.size, 0, none⟩ (.int .i64 RL)).setCell ⟨w5.heap.size, 1, none⟩ (.int .i64 1))) := (updAt (w := w6) (g := w5.heap.size) (j := 0) (.int .i64 RL)).trans (updAt (g := w5.heap.size) (j := 1) (.int .i64 1))
      have HC6 := Lib.hid (HU6.out.heap HC5.out (by omega))
      have HO16 := Lib.hid ((HO1.out.kept (HE5.out.ext HE6.out) (fun _ _ h => h)).kept HU6.out (fun k hk he => by omega))
      have HO26 := Lib.hid ((HO2.out.kept HE6.out (fun _ _ h => h)).kept HU6.out (fun k hk he => by omega))
      obtain ⟨hx1, hx2⟩ := opsL_args HL1.out HPA.out
      obtain ⟨hy1, hy2⟩ := opsL_args HL2.out HPA.out
      have CS := sameops_any _ _ _ _ L1 L2 ((w6.setCell ⟨w5.heap.size, 0, none⟩ (.int .i64 RL)).setCell ⟨w5.heap.size, 1, none⟩ (.int .i64 1)) HO16.out HO26.out (by omega) (by omega) hx2 hy2
      rw [HL1.out, HL2.out, decide_eq_true rfl] at CS
      have HCS := Lib.hid CS
      have HE7 := Lib.hid (ext_upd (HE3.out.ext (HE5.out.ext HE6.out)) HU6.out (fun k hk => by
        have h1 := HE3.out.size
        omega))
      clear CS hx1 hx2 hy1 hy2
      go_wp2_with fail
      refine HCS.out.mono ?_
      rintro e w8 ⟨rfl, h8⟩
      have HE8 := Lib.hid (HE7.out.ext h8)
      have hc8 := h8.heap HC6.out (fun h => h)
      have hd8 := h8.heap HD6.out (fun h => h)
      have q0 := cellRow hc8 0 _ rfl
      have q1 := cellRow hc8 1 _ rfl
      have r0 := cellRow hd8 0 _ rfl
      have r1 := cellRow hd8 1 _ rfl
      clear h8 hc8 hd8 z0 z1 n0 n1
      simp at r0 r1
      go_wp2_with fail
      go_ret
      exact ⟨rfl, HE8.out⟩
    · have t1 : decide ((2500 : Int) < (t.size : Int)) = true := decide_eq_true (by omega)
      have t1' : decide (2500 < t.size) = true := decide_eq_true (by omega)
      have t2 : decide ((t.size : Int) ≤ 65536) = false := decide_eq_false (by omega)
      have t2' : decide (t.size ≤ 65536) = false := decide_eq_false (by omega)
      have t3 : decide ((65636 : Int) < (t.size : Int)) = false := decide_eq_false (by omega)
      have t3' : decide (65636 < t.size) = false := decide_eq_false (by omega)
      clear hsz hsm hpos
      go_enter Tryz.func3, Tryz.ntmps3
      go_wp2_with fail
      refine (HAW.out _).mono ?_
      rintro e w2 ⟨rfl, h2⟩
      have HE2 := Lib.hid h2
      clear h2
      go_wp2_with fail
      refine (CP _ HE2.out).mono ?_
      rintro e w3 ⟨v1, L1, rfl, hO1, hL1, h3⟩
      have HE3 := Lib.hid (HE2.out.ext h3)
      obtain ⟨a1, c1, hv1⟩ := hO1.shape
      subst hv1
      have HO1 := Lib.hid hO1
      have HL1 := Lib.hid hL1
      have hb3 := alloc0 w3 (.cells #[.int .i64 RL, .int .i64 1] 25)
      have HE4 := Lib.hid ((Upd.refl (fun _ => False) w3).alloc (.cells #[.int .i64 RL, .int .i64 1] 25))
      have HB3 := Lib.hid hb3
      clear h3 hO1 hL1 hb3
      go_wp2_with fail
      generalize w3.alloc (.cells #[.int .i64 RL, .int .i64 1] 25) = w4 at *
      refine (CR _ (HE3.out.ext HE4.out)).mono ?_
      rintro e w5 ⟨v2, L2, rfl, hO2, hL2, h5⟩
      have HE5 := Lib.hid (HE4.out.ext h5)
      obtain ⟨a2, c2, hv2⟩ := hO2.shape
      subst hv2
      have HO2 := Lib.hid hO2
      have HL2 := Lib.hid hL2
      have hb5 := h5.heap HB3.out (fun h => h)
      have hc5 := allocOld hb5 (.cells #[.int .i64 0, .int .i64 0] 25)
      have hd5 := alloc0 w5 (.cells #[.int .i64 0, .int .i64 0] 25)
      have HE6 := Lib.hid ((Upd.refl (fun _ => False) w5).alloc (.cells #[.int .i64 0, .int .i64 0] 25))
      have hlt : w3.heap.size < w5.heap.size := (Array.getElem?_eq_some_iff.1 hb5).1
      have HC5 := Lib.hid hc5
      have HD5 := Lib.hid hd5
      clear h5 hO2 hL2 hb5 hc5 hd5
      have z0 := cellRow HD5.out 0 _ rfl
      have z1 := cellRow HD5.out 1 _ rfl
      have n0 := frozenRow HD5.out 0
      have n1 := frozenRow HD5.out 1
      go_wp2_with (with_reducible (refine stop_at (o := ⟨some 46, _, _, _, _, _⟩) ?_))
      refine Stop.go ?_
      obtain ⟨w6, h6⟩ : ∃ w6, w5.alloc (.cells #[.int .i64 0, .int .i64 0] 25) = w6 := ⟨_, rfl⟩
      rw [h6] at HC5 HD5 HE6 z0 z1 n0 n1 ⊢
      clear h6
      have HD6 := Lib.hid (setBlock (setBlock HD5.out 0 (.int .i64 RL)) 1 (.int .i64 1))
      have HU6 : Hid (Upd (fun k => k = w5.heap.size) w6 ((w6.setCell ⟨w5.heap.size, 0, none⟩ (.int .i64 RL)).setCell ⟨w5.heap.size, 1, none⟩ (.int .i64 1))) := (updAt (w := w6) (g := w5.heap.size) (j := 0) (.int .i64 RL)).trans (updAt (g := w5.heap.size) (j := 1) (.int .i64 1))
      have HC6 := Lib.hid (HU6.out.heap HC5.out (by omega))
      have HO16 := Lib.hid ((HO1.out.kept (HE5.out.ext HE6.out) (fun _ _ h => h)).kept HU6.out (fun k hk he => by omega))
      have HO26 := Lib.hid ((HO2.out.kept HE6.out (fun _ _ h => h)).kept HU6.out (fun k hk he => by omega))
      obtain ⟨hx1, hx2⟩ := opsL_args HL1.out HPA.out
      obtain ⟨hy1, hy2⟩ := opsL_args HL2.out HPA.out
      have CS := sameops_any _ _ _ _ L1 L2 ((w6.setCell ⟨w5.heap.size, 0, none⟩ (.int .i64 RL)).setCell ⟨w5.heap.size, 1, none⟩ (.int .i64 1)) HO16.out HO26.out (by omega) (by omega) hx2 hy2
      rw [HL1.out, HL2.out, decide_eq_true rfl] at CS
      have HCS := Lib.hid CS
      have HE7 := Lib.hid (ext_upd (HE3.out.ext (HE5.out.ext HE6.out)) HU6.out (fun k hk => by
        have h1 := HE3.out.size
        omega))
      clear CS hx1 hx2 hy1 hy2
      go_wp2_with fail
      refine HCS.out.mono ?_
      rintro e w8 ⟨rfl, h8⟩
      have HE8 := Lib.hid (HE7.out.ext h8)
      have hc8 := h8.heap HC6.out (fun h => h)
      have hd8 := h8.heap HD6.out (fun h => h)
      have q0 := cellRow hc8 0 _ rfl
      have q1 := cellRow hc8 1 _ rfl
      have r0 := cellRow hd8 0 _ rfl
      have r1 := cellRow hd8 1 _ rfl
      clear h8 hc8 hd8 z0 z1 n0 n1
      simp at r0 r1
      go_wp2_with fail
      go_ret
      exact ⟨rfl, HE8.out⟩
  · have p1 : decide (0 < RL) = false := decide_eq_false hpos
    obtain rfl : RL = 0 := by omega
    obtain rfl : PC = 0 := by rw [← hPC, if_neg hpos]
    clear hPC
    by_cases hsm : t.size ≤ 2500
    · have t1 : decide ((2500 : Int) < (t.size : Int)) = false := decide_eq_false (by omega)
      have t1' : decide (2500 < t.size) = false := decide_eq_false (by omega)
      have t3 : decide ((65636 : Int) < (t.size : Int)) = false := decide_eq_false (by omega)
      have t3' : decide (65636 < t.size) = false := decide_eq_false (by omega)
      clear hsz hsm hpos
      go_enter Tryz.func3, Tryz.ntmps3
      go_wp2_with fail
      refine (HAW.out _).mono ?_
      rintro e w2 ⟨rfl, h2⟩
      have HE2 := Lib.hid h2
      clear h2
      go_wp2_with fail
      refine (CP _ HE2.out).mono ?_
      rintro e w3 ⟨v1, L1, rfl, hO1, hL1, h3⟩
      have HE3 := Lib.hid (HE2.out.ext h3)
      obtain ⟨a1, c1, hv1⟩ := hO1.shape
      subst hv1
      have HO1 := Lib.hid hO1
      have HL1 := Lib.hid hL1
      have hb3 := alloc0 w3 (.cells #[.int .i64 0, .int .i64 0] 25)
      have HE4 := Lib.hid ((Upd.refl (fun _ => False) w3).alloc (.cells #[.int .i64 0, .int .i64 0] 25))
      have HB3 := Lib.hid hb3
      clear h3 hO1 hL1 hb3
      go_wp2_with fail
      generalize w3.alloc (.cells #[.int .i64 0, .int .i64 0] 25) = w4 at *
      refine (CR _ (HE3.out.ext HE4.out)).mono ?_
      rintro e w5 ⟨v2, L2, rfl, hO2, hL2, h5⟩
      have HE5 := Lib.hid (HE4.out.ext h5)
      obtain ⟨a2, c2, hv2⟩ := hO2.shape
      subst hv2
      have HO2 := Lib.hid hO2
      have HL2 := Lib.hid hL2
      have hb5 := h5.heap HB3.out (fun h => h)
      have hc5 := allocOld hb5 (.cells #[.int .i64 0, .int .i64 0] 25)
      have hd5 := alloc0 w5 (.cells #[.int .i64 0, .int .i64 0] 25)
      have HE6 := Lib.hid ((Upd.refl (fun _ => False) w5).alloc (.cells #[.int .i64 0, .int .i64 0] 25))
      have hlt : w3.heap.size < w5.heap.size := (Array.getElem?_eq_some_iff.1 hb5).1
      have HC5 := Lib.hid hc5
      have HD5 := Lib.hid hd5
      clear h5 hO2 hL2 hb5 hc5 hd5
      have z0 := cellRow HD5.out 0 _ rfl
      have z1 := cellRow HD5.out 1 _ rfl
      have n0 := frozenRow HD5.out 0
      have n1 := frozenRow HD5.out 1
      go_wp2_with (with_reducible (refine stop_at (o := ⟨some 46, _, _, _, _, _⟩) ?_))
      refine Stop.go ?_
      obtain ⟨w6, h6⟩ : ∃ w6, w5.alloc (.cells #[.int .i64 0, .int .i64 0] 25) = w6 := ⟨_, rfl⟩
      rw [h6] at HC5 HD5 HE6 z0 z1 n0 n1 ⊢
      clear h6
      have HD6 := HD5
      have HU6 : Hid (Upd (fun k => k = w5.heap.size) w6 w6) := Upd.refl _ _
      have HC6 := Lib.hid (HU6.out.heap HC5.out (by omega))
      have HO16 := Lib.hid ((HO1.out.kept (HE5.out.ext HE6.out) (fun _ _ h => h)).kept HU6.out (fun k hk he => by omega))
      have HO26 := Lib.hid ((HO2.out.kept HE6.out (fun _ _ h => h)).kept HU6.out (fun k hk he => by omega))
      obtain ⟨hx1, hx2⟩ := opsL_args HL1.out HPA.out
      obtain ⟨hy1, hy2⟩ := opsL_args HL2.out HPA.out
      have CS := sameops_any _ _ _ _ L1 L2 w6 HO16.out HO26.out (by omega) (by omega) hx2 hy2
      rw [HL1.out, HL2.out, decide_eq_true rfl] at CS
      have HCS := Lib.hid CS
      have HE7 := Lib.hid (ext_upd (HE3.out.ext (HE5.out.ext HE6.out)) HU6.out (fun k hk => by
        have h1 := HE3.out.size
        omega))
      clear CS hx1 hx2 hy1 hy2
      go_wp2_with fail
      refine HCS.out.mono ?_
      rintro e w8 ⟨rfl, h8⟩
      have HE8 := Lib.hid (HE7.out.ext h8)
      have hc8 := h8.heap HC6.out (fun h => h)
      have hd8 := h8.heap HD6.out (fun h => h)
      have q0 := cellRow hc8 0 _ rfl
      have q1 := cellRow hc8 1 _ rfl
      have r0 := cellRow hd8 0 _ rfl
      have r1 := cellRow hd8 1 _ rfl
      clear h8 hc8 hd8 z0 z1 n0 n1
      simp at r0 r1
      go_wp2_with fail
      go_ret
      exact ⟨rfl, HE8.out⟩
    · have t1 : decide ((2500 : Int) < (t.size : Int)) = true := decide_eq_true (by omega)
      have t1' : decide (2500 < t.size) = true := decide_eq_true (by omega)
      have t2 : decide ((t.size : Int) ≤ 65536) = false := decide_eq_false (by omega)
      have t2' : decide (t.size ≤ 65536) = false := decide_eq_false (by omega)
      have t3 : decide ((65636 : Int) < (t.size : Int)) = false := decide_eq_false (by omega)
      have t3' : decide (65636 < t.size) = false := decide_eq_false (by omega)
      clear hsz hsm hpos
      go_enter Tryz.func3, Tryz.ntmps3
      go_wp2_with fail
      refine (HAW.out _).mono ?_
      rintro e w2 ⟨rfl, h2⟩
      have HE2 := Lib.hid h2
      clear h2
      go_wp2_with fail
      refine (CP _ HE2.out).mono ?_
      rintro e w3 ⟨v1, L1, rfl, hO1, hL1, h3⟩
      have HE3 := Lib.hid (HE2.out.ext h3)
      obtain ⟨a1, c1, hv1⟩ := hO1.shape
      subst hv1
      have HO1 := Lib.hid hO1
      have HL1 := Lib.hid hL1
      have hb3 := alloc0 w3 (.cells #[.int .i64 0, .int .i64 0] 25)
      have HE4 := Lib.hid ((Upd.refl (fun _ => False) w3).alloc (.cells #[.int .i64 0, .int .i64 0] 25))
      have HB3 := Lib.hid hb3
      clear h3 hO1 hL1 hb3
      go_wp2_with fail
      generalize w3.alloc (.cells #[.int .i64 0, .int .i64 0] 25) = w4 at *
      refine (CR _ (HE3.out.ext HE4.out)).mono ?_
      rintro e w5 ⟨v2, L2, rfl, hO2, hL2, h5⟩
      have HE5 := Lib.hid (HE4.out.ext h5)
      obtain ⟨a2, c2, hv2⟩ := hO2.shape
      subst hv2
      have HO2 := Lib.hid hO2
      have HL2 := Lib.hid hL2
      have hb5 := h5.heap HB3.out (fun h => h)
      have hc5 := allocOld hb5 (.cells #[.int .i64 0, .int .i64 0] 25)
      have hd5 := alloc0 w5 (.cells #[.int .i64 0, .int .i64 0] 25)
      have HE6 := Lib.hid ((Upd.refl (fun _ => False) w5).alloc (.cells #[.int .i64 0, .int .i64 0] 25))
      have hlt : w3.heap.size < w5.heap.size := (Array.getElem?_eq_some_iff.1 hb5).1
      have HC5 := Lib.hid hc5
      have HD5 := Lib.hid hd5
      clear h5 hO2 hL2 hb5 hc5 hd5
      have z0 := cellRow HD5.out 0 _ rfl
      have z1 := cellRow HD5.out 1 _ rfl
      have n0 := frozenRow HD5.out 0
      have n1 := frozenRow HD5.out 1
      go_wp2_with (with_reducible (refine stop_at (o := ⟨some 46, _, _, _, _, _⟩) ?_))
      refine Stop.go ?_
      obtain ⟨w6, h6⟩ : ∃ w6, w5.alloc (.cells #[.int .i64 0, .int .i64 0] 25) = w6 := ⟨_, rfl⟩
      rw [h6] at HC5 HD5 HE6 z0 z1 n0 n1 ⊢
      clear h6
      have HD6 := HD5
      have HU6 : Hid (Upd (fun k => k = w5.heap.size) w6 w6) := Upd.refl _ _
      have HC6 := Lib.hid (HU6.out.heap HC5.out (by omega))
      have HO16 := Lib.hid ((HO1.out.kept (HE5.out.ext HE6.out) (fun _ _ h => h)).kept HU6.out (fun k hk he => by omega))
      have HO26 := Lib.hid ((HO2.out.kept HE6.out (fun _ _ h => h)).kept HU6.out (fun k hk he => by omega))
      obtain ⟨hx1, hx2⟩ := opsL_args HL1.out HPA.out
      obtain ⟨hy1, hy2⟩ := opsL_args HL2.out HPA.out
      have CS := sameops_any _ _ _ _ L1 L2 w6 HO16.out HO26.out (by omega) (by omega) hx2 hy2
      rw [HL1.out, HL2.out, decide_eq_true rfl] at CS
      have HCS := Lib.hid CS
      have HE7 := Lib.hid (ext_upd (HE3.out.ext (HE5.out.ext HE6.out)) HU6.out (fun k hk => by
        have h1 := HE3.out.size
        omega))
      clear CS hx1 hx2 hy1 hy2
      go_wp2_with fail
      refine HCS.out.mono ?_
      rintro e w8 ⟨rfl, h8⟩
      have HE8 := Lib.hid (HE7.out.ext h8)
      have hc8 := h8.heap HC6.out (fun h => h)
      have hd8 := h8.heap HD6.out (fun h => h)
      have q0 := cellRow hc8 0 _ rfl
      have q1 := cellRow hc8 1 _ rfl
      have r0 := cellRow hd8 0 _ rfl
      have r1 := cellRow hd8 1 _ rfl
      clear h8 hc8 hd8 z0 z1 n0 n1
      simp at r0 r1
      go_wp2_with fail
      go_ret
      exact ⟨rfl, HE8.out⟩

theorem parses_law (t : ByteArray) (w : World) (hE : Env w) : Calls Tryz.prog 3 #[.string t] w fun e w' => e = .returned (.bool true) ∧ Ext w w' := by
  cases hz : sizeB t.size with
  | true => exact parses_a t w hz
  | false => exact parses_b t w hE hz

end Go.Proofs.YthpekfpeoglbgaaGreatDoor
