/- Which kinds there are, and how many codes. -/
import Derived.Test.YthpekfpeoglbgaaGreatDoorW3
import Derived.Outline
namespace Go.Proofs.YthpekfpeoglbgaaGreatDoor
open Go.RowKit Go.Hw
set_option linter.unusedVariables false
set_option linter.unusedSimpArgs false

set_option maxHeartbeats 400000 in
/-- model.New -/
theorem new_yes (kind : Int) (w : World) (hk : 1 ≤ kind ∧ kind ≤ 6) : Calls Tryz.prog 62 #[.int .i64 kind] w fun e w' => e = .returned (.tuple #[.agg #[.int .i64 kind, .slice none 0 0], .int .i64 0]) ∧ Ext w w' := by
  have hz : ∀ (w : World) a n c, (binOp .eql 94 (.slice a n c) (.slice none 0 0)).run Tryz.prog w = .ok (.bool a.isNone) w := fun w a n c => Lib.run_eql_slice_nil (P := Tryz.prog) w 94 99 a n c 0 0 Tryz.underlying94
  have HW : Hid (∀ W, Calls Tryz.prog 47 #[.int .i64 kind] W fun e w' => ∃ v, e = .returned v ∧ WordsP kind W w' v) := fun W => words_known kind W hk
  have HB : Hid ((w.alloc (.cells #[.int .i64 0, .slice none 0 0] 114)).heap[w.heap.size]? = some (.cells #[.int .i64 0, .slice none 0 0] 114)) := alloc0 _ _
  go_enter Tryz.func62, Tryz.ntmps62
  go_wp2_with fail
  refine (HW.out _).mono ?_
  rintro e w1 ⟨v, rfl, hE, g, rfl, _⟩
  have HE : Hid (Ext w w1) := ((Upd.refl _ w).alloc _).ext hE
  have hb := hE.heap HB.out (fun h => h)
  have c0 := cellRow hb 0 _ rfl
  have c1 := cellRow hb 1 _ rfl
  have f0 := frozenRow hb 0
  have f1 := frozenRow hb 1
  clear hE hb
  go_wp2_with fail
  exact bodyPost_ret (v := .tuple #[.agg #[.int .i64 kind, .slice none 0 0], .int .i64 0]) (by simp [results, Tryz.results62, go_sem, c0, c1]) rfl ⟨rfl, (HE.out.setCell (.inr (Nat.le_refl _)) _).setCell (.inr (Nat.le_refl _)) _⟩
set_option maxHeartbeats 400000 in
theorem new_no (kind : Int) (w : World) (hk : ¬ (1 ≤ kind ∧ kind ≤ 6)) : Calls Tryz.prog 62 #[.int .i64 kind] w fun e w' => e = .returned (.tuple #[.agg #[.int .i64 0, .slice none 0 0], .int .i64 1]) ∧ Ext w w' := by
  have hz : ∀ (w : World) a n c, (binOp .eql 94 (.slice a n c) (.slice none 0 0)).run Tryz.prog w = .ok (.bool a.isNone) w := fun w a n c => Lib.run_eql_slice_nil (P := Tryz.prog) w 94 99 a n c 0 0 Tryz.underlying94
  have HW : Hid (∀ W, Calls Tryz.prog 47 #[.int .i64 kind] W fun e w' => e = .returned (.slice none 0 0) ∧ W = w') := fun W => words_none kind W hk
  go_enter Tryz.func62, Tryz.ntmps62
  go_wp2_with fail
  refine (HW.out _).mono ?_
  rintro e w1 ⟨rfl, rfl⟩
  go_wp2_with fail
  exact bodyPost_ret (v := .tuple #[.agg #[.int .i64 0, .slice none 0 0], .int .i64 1]) (by simp [results, Tryz.results62, go_sem]) rfl ⟨rfl, (Upd.refl _ w).alloc _⟩

set_option maxHeartbeats 400000 in
/-- workload.known -/
theorem known_any (kind : Int) (w : World) : Calls Tryz.prog 35 #[.int .i64 kind] w fun e w' => e = .returned (.bool (knownB kind)) ∧ Ext w w' := by
  by_cases hk : 1 ≤ kind ∧ kind ≤ 6
  · have e1 : knownB kind = true := by simp [knownB, hk]
    rw [e1]
    have H1 := Lib.hid (new_yes kind w hk)
    clear e1 hk
    go_enter Tryz.func35, Tryz.ntmps35
    go_wp2_with fail
    refine H1.out.mono ?_
    rintro e w1 ⟨rfl, hE⟩
    have HE := Lib.hid hE
    clear hE
    go_wp2_with fail
    go_ret
    exact ⟨rfl, HE.out.alloc _⟩
  · have e1 : knownB kind = false := by simp only [knownB, hk, decide_false]
    rw [e1]
    have H1 := Lib.hid (new_no kind w hk)
    clear e1 hk
    go_enter Tryz.func35, Tryz.ntmps35
    go_wp2_with fail
    refine H1.out.mono ?_
    rintro e w1 ⟨rfl, hE⟩
    have HE := Lib.hid hE
    clear hE
    go_wp2_with fail
    go_ret
    exact ⟨rfl, HE.out.alloc _⟩

/-- the error number of a code -/
def codeErr (kind code : Int) : Int := if 1 ≤ kind ∧ kind ≤ 6 then if 1 ≤ code ∧ code ≤ nW kind then 0 else 2 else 1
set_option maxHeartbeats 1000000 in
/-- model.IsUpdate -/
theorem upd_any (kind : Int) (n : Nat) (w : World) : Calls Tryz.prog 70 #[.int .i64 kind, .int .i64 ((n : Int) + 1)] w fun e w' => ∃ b, e = .returned (.tuple #[.bool b, .int .i64 (codeErr kind ((n : Int) + 1))]) ∧ Ext w w' := by
  have hz : ∀ (w : World) a n c, (binOp .eql 94 (.slice a n c) (.slice none 0 0)).run Tryz.prog w = .ok (.bool a.isNone) w := fun w a n c => Lib.run_eql_slice_nil (P := Tryz.prog) w 94 99 a n c 0 0 Tryz.underlying94
  by_cases hk : 1 ≤ kind ∧ kind ≤ 6
  · have HW : Hid (∀ W, Calls Tryz.prog 47 #[.int .i64 kind] W fun e w' => ∃ v, e = .returned v ∧ WordsP kind W w' v) := fun W => words_known kind W hk
    have h8 := nW_le kind
    by_cases hn : n < nW kind
    · have e1 : codeErr kind ((n : Int) + 1) = 0 := by unfold codeErr; rw [if_pos hk, if_pos (by omega)]
      rw [e1]; clear e1
      have hj : ((n : Int) + 1) ≤ nW kind := by omega
      have hj2 : ¬ (nW kind : Int) < (n : Int) + 1 := by omega
      go_enter Tryz.func70, Tryz.ntmps70
      go_wp2_with fail
      refine (HW.out _).mono ?_
      rintro e w1 ⟨v, rfl, hE, g, rfl, hrow⟩
      obtain ⟨sx, bx, d0, d1, d2⟩ := hrow n hn
      have HE := Lib.hid hE
      clear hE hrow
      go_wp2_with fail
      go_ret2
      exact ⟨_, rfl, HE.out⟩
    · have e1 : codeErr kind ((n : Int) + 1) = 2 := by unfold codeErr; rw [if_pos hk, if_neg (by omega)]
      rw [e1]; clear e1
      have hj : (nW kind : Int) < (n : Int) + 1 := by omega
      have hj3 : 1 ≤ (n : Int) + 1 := by omega
      go_enter Tryz.func70, Tryz.ntmps70
      go_wp2_with fail
      refine (HW.out _).mono ?_
      rintro e w1 ⟨v, rfl, hE, g, rfl, hrow⟩
      have HE := Lib.hid hE
      clear hE hrow
      go_wp2_with fail
      go_ret2
      exact ⟨_, rfl, HE.out⟩
  · have HW : Hid (∀ W, Calls Tryz.prog 47 #[.int .i64 kind] W fun e w' => e = .returned (.slice none 0 0) ∧ W = w') := fun W => words_none kind W hk
    have e1 : codeErr kind ((n : Int) + 1) = 1 := by unfold codeErr; rw [if_neg hk]
    rw [e1]; clear e1
    go_enter Tryz.func70, Tryz.ntmps70
    go_wp2_with fail
    refine (HW.out _).mono ?_
    rintro e w1 ⟨rfl, rfl⟩
    go_wp2_with fail
    go_ret2
    exact ⟨_, rfl, Upd.refl _ _⟩

set_option maxHeartbeats 400000 in
/-- workload.codes -/
theorem codes_any (kind : Int) (w : World) : Calls Tryz.prog 43 #[.int .i64 kind] w fun e w' => e = .returned (.int .i64 (nW kind)) ∧ Ext w w' := by
  have HU : Hid (∀ (n : Nat) W, Calls Tryz.prog 70 #[.int .i64 kind, .int .i64 ((n : Int) + 1)] W fun e w' => ∃ b, e = .returned (.tuple #[.bool b, .int .i64 (codeErr kind ((n : Int) + 1))]) ∧ Ext W w') := fun n W => upd_any kind n W
  have h8 := nW_le kind
  have HK := Lib.hid (nW_known kind)
  go_enter Tryz.func43, Tryz.ntmps43
  go_wp2_with fail
  go_loopg [3] (nW kind) (fun gk i wr => ∃ j : Nat, i = .int .i64 j ∧ gk = nW kind - j ∧ j ≤ nW kind ∧ Hid (Ext w wr))
  case atStart => exact ⟨0, rfl, rfl, Nat.zero_le _, Upd.refl _ _⟩
  case round =>
    obtain ⟨j, rfl, rfl, hj, HE⟩ := hrel
    by_cases hlt : j < nW kind
    · have e1 : codeErr kind ((j : Int) + 1) = 0 := by unfold codeErr; rw [if_pos (HK.out.1 (by omega)), if_pos (by omega)]
      have H1 := Lib.hid (HU.out j wr)
      rw [e1] at H1
      clear e1
      go_wp2_with fail
      refine H1.out.mono ?_
      rintro e w1 ⟨b, rfl, hE⟩
      have HE1 := Lib.hid (HE.out.ext hE)
      clear hE
      go_wp2_with fail
      go_roundg (nW kind - (j + 1))
      case measure => omega
      case rel => exact ⟨j + 1, by go_num, rfl, by omega, HE1⟩
    · obtain rfl : j = nW kind := by omega
      have e1 : (codeErr kind ((nW kind : Int) + 1) != 0) = true := by unfold codeErr; by_cases hk : 1 ≤ kind ∧ kind ≤ 6; rw [if_pos hk, if_neg (by omega)]; rfl; rw [if_neg hk]; rfl
      have H1 := Lib.hid (HU.out (nW kind) wr)
      go_wp2_with fail
      refine H1.out.mono ?_
      rintro e w1 ⟨b, rfl, hE⟩
      have HE1 := Lib.hid (HE.out.ext hE)
      clear hE
      go_wp2_with fail
      go_ret
      exact ⟨rfl, HE1.out⟩

/-- workload.characters -/
theorem chars_any (kind code : Int) (w : World) : Calls Tryz.prog 41 #[.int .i64 kind, .int .i64 code] w fun e w' => e = .returned (.bool (charsB kind code)) ∧ w = w' := by
  by_cases h1 : kind = 6
  · by_cases h2 : code = 4
    · have e1 : charsB kind code = false := by simp [charsB, h2]
      rw [e1]
      have t1 : (kind == 6) = true := by simpa using h1
      have t2 : (code != 4) = false := by simpa using h2
      clear e1 h1 h2
      go_enter Tryz.func41, Tryz.ntmps41
      go_wp2
      go_ret
      exact ⟨rfl, rfl⟩
    · have e1 : charsB kind code = true := by simp [charsB, h1, h2]
      rw [e1]
      have t1 : (kind == 6) = true := by simpa using h1
      have t2 : (code != 4) = true := by simpa using h2
      clear e1 h1 h2
      go_enter Tryz.func41, Tryz.ntmps41
      go_wp2
      go_ret
      exact ⟨rfl, rfl⟩
  · have e1 : charsB kind code = false := by simp [charsB, h1]
    rw [e1]
    have t1 : (kind == 6) = false := by simpa using h1
    clear e1 h1
    go_enter Tryz.func41, Tryz.ntmps41
    go_wp2
    go_ret
    exact ⟨rfl, rfl⟩

def seedB (n : Int) : Bool := decide (1 ≤ n ∧ n < 2147483647)

theorem seeded_any (n : Int) (w : World) : Calls Tryz.prog 38 #[.int .i64 n] w fun e w' => e = .returned (.bool (seedB n)) ∧ w = w' := by
  by_cases h1 : 1 ≤ n <;> by_cases h2 : n < 2147483647
  all_goals
    go_enter Tryz.func38, Tryz.ntmps38
    go_wp2
    go_ret
    exact ⟨by simp [seedB, h1, h2], rfl⟩

/-- the place in the sequence, in memory -/
def SeqB (w : World) (b : Nat) (x : Int) : Prop := w.heap[b]? = some (.cells #[.int .i64 x] 87)
theorem SeqB.set {w : World} {b : Nat} {x : Int} (h : SeqB w b x) (y : Int) : SeqB (w.setCell ⟨b, 0, none⟩ (.int .i64 y)) b y := by
  unfold SeqB at h ⊢
  simp [World.setCell, Array.getElem?_modify, h]
set_option maxHeartbeats 400000 in
theorem next_any (b : Nat) (x : Int) (w : World) (h : SeqB w b x) (h0 : 0 ≤ x) (h1 : x < 2147483647) :
    Calls Tryz.prog 39 #[.pointer (some ⟨b, 0, none⟩)] w fun e w' => e = .returned (.int .i64 (nx x)) ∧ SeqB w' b (nx x) ∧ Upd (· = b) w w' := by
  have c0 := cellRow h 0 _ rfl
  have f0 := frozenRow h 0
  obtain ⟨y, hy⟩ : ∃ y, y = nx x := ⟨_, rfl⟩
  have HS := Lib.hid (h.set y)
  rw [← hy]
  have HY : Hid (x * 48271 % 2147483647 = y) := hy.symm
  have Hh := Lib.hid h
  clear hy h
  go_enter Tryz.func39, Tryz.ntmps39
  go_wp2
  go_ret
  have e := HY.out
  subst e
  exact ⟨rfl, HS.out, (Upd.refl (· = b) w).setCell (p := ⟨b, 0, none⟩) (.inl rfl) _⟩

end Go.Proofs.YthpekfpeoglbgaaGreatDoor
