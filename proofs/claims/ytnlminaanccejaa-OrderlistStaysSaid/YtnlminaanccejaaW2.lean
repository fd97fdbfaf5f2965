/- The walks of the list's methods that only read. -/
import Derived.Test.YtnlminaanccejaaW1
import Derived.Lib.Hide
import Derived.BigQuiet
import Derived.Deep.QuietTactic
namespace Go.Proofs.Ytnlminaanccejaa
open Go.RowKit Go.Hw
set_option linter.unusedVariables false
set_option linter.unusedSimpArgs false

structure WF (M : LM) : Prop where
  len : M.l.length ≤ 2000
  first : M.first < 0 ∨ M.first < M.l.length
  links : ∀ k, k < M.l.length → ((M.at k).nxt < 0 ∨ (M.at k).nxt < M.l.length) ∧ ((M.at k).prev < 0 ∨ (M.at k).prev < M.l.length) ∧ 0 ≤ (M.at k).label ∧ (M.at k).label ≤ 1099511627776
  n0 : 0 ≤ M.n
  n1 : M.n ≤ M.l.length
  m0 : 0 ≤ M.moves
  m1 : M.moves ≤ 2000 * M.l.length + 2000

def LM.gapLow (M : LM) (x : Int) : Int := if x < 0 then -1 else (M.at x).label
def LM.gapHigh (M : LM) (x : Int) : Int := if M.after x < 0 then 1099511627777 else (M.at (M.after x)).label
def LM.has (M : LM) (x : Int) : Bool := decide (0 ≤ x) && decide (x < M.l.length) && (M.at x).inn

theorem WF.after {M : LM} (h : WF M) {x : Int} (hx : x < 0 ∨ x < M.l.length) : M.after x < 0 ∨ M.after x < M.l.length := by
  unfold LM.after
  split
  · exact h.first
  · obtain ⟨k, rfl⟩ := Int.eq_ofNat_of_zero_le (a := x) (by omega)
    exact (h.links k (by omega)).1

/-- the label of element x, as a cell -/
theorem LRep.lab {base : Nat} {w : World} {b : Nat} {v : Value} {M : LM} (h : LRep base w b v M) (k : Nat) (hk : k < M.l.length) :
    ∃ g cap, w.cell? ⟨b, 0, none⟩ = some (.slice (some ⟨g, 0, none⟩) M.l.length cap) ∧ w.cell? ⟨g, k * 4, none⟩ = some (.int .i64 (M.at k).label) ∧
      w.cell? ⟨g, k * 4 + 1, none⟩ = some (.int .i64 (M.at k).prev) ∧ w.cell? ⟨g, k * 4 + 2, none⟩ = some (.int .i64 (M.at k).nxt) ∧ w.cell? ⟨g, k * 4 + 3, none⟩ = some (.bool (M.at k).inn) := by
  obtain ⟨g, cap, hv, _⟩ := h.row (by omega)
  refine ⟨g, cap, by rw [h.c0, hv], ?_, ?_, ?_, ?_⟩
  · exact h.el hv hk (j := 0) (by omega)
  · exact h.el hv hk (j := 1) (by omega)
  · exact h.el hv hk (j := 2) (by omega)
  · exact h.el hv hk (j := 3) (by omega)

theorem LM.at_nat (M : LM) (k : Nat) : M.at (k : Int) = M.l.getD k default := by simp [LM.at]

set_option maxHeartbeats 400000 in
theorem gap_nn (base b : Nat) (v : Value) (M : LM) (x : Int) (w : World) (h : LRep base w b v M) (hw : WF M) (hx : x < 0) (ha : M.after x < 0) :
    Calls Try.prog 28 #[.pointer (some ⟨b, 0, none⟩), .int .i64 x] w fun e w' => e = .returned (.tuple #[.int .i64 (M.gapLow x), .int .i64 (M.gapHigh x)]) ∧ w = w' := by
  have hl := hw.len
  have C := after_any base b v M x w h (by omega) (by omega)
  have hA := hw.after (x := x) (by omega)
  have e1 : M.gapLow x = -1 := by simp [LM.gapLow, hx]
  have e2 : M.gapHigh x = 1099511627777 := by simp [LM.gapHigh, ha]
  rw [e1, e2]
  clear e1 e2
  generalize M.after x = y at *
  have HC := Lib.hid C
  clear C hw h
  go_enter Try.func28, Try.ntmps28
  go_wp2_with (go_at_call 30; refine HC.out.mono ?_; rintro e w' ⟨rfl, rfl⟩)
  go_ret2
  exact ⟨rfl, rfl⟩

set_option maxHeartbeats 400000 in
theorem gap_np (base b : Nat) (v : Value) (M : LM) (x : Int) (w : World) (h : LRep base w b v M) (hw : WF M) (hx : x < 0) (ha : 0 ≤ M.after x) :
    Calls Try.prog 28 #[.pointer (some ⟨b, 0, none⟩), .int .i64 x] w fun e w' => e = .returned (.tuple #[.int .i64 (M.gapLow x), .int .i64 (M.gapHigh x)]) ∧ w = w' := by
  have hl := hw.len
  have C := after_any base b v M x w h (by omega) (by omega)
  have hA := hw.after (x := x) (by omega)
  have e1 : M.gapLow x = -1 := by simp [LM.gapLow, hx]
  have e2 : M.gapHigh x = (M.at (M.after x)).label := by simp [LM.gapHigh, show ¬ M.after x < 0 by omega]
  rw [e1, e2]
  clear e1 e2
  generalize M.after x = y at *
  obtain ⟨j, rfl⟩ := Int.eq_ofNat_of_zero_le ha
  obtain ⟨g', cap', d0, d1, _, _, _⟩ := h.lab j (by omega)
  generalize (M.at (j : Int)).label = L2 at *
  have HC := Lib.hid C
  clear C hw h
  go_enter Try.func28, Try.ntmps28
  go_wp2_with (go_at_call 30; refine HC.out.mono ?_; rintro e w' ⟨rfl, rfl⟩)
  go_ret2
  exact ⟨rfl, rfl⟩

set_option maxHeartbeats 400000 in
theorem gap_pn (base b : Nat) (v : Value) (M : LM) (x : Int) (w : World) (h : LRep base w b v M) (hw : WF M) (hx : 0 ≤ x) (hx2 : x < M.l.length) (ha : M.after x < 0) :
    Calls Try.prog 28 #[.pointer (some ⟨b, 0, none⟩), .int .i64 x] w fun e w' => e = .returned (.tuple #[.int .i64 (M.gapLow x), .int .i64 (M.gapHigh x)]) ∧ w = w' := by
  have hl := hw.len
  have C := after_any base b v M x w h (by omega) (by omega)
  have hA := hw.after (x := x) (by omega)
  have e1 : M.gapLow x = (M.at x).label := by simp [LM.gapLow, show ¬ x < 0 by omega]
  have e2 : M.gapHigh x = 1099511627777 := by simp [LM.gapHigh, ha]
  rw [e1, e2]
  clear e1 e2
  generalize M.after x = y at *
  obtain ⟨k, rfl⟩ := Int.eq_ofNat_of_zero_le hx
  obtain ⟨g, cap, c0, c1, _, _, _⟩ := h.lab k (by omega)
  generalize (M.at (k : Int)).label = L1 at *
  have HC := Lib.hid C
  clear C hw h
  go_enter Try.func28, Try.ntmps28
  go_wp2_with (go_at_call 30; refine HC.out.mono ?_; rintro e w' ⟨rfl, rfl⟩)
  go_ret2
  exact ⟨rfl, rfl⟩

set_option maxHeartbeats 400000 in
theorem gap_pp (base b : Nat) (v : Value) (M : LM) (x : Int) (w : World) (h : LRep base w b v M) (hw : WF M) (hx : 0 ≤ x) (hx2 : x < M.l.length) (ha : 0 ≤ M.after x) :
    Calls Try.prog 28 #[.pointer (some ⟨b, 0, none⟩), .int .i64 x] w fun e w' => e = .returned (.tuple #[.int .i64 (M.gapLow x), .int .i64 (M.gapHigh x)]) ∧ w = w' := by
  have hl := hw.len
  have C := after_any base b v M x w h (by omega) (by omega)
  have hA := hw.after (x := x) (by omega)
  have e1 : M.gapLow x = (M.at x).label := by simp [LM.gapLow, show ¬ x < 0 by omega]
  have e2 : M.gapHigh x = (M.at (M.after x)).label := by simp [LM.gapHigh, show ¬ M.after x < 0 by omega]
  rw [e1, e2]
  clear e1 e2
  generalize M.after x = y at *
  obtain ⟨k, rfl⟩ := Int.eq_ofNat_of_zero_le hx
  obtain ⟨g, cap, c0, c1, _, _, _⟩ := h.lab k (by omega)
  generalize (M.at (k : Int)).label = L1 at *
  obtain ⟨j, rfl⟩ := Int.eq_ofNat_of_zero_le ha
  obtain ⟨g', cap', d0, d1, _, _, _⟩ := h.lab j (by omega)
  generalize (M.at (j : Int)).label = L2 at *
  have hgg : g' = g ∧ cap' = cap := by rw [c0] at d0; simp at d0; exact ⟨d0.1.symm, d0.2.symm⟩
  obtain ⟨rfl, rfl⟩ := hgg
  clear d0
  have HC := Lib.hid C
  clear C hw h
  go_enter Try.func28, Try.ntmps28
  go_wp2_with (go_at_call 30; refine HC.out.mono ?_; rintro e w' ⟨rfl, rfl⟩)
  go_ret2
  exact ⟨rfl, rfl⟩

theorem gap_any (base b : Nat) (v : Value) (M : LM) (x : Int) (w : World) (h : LRep base w b v M) (hw : WF M) (hx : x < 0 ∨ x < M.l.length) :
    Calls Try.prog 28 #[.pointer (some ⟨b, 0, none⟩), .int .i64 x] w fun e w' => e = .returned (.tuple #[.int .i64 (M.gapLow x), .int .i64 (M.gapHigh x)]) ∧ w = w' := by
  by_cases h1 : x < 0 <;> by_cases h2 : M.after x < 0
  · exact gap_nn base b v M x w h hw h1 h2
  · exact gap_np base b v M x w h hw h1 (by omega)
  · exact gap_pn base b v M x w h hw (by omega) (by omega) h2
  · exact gap_pp base b v M x w h hw (by omega) (by omega) (by omega)

set_option maxHeartbeats 400000 in
theorem contains_in (base b : Nat) (v : Value) (M : LM) (x : Int) (w : World) (h : LRep base w b v M) (hw : WF M) (hx : 0 ≤ x) (hx2 : x < M.l.length) :
    Calls Try.prog 12 #[.pointer (some ⟨b, 0, none⟩), .int .i64 x] w fun e w' => e = .returned (.bool (M.has x)) ∧ w = w' := by
  have hl := hw.len
  have e1 : M.has x = (M.at x).inn := by simp [LM.has, hx, hx2]
  rw [e1]
  obtain ⟨k, rfl⟩ := Int.eq_ofNat_of_zero_le hx
  obtain ⟨g, cap, c0, _, _, _, c3⟩ := h.lab k (by omega)
  generalize (M.at (k : Int)).inn = L1 at *
  have t1 : decide ((k : Int) < M.l.length) = true := by simpa using hx2
  have t2 : decide ((0 : Int) ≤ (k : Int)) = true := by simp
  clear hw h e1
  go_enter Try.func12, Try.ntmps12
  go_wp2
  go_ret
  exact ⟨rfl, rfl⟩

set_option maxHeartbeats 400000 in
theorem contains_neg (base b : Nat) (v : Value) (M : LM) (x : Int) (w : World) (h : LRep base w b v M) (hx : x < 0) :
    Calls Try.prog 12 #[.pointer (some ⟨b, 0, none⟩), .int .i64 x] w fun e w' => e = .returned (.bool (M.has x)) ∧ w = w' := by
  have e1 : M.has x = false := by simp [LM.has, show ¬ 0 ≤ x by omega]
  rw [e1]
  have t2 : decide ((0 : Int) ≤ x) = false := by simp; omega
  have c0 := h.c0
  clear h e1
  go_enter Try.func12, Try.ntmps12
  go_wp2
  go_ret
  exact ⟨rfl, rfl⟩

/-- the slice's value, whatever it is -/
theorem LRep.shape {base : Nat} {w : World} {b : Nat} {v : Value} {M : LM} (h : LRep base w b v M) : ∃ a cap, v = .slice a M.l.length cap := by
  rcases h.2.2.1.2 with ⟨h1, h2⟩ | ⟨g, cap, cur, hv, _⟩
  · exact ⟨none, 0, by rw [h1, h2]⟩
  · exact ⟨_, _, hv⟩

set_option maxHeartbeats 400000 in
theorem contains_big (base b : Nat) (v : Value) (M : LM) (x : Int) (w : World) (h : LRep base w b v M) (hw : WF M) (hx : 0 ≤ x) (hx2 : M.l.length ≤ x) :
    Calls Try.prog 12 #[.pointer (some ⟨b, 0, none⟩), .int .i64 x] w fun e w' => e = .returned (.bool (M.has x)) ∧ w = w' := by
  have e1 : M.has x = false := by simp [LM.has, show ¬ x < M.l.length by omega]
  rw [e1]
  have hl := hw.len
  obtain ⟨a, cap, hv⟩ := h.shape
  have c0 := h.c0
  rw [hv] at c0
  have t1 : decide (x < M.l.length) = false := by simp; omega
  have t2 : decide ((0 : Int) ≤ x) = true := by simpa using hx
  clear h e1 hv hw
  go_enter Try.func12, Try.ntmps12
  go_wp2
  go_ret
  exact ⟨rfl, rfl⟩

theorem contains_any (base b : Nat) (v : Value) (M : LM) (x : Int) (w : World) (h : LRep base w b v M) (hw : WF M) :
    Calls Try.prog 12 #[.pointer (some ⟨b, 0, none⟩), .int .i64 x] w fun e w' => e = .returned (.bool (M.has x)) ∧ w = w' := by
  by_cases h1 : x < 0
  · exact contains_neg base b v M x w h h1
  · by_cases h2 : x < M.l.length
    · exact contains_in base b v M x w h hw (by omega) h2
    · exact contains_big base b v M x w h hw (by omega) (by omega)

set_option maxHeartbeats 400000 in
theorem contains_nil (x : Int) (w : World) :
    Calls Try.prog 12 #[.pointer none, .int .i64 x] w fun e w' => e = .returned (.bool false) ∧ w = w' := by
  go_enter Try.func12, Try.ntmps12
  go_wp2
  go_ret
  exact ⟨rfl, rfl⟩

set_option maxHeartbeats 400000 in
theorem len_any (base b : Nat) (v : Value) (M : LM) (w : World) (h : LRep base w b v M) :
    Calls Try.prog 11 #[.pointer (some ⟨b, 0, none⟩)] w fun e w' => e = .returned (.int .i64 M.n) ∧ w = w' := by
  have c3 := h.c3
  clear h
  go_enter Try.func11, Try.ntmps11
  go_wp2
  go_ret
  exact ⟨rfl, rfl⟩
theorem len_nil (w : World) :
    Calls Try.prog 11 #[.pointer none] w fun e w' => e = .returned (.int .i64 0) ∧ w = w' := by
  go_enter Try.func11, Try.ntmps11
  go_wp2
  go_ret
  exact ⟨rfl, rfl⟩
theorem moves_any (base b : Nat) (v : Value) (M : LM) (w : World) (h : LRep base w b v M) :
    Calls Try.prog 17 #[.pointer (some ⟨b, 0, none⟩)] w fun e w' => e = .returned (.int .i64 M.moves) ∧ w = w' := by
  have c4 := h.c4
  clear h
  go_enter Try.func17, Try.ntmps17
  go_wp2
  go_ret
  exact ⟨rfl, rfl⟩
theorem moves_nil (w : World) :
    Calls Try.prog 17 #[.pointer none] w fun e w' => e = .returned (.int .i64 0) ∧ w = w' := by
  go_enter Try.func17, Try.ntmps17
  go_wp2
  go_ret
  exact ⟨rfl, rfl⟩

end Go.Proofs.Ytnlminaanccejaa
