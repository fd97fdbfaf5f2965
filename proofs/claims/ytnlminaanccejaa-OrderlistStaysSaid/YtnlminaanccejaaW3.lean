/- The walks of the list's methods that only read, second part. -/
import Derived.Test.YtnlminaanccejaaW2
namespace Go.Proofs.Ytnlminaanccejaa
open Go.RowKit Go.Hw
set_option linter.unusedVariables false
set_option linter.unusedSimpArgs false

def LM.labelR (M : LM) (x : Int) : Int × Int := if M.has x = true then ((M.at x).label, 0) else (0, 12)
def LM.nextR (M : LM) (x : Int) : Int × Int := if x ≠ -1 ∧ M.has x = false then (0, 12) else if M.after x < 0 then (0, 8) else (M.after x, 0)
def cmpI (a b : Int) : Int := if a < b then -1 else if b < a then 1 else 0
def LM.compareR (M : LM) (x y : Int) : Int × Int := if M.has x = true ∧ M.has y = true then (cmpI (M.at x).label (M.at y).label, 0) else (0, 12)

theorem has_in {M : LM} {x : Int} (h : M.has x = true) : 0 ≤ x ∧ x < M.l.length ∧ (M.at x).inn = true := by
  simp [LM.has] at h; exact ⟨h.1.1, h.1.2, h.2⟩

theorem quiet_same {P : Program} {f : FuncId} {args : Array Value} {w : World} {n : Nat} {v : Value}
    (h : Calls P f args (w.drewN n) fun e w' => e = .returned v ∧ w.drewN n = w') : Calls P f args (w.drewN n) fun e w'' => e = .returned v ∧ ∃ m, w'' = w.drewN m :=
  Calls.quiet_of_same (h.mono fun _ _ ⟨a, b⟩ => ⟨a, b.symm⟩)

set_option maxHeartbeats 400000 in
theorem label_no (base b : Nat) (v : Value) (M : LM) (x : Int) (w : World) (h : LRep base w b v M) (hw : WF M) (hx : M.has x = false) :
    Calls Try.prog 19 #[.pointer (some ⟨b, 0, none⟩), .int .i64 x] w fun e w' => e = .returned (.tuple #[.int .i64 0, .int .i64 12]) ∧ w = w' := by
  have C := contains_any base b v M x w h hw
  rw [hx] at C
  have HC := Lib.hid C
  clear C hw h hx
  go_enter Try.func19, Try.ntmps19
  go_wp2_with (go_at_call 12; refine HC.out.mono ?_; rintro e w' ⟨rfl, rfl⟩)
  go_ret2
  exact ⟨rfl, rfl⟩
set_option maxHeartbeats 400000 in
theorem label_yes (base b : Nat) (v : Value) (M : LM) (x : Int) (w : World) (h : LRep base w b v M) (hw : WF M) (hx : M.has x = true) :
    Calls Try.prog 19 #[.pointer (some ⟨b, 0, none⟩), .int .i64 x] w fun e w' => e = .returned (.tuple #[.int .i64 (M.at x).label, .int .i64 0]) ∧ w = w' := by
  have C := contains_any base b v M x w h hw
  rw [hx] at C
  have HC := Lib.hid C
  obtain ⟨h0, h1, _⟩ := has_in hx
  obtain ⟨k, rfl⟩ := Int.eq_ofNat_of_zero_le h0
  obtain ⟨g, cap, c0, c1, _, _, _⟩ := h.lab k (by omega)
  generalize (M.at (k : Int)).label = L1 at *
  have hl := hw.len
  clear C hw h hx
  go_enter Try.func19, Try.ntmps19
  go_wp2_with (go_at_call 12; refine HC.out.mono ?_; rintro e w' ⟨rfl, rfl⟩)
  go_ret2
  exact ⟨rfl, rfl⟩
theorem label_any (base b : Nat) (v : Value) (M : LM) (x : Int) (w : World) (h : LRep base w b v M) (hw : WF M) :
    Calls Try.prog 19 #[.pointer (some ⟨b, 0, none⟩), .int .i64 x] w fun e w' => e = .returned (two (M.labelR x)) ∧ w = w' := by
  cases hx : M.has x
  · simp only [two, LM.labelR, hx]; exact label_no base b v M x w h hw hx
  · simp only [two, LM.labelR, hx]; exact label_yes base b v M x w h hw hx
theorem label_nil (x : Int) (w : World) :
    Calls Try.prog 19 #[.pointer none, .int .i64 x] w fun e w' => e = .returned (.tuple #[.int .i64 0, .int .i64 1]) ∧ w = w' := by
  go_enter Try.func19, Try.ntmps19
  go_wp2
  go_ret2
  exact ⟨rfl, rfl⟩

theorem next_nil (x : Int) (w : World) :
    Calls Try.prog 23 #[.pointer none, .int .i64 x] w fun e w' => e = .returned (.tuple #[.int .i64 0, .int .i64 1]) ∧ w = w' := by
  go_enter Try.func23, Try.ntmps23
  go_wp2
  go_ret2
  exact ⟨rfl, rfl⟩
set_option maxHeartbeats 400000 in
theorem next_no (base b : Nat) (v : Value) (M : LM) (x : Int) (w : World) (h : LRep base w b v M) (hw : WF M) (hx : M.has x = false) (hx1 : x ≠ -1) :
    Calls Try.prog 23 #[.pointer (some ⟨b, 0, none⟩), .int .i64 x] w fun e w' => e = .returned (.tuple #[.int .i64 0, .int .i64 12]) ∧ w = w' := by
  have C := contains_any base b v M x w h hw
  rw [hx] at C
  have HC := Lib.hid C
  have t1 : (x != -1) = true := by simpa using hx1
  clear C hw h hx hx1
  go_enter Try.func23, Try.ntmps23
  go_wp2_with (go_at_call 12; refine HC.out.mono ?_; rintro e w' ⟨rfl, rfl⟩)
  go_ret2
  exact ⟨rfl, rfl⟩

set_option maxHeartbeats 400000 in
theorem next_on (base b : Nat) (v : Value) (M : LM) (x : Int) (w : World) (h : LRep base w b v M) (hw : WF M) (hx : x = -1) (ha : M.after x < 0) :
    Calls Try.prog 23 #[.pointer (some ⟨b, 0, none⟩), .int .i64 x] w fun e w' => e = .returned (.tuple #[.int .i64 0, .int .i64 8]) ∧ w = w' := by
  have hl := hw.len
  subst hx
  have A := after_any base b v M (-1) w h (by omega) (by omega)
  have HA := Lib.hid A
  have HC := 0
  generalize M.after (-1) = y at *
  clear A hw h
  go_enter Try.func23, Try.ntmps23
  go_wp2_with (first | (go_at_call 30; refine HA.out.mono ?_; rintro e w' ⟨rfl, rfl⟩))
  go_ret2
  exact ⟨rfl, rfl⟩

set_option maxHeartbeats 400000 in
theorem next_op (base b : Nat) (v : Value) (M : LM) (x : Int) (w : World) (h : LRep base w b v M) (hw : WF M) (hx : x = -1) (ha : 0 ≤ M.after x) :
    Calls Try.prog 23 #[.pointer (some ⟨b, 0, none⟩), .int .i64 x] w fun e w' => e = .returned (.tuple #[.int .i64 (M.after x), .int .i64 0]) ∧ w = w' := by
  have hl := hw.len
  subst hx
  have A := after_any base b v M (-1) w h (by omega) (by omega)
  have HA := Lib.hid A
  have HC := 0
  generalize M.after (-1) = y at *
  clear A hw h
  go_enter Try.func23, Try.ntmps23
  go_wp2_with (first | (go_at_call 30; refine HA.out.mono ?_; rintro e w' ⟨rfl, rfl⟩))
  go_ret2
  exact ⟨rfl, rfl⟩

set_option maxHeartbeats 400000 in
theorem next_hn (base b : Nat) (v : Value) (M : LM) (x : Int) (w : World) (h : LRep base w b v M) (hw : WF M) (hx : M.has x = true) (ha : M.after x < 0) :
    Calls Try.prog 23 #[.pointer (some ⟨b, 0, none⟩), .int .i64 x] w fun e w' => e = .returned (.tuple #[.int .i64 0, .int .i64 8]) ∧ w = w' := by
  have hl := hw.len
  obtain ⟨h0, h1, _⟩ := has_in hx
  have C := contains_any base b v M x w h hw
  rw [hx] at C
  have HC := Lib.hid C
  have A := after_any base b v M x w h (by omega) (by omega)
  have HA := Lib.hid A
  have t1 : (x != -1) = true := by simp; omega
  generalize M.after x = y at *
  clear C
  clear A hw h hx
  go_enter Try.func23, Try.ntmps23
  go_wp2_with (first | (go_at_call 12; refine HC.out.mono ?_; rintro e w' ⟨rfl, rfl⟩) | (go_at_call 30; refine HA.out.mono ?_; rintro e w' ⟨rfl, rfl⟩))
  go_ret2
  exact ⟨rfl, rfl⟩

set_option maxHeartbeats 400000 in
theorem next_hp (base b : Nat) (v : Value) (M : LM) (x : Int) (w : World) (h : LRep base w b v M) (hw : WF M) (hx : M.has x = true) (ha : 0 ≤ M.after x) :
    Calls Try.prog 23 #[.pointer (some ⟨b, 0, none⟩), .int .i64 x] w fun e w' => e = .returned (.tuple #[.int .i64 (M.after x), .int .i64 0]) ∧ w = w' := by
  have hl := hw.len
  obtain ⟨h0, h1, _⟩ := has_in hx
  have C := contains_any base b v M x w h hw
  rw [hx] at C
  have HC := Lib.hid C
  have A := after_any base b v M x w h (by omega) (by omega)
  have HA := Lib.hid A
  have t1 : (x != -1) = true := by simp; omega
  generalize M.after x = y at *
  clear C
  clear A hw h hx
  go_enter Try.func23, Try.ntmps23
  go_wp2_with (first | (go_at_call 12; refine HC.out.mono ?_; rintro e w' ⟨rfl, rfl⟩) | (go_at_call 30; refine HA.out.mono ?_; rintro e w' ⟨rfl, rfl⟩))
  go_ret2
  exact ⟨rfl, rfl⟩

theorem next_any (base b : Nat) (v : Value) (M : LM) (x : Int) (w : World) (h : LRep base w b v M) (hw : WF M) :
    Calls Try.prog 23 #[.pointer (some ⟨b, 0, none⟩), .int .i64 x] w fun e w' => e = .returned (two (M.nextR x)) ∧ w = w' := by
  by_cases h1 : x = -1
  · by_cases h2 : M.after x < 0
    · simp only [two, LM.nextR, h2, h1, ne_eq, not_true_eq_false, false_and, if_false, if_true]; rw [h1] at h2; simp only [h2, if_true]; exact next_on base b v M _ w h hw rfl h2
    · simp only [two, LM.nextR, h1, ne_eq, not_true_eq_false, false_and, if_false]; rw [h1] at h2; simp only [h2, if_false]; exact next_op base b v M _ w h hw rfl (by omega)
  · cases hx : M.has x
    · simp only [two, LM.nextR, h1, hx, ne_eq, not_false_eq_true, and_self, if_true]; exact next_no base b v M x w h hw hx h1
    · by_cases h2 : M.after x < 0
      · simp only [two, LM.nextR, h2, hx, Bool.true_eq_false, and_false, if_false, if_true]; exact next_hn base b v M x w h hw hx h2
      · simp only [two, LM.nextR, h2, hx, Bool.true_eq_false, and_false, if_false]; exact next_hp base b v M x w h hw hx (by omega)

theorem nan_any (a : Int) (w : World) : Calls Try.prog 34 #[.int .i64 a] w fun e w' => e = .returned (.bool false) ∧ w = w' := by
  go_enter Try.func34, Try.ntmps34
  go_wp2
  go_ret
  exact ⟨by simp, rfl⟩
theorem cmp_any (a b : Int) (w : World) : Calls Try.prog 33 #[.int .i64 a, .int .i64 b] w fun e w' => e = .returned (.int .i64 (cmpI a b)) ∧ w = w' := by
  by_cases h1 : a < b
  · have e1 : cmpI a b = -1 := by simp [cmpI, h1]
    rw [e1]; clear e1
    go_enter Try.func33, Try.ntmps33
    go_wp2_with (go_at_call 34; refine (nan_any _ _).mono ?_; rintro e w' ⟨rfl, rfl⟩)
    go_ret
    exact ⟨rfl, rfl⟩
  · by_cases h2 : b < a
    · have e1 : cmpI a b = 1 := by simp [cmpI, h1, h2]
      rw [e1]; clear e1
      go_enter Try.func33, Try.ntmps33
      go_wp2_with (go_at_call 34; refine (nan_any _ _).mono ?_; rintro e w' ⟨rfl, rfl⟩)
      go_ret
      exact ⟨rfl, rfl⟩
    · have e1 : cmpI a b = 0 := by simp [cmpI, h1, h2]
      rw [e1]; clear e1
      go_enter Try.func33, Try.ntmps33
      go_wp2_with (go_at_call 34; refine (nan_any _ _).mono ?_; rintro e w' ⟨rfl, rfl⟩)
      go_ret
      exact ⟨rfl, rfl⟩

theorem compare_nil (x y : Int) (w : World) :
    Calls Try.prog 21 #[.pointer none, .int .i64 x, .int .i64 y] w fun e w' => e = .returned (.tuple #[.int .i64 0, .int .i64 1]) ∧ w = w' := by
  go_enter Try.func21, Try.ntmps21
  go_wp2
  go_ret2
  exact ⟨rfl, rfl⟩
set_option maxHeartbeats 400000 in
theorem compare_no1 (base b : Nat) (v : Value) (M : LM) (x y : Int) (w : World) (h : LRep base w b v M) (hw : WF M) (hx : M.has x = false) :
    Calls Try.prog 21 #[.pointer (some ⟨b, 0, none⟩), .int .i64 x, .int .i64 y] w fun e w' => e = .returned (.tuple #[.int .i64 0, .int .i64 12]) ∧ w = w' := by
  have C := contains_any base b v M x w h hw
  rw [hx] at C
  have HC := Lib.hid C
  clear C hw h hx
  go_enter Try.func21, Try.ntmps21
  go_wp2_with (go_at_call 12; refine HC.out.mono ?_; rintro e w' ⟨rfl, rfl⟩)
  go_ret2
  exact ⟨rfl, rfl⟩
set_option maxHeartbeats 400000 in
theorem compare_no2 (base b : Nat) (v : Value) (M : LM) (x y : Int) (w : World) (h : LRep base w b v M) (hw : WF M) (hx : M.has x = true) (hy : M.has y = false) :
    Calls Try.prog 21 #[.pointer (some ⟨b, 0, none⟩), .int .i64 x, .int .i64 y] w fun e w' => e = .returned (.tuple #[.int .i64 0, .int .i64 12]) ∧ w = w' := by
  have C := contains_any base b v M x w h hw
  have D := contains_any base b v M y w h hw
  rw [hx] at C
  rw [hy] at D
  have HC := Lib.hid C
  have HD := Lib.hid D
  clear C D hw h hx hy
  go_enter Try.func21, Try.ntmps21
  go_wp2_with fail
  refine HC.out.mono ?_; rintro e w' ⟨rfl, rfl⟩
  go_wp2_with fail
  refine HD.out.mono ?_; rintro e w' ⟨rfl, rfl⟩
  go_wp2_with fail
  go_ret2
  exact ⟨rfl, rfl⟩
set_option maxHeartbeats 800000 in
theorem compare_yes (base b : Nat) (v : Value) (M : LM) (x y : Int) (w : World) (h : LRep base w b v M) (hw : WF M) (hx : M.has x = true) (hy : M.has y = true) :
    Calls Try.prog 21 #[.pointer (some ⟨b, 0, none⟩), .int .i64 x, .int .i64 y] w fun e w' => e = .returned (.tuple #[.int .i64 (cmpI (M.at x).label (M.at y).label), .int .i64 0]) ∧ ∃ n, w' = w.drewN n := by
  have C := contains_any base b v M x w h hw
  have D := contains_any base b v M y w h hw
  rw [hx] at C
  rw [hy] at D
  have HC := Lib.hid C
  have HD := Lib.hid D
  obtain ⟨h0, h1, _⟩ := has_in hx
  obtain ⟨k, rfl⟩ := Int.eq_ofNat_of_zero_le h0
  obtain ⟨g, cap, c0, c1, _, _, _⟩ := h.lab k (by omega)
  obtain ⟨i0, i1, _⟩ := has_in hy
  obtain ⟨j, rfl⟩ := Int.eq_ofNat_of_zero_le i0
  obtain ⟨g', cap', d0, d1, _, _, _⟩ := h.lab j (by omega)
  have hgg : g' = g ∧ cap' = cap := by rw [c0] at d0; simp at d0; exact ⟨d0.1.symm, d0.2.symm⟩
  obtain ⟨rfl, rfl⟩ := hgg
  generalize (M.at (k : Int)).label = L1 at *
  generalize (M.at (j : Int)).label = L2 at *
  have hl := hw.len
  have s1 : (0 : Int) ≤ (k : Int) := by omega
  have s2 : (0 : Int) ≤ (j : Int) := by omega
  clear C D hw h hx hy d0
  go_enter Try.func21, Try.ntmps21
  go_wp2_with fail
  refine HC.out.mono ?_; rintro e w' ⟨rfl, rfl⟩
  go_wp2_with fail
  refine HD.out.mono ?_; rintro e w' ⟨rfl, rfl⟩
  go_wp2_with fail
  go_quiet ((go_at_call 33; exact quiet_same (cmp_any _ _ _)))
  go_wp2_with fail
  go_ret2
  exact ⟨rfl, _, rfl⟩
theorem compare_any (base b : Nat) (v : Value) (M : LM) (x y : Int) (w : World) (h : LRep base w b v M) (hw : WF M) :
    Calls Try.prog 21 #[.pointer (some ⟨b, 0, none⟩), .int .i64 x, .int .i64 y] w fun e w' => e = .returned (two (M.compareR x y)) ∧ ∃ n, w' = w.drewN n := by
  cases hx : M.has x
  · simp only [two, LM.compareR, hx]; exact (compare_no1 base b v M x y w h hw hx).mono fun e w' ⟨a, c⟩ => ⟨a, 0, c.symm⟩
  · cases hy : M.has y
    · simp only [two, LM.compareR, hx, hy]; exact (compare_no2 base b v M x y w h hw hx hy).mono fun e w' ⟨a, c⟩ => ⟨a, 0, c.symm⟩
    · simp only [two, LM.compareR, hx, hy]; exact compare_yes base b v M x y w h hw hx hy

end Go.Proofs.Ytnlminaanccejaa
