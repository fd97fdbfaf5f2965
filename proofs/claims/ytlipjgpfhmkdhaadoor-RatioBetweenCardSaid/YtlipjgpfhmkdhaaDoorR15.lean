/- The law Logs. -/
import Derived.Test.YtlipjgpfhmkdhaaDoorR13
namespace Go.Proofs.YtlipjgpfhmkdhaaDoor
open Go.RowKit Go.Hw
set_option linter.unusedVariables false
set_option linter.unusedSimpArgs false

theorem sq_ex (n : Nat) : ∃ r, r * r ≤ n ∧ n < (r + 1) * (r + 1) := by
  induction n with
  | zero => exact ⟨0, by decide, by decide⟩
  | succ n ih =>
    obtain ⟨r, h1, h2⟩ := ih
    by_cases h : n + 1 < (r + 1) * (r + 1)
    · exact ⟨r, by omega, h⟩
    · refine ⟨r + 1, by omega, ?_⟩
      have e : (r + 1 + 1) * (r + 1 + 1) = (r + 1) * (r + 1) + 2 * r + 3 := by
        simp only [Nat.add_mul, Nat.mul_add, Nat.mul_one, Nat.one_mul]; omega
      omega
theorem root_at (n r : Nat) (W : World) (h2 : n ≤ 1099511627776) (h3 : r * r ≤ n) (h4 : n < (r + 1) * (r + 1)) : Calls Tryd.prog 32 #[.int .i64 n] W fun e w' => e = .returned (.tuple #[.int .i64 r, .int .i64 0]) ∧ W = w' :=
  (root_ok n W h2).mono fun e w' ⟨s, a, b, c, d⟩ => by obtain rfl := sq_uniq h3 h4 c d; exact ⟨a, b⟩
theorem rroot_at (n r : Nat) (W : World) (h2 : n ≤ 1099511627776) (h3 : r * r ≤ n) (h4 : n < (r + 1) * (r + 1)) : Calls Tryd.prog 33 #[.int .i64 n] W fun e w' => e = .returned (.tuple #[.int .i64 r, .int .i64 0]) ∧ W = w' :=
  (rroot_ok n W h2).mono fun e w' ⟨s, a, b, c, d⟩ => by obtain rfl := sq_uniq h3 h4 c d; exact ⟨a, b⟩
set_option maxRecDepth 100000 in
set_option maxHeartbeats 1000000 in
theorem logs_any (n : Int) (w : World) (htab : Lib.TabIs Tryd.prog w "internal/strconv.uint64pow10" .u64 Lib.pow10Tab) (p E q F r G : Int) (c28 : ∀ W, Calls Tryd.prog 28 #[.int .i64 n] W fun e w' => e = .returned (.tuple #[.int .i64 p, .int .i64 E]) ∧ W = w') (c29 : ∀ W, Calls Tryd.prog 29 #[.int .i64 n] W fun e w' => e = .returned (.tuple #[.int .i64 p, .int .i64 E]) ∧ W = w') (c30 : ∀ W, Calls Tryd.prog 30 #[.int .i64 n] W fun e w' => e = .returned (.tuple #[.int .i64 q, .int .i64 F]) ∧ W = w') (c31 : ∀ W, Calls Tryd.prog 31 #[.int .i64 n] W fun e w' => e = .returned (.tuple #[.int .i64 q, .int .i64 F]) ∧ W = w') (c32 : ∀ W, Calls Tryd.prog 32 #[.int .i64 n] W fun e w' => e = .returned (.tuple #[.int .i64 r, .int .i64 G]) ∧ W = w') (c33 : ∀ W, Calls Tryd.prog 33 #[.int .i64 n] W fun e w' => e = .returned (.tuple #[.int .i64 r, .int .i64 G]) ∧ W = w') : Calls Tryd.prog 7 #[.int .i64 n] w fun e w' => e = .returned (.bool true) ∧ Ext w w' := by
  have CA := Lib.hid (awake_x w htab)
  have C28 := Lib.hid c28
  have C29 := Lib.hid c29
  have C30 := Lib.hid c30
  have C31 := Lib.hid c31
  have C32 := Lib.hid c32
  have C33 := Lib.hid c33
  clear htab c28 c29 c30 c31 c32 c33
  go_enter Tryd.func7, Tryd.ntmps7
  go_wp2_with fail
  refine CA.out.mono ?_
  rintro e w1 ⟨rfl, h1⟩
  have H1 := Lib.hid h1
  clear h1 CA
  go_wp2_with fail
  refine (C28.out _).mono ?_
  rintro e w28 ⟨rfl, rfl⟩
  go_wp2_with fail
  refine (C29.out _).mono ?_
  rintro e w29 ⟨rfl, rfl⟩
  go_wp2_with fail
  refine (C30.out _).mono ?_
  rintro e w30 ⟨rfl, rfl⟩
  go_wp2_with fail
  refine (C31.out _).mono ?_
  rintro e w31 ⟨rfl, rfl⟩
  go_wp2_with fail
  refine (C32.out _).mono ?_
  rintro e w32 ⟨rfl, rfl⟩
  go_wp2_with fail
  refine (C33.out _).mono ?_
  rintro e w33 ⟨rfl, rfl⟩
  go_wp2_with fail
  go_ret
  exact ⟨rfl, H1.out⟩
theorem logs_law (n : Int) (w : World) (htab : Lib.TabIs Tryd.prog w "internal/strconv.uint64pow10" .u64 Lib.pow10Tab) : Calls Tryd.prog 7 #[.int .i64 n] w fun e w' => e = .returned (.bool true) ∧ Ext w w' := by
  by_cases h0 : n < 0
  · exact logs_any n w htab 0 2 0 2 0 2 (fun W => flog_bad1 n W (by omega)) (fun W => rflog_bad1 n W (by omega)) (fun W => clog_bad1 n W (by omega)) (fun W => rclog_bad1 n W (by omega)) (fun W => root_bad1 n W h0) (fun W => rroot_bad1 n W h0)
  · by_cases hX : 1099511627776 < n
    · exact logs_any n w htab 0 2 0 2 0 2 (fun W => flog_bad2 n W hX) (fun W => rflog_bad2 n W hX) (fun W => clog_bad2 n W hX) (fun W => rclog_bad2 n W hX) (fun W => root_bad2 n W hX) (fun W => rroot_bad2 n W hX)
    · obtain ⟨m, rfl⟩ : ∃ m : Nat, n = m := ⟨n.toNat, by omega⟩
      obtain ⟨r, r1, r2⟩ := sq_ex m
      by_cases h1 : m = 0
      · exact logs_any m w htab 0 2 0 2 r 0 (fun W => flog_bad1 m W (by omega)) (fun W => rflog_bad1 m W (by omega)) (fun W => clog_bad1 m W (by omega)) (fun W => rclog_bad1 m W (by omega)) (fun W => root_at m r W (by omega) r1 r2) (fun W => rroot_at m r W (by omega) r1 r2)
      · exact logs_any m w htab _ 0 _ 0 r 0 (fun W => flog_ok m W (by omega) (by omega)) (fun W => rflog_ok m W (by omega) (by omega)) (fun W => clog_ok m W (by omega) (by omega)) (fun W => rclog_ok m W (by omega) (by omega)) (fun W => root_at m r W (by omega) r1 r2) (fun W => rroot_at m r W (by omega) r1 r2)

end Go.Proofs.YtlipjgpfhmkdhaaDoor
