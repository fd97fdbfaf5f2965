/- Validity in the reference; the sequences. -/
import Derived.Test.YthpekfpeoglbgaaGreatDoorW8
import Derived.Test.YthpekfpeoglbgaaGreatDoorW7
import Derived.Test.YthpekfpeoglbgaaGreatDoorL2
namespace Go.Proofs.YthpekfpeoglbgaaGreatDoor
open Go.RowKit Go.Hw
set_option linter.unusedVariables false
set_option linter.unusedSimpArgs false
theorem info3 : (Tryz.prog.info? 3).map (fun i => (i.zero, i.size, i.bytes)) = some (some (.int .i64 0), 1, 8) := by kernel_rfl

set_option maxHeartbeats 1000000 in
/-- workload.Random -/
theorem random_ok (seed : Int) (n : Nat) (w : World) (hs : seedB seed = true) (hn : n ≤ 65536) :
    Calls Tryz.prog 15 #[.int .i64 seed, .int .i64 n] w fun e w' => e = .returned (.tuple #[.int .i64 (sq seed n), .int .i64 0]) ∧ Ext w w' := by
  have HK := Lib.hid (seeded_any seed w)
  rw [hs] at HK
  have hsd : 1 ≤ seed ∧ seed < 2147483647 := by unfold seedB at hs; simpa using hs
  have HS : Hid (∀ k, 0 ≤ sq seed k ∧ sq seed k < 2147483647) := sq_bd seed (by omega) (by omega)
  have hB : SeqB (w.alloc (.cells #[.int .i64 seed] 87)) w.heap.size seed := alloc0 _ _
  have HB := Lib.hid hB
  have hu : Ext w (w.alloc (.cells #[.int .i64 seed] 87)) := (Upd.refl _ w).alloc _
  have HU := Lib.hid hu
  clear hB hs hu
  go_enter Tryz.func15, Tryz.ntmps15
  go_wp2_with fail
  refine HK.out.mono ?_
  rintro e w2 ⟨rfl, rfl⟩
  go_wp2_with fail
  go_loopg [21] n (fun gk i wr => ∃ j : Nat, i = .int .i64 j ∧ gk = n - j ∧ j ≤ n ∧ Hid (SeqB wr w.heap.size (sq seed j)) ∧ Hid (Ext w wr))
  case atStart => exact ⟨0, rfl, rfl, Nat.zero_le _, HB.out, HU.out⟩
  case round =>
    obtain ⟨j, rfl, rfl, hj, Hj, HE⟩ := hrel
    by_cases hlt : j < n
    · have HC := Lib.hid (next_any w.heap.size (sq seed j) wr Hj.out (HS.out j).1 (HS.out j).2)
      go_wp2_with fail
      refine HC.out.mono ?_
      rintro e w3 ⟨rfl, h3, h4⟩
      have H3 : Hid (SeqB w3 w.heap.size (sq seed (j + 1))) := h3
      have H4 : Hid (Ext w w3) := HE.out.trans' (h4.mono (G := fun k => k = w.heap.size) (fun k _ h => h)) (fun i hi h => by omega)
      clear h3 h4
      go_wp2_with fail
      go_roundg (n - (j + 1))
      case measure => omega
      case rel => exact ⟨j + 1, by go_num, rfl, by omega, H3, H4⟩
    · obtain rfl : j = n := by omega
      have c0 : wr.cell? ⟨w.heap.size, 0, none⟩ = some (.int .i64 (sq seed j)) := cellRow Hj.out 0 _ rfl
      go_wp2_with fail
      go_ret2
      exact ⟨rfl, HE.out⟩
set_option maxHeartbeats 1000000 in
theorem random_bad (seed n : Int) (w : World) (hs : ¬ (seedB seed = true ∧ 0 ≤ n ∧ n ≤ 65536)) :
    Calls Tryz.prog 15 #[.int .i64 seed, .int .i64 n] w fun e w' => e = .returned (.tuple #[.int .i64 0, .int .i64 2]) ∧ Ext w w' := by
  have HK := Lib.hid (seeded_any seed w)
  cases hk : seedB seed with
  | false =>
    rw [hk] at HK
    clear hs hk
    go_enter Tryz.func15, Tryz.ntmps15
    go_wp2_with fail
    refine HK.out.mono ?_
    rintro e w2 ⟨rfl, rfl⟩
    go_wp2_with fail
    go_ret2
    exact ⟨rfl, Upd.refl _ _⟩
  | true =>
    rw [hk] at HK hs
    by_cases h1 : n < 0
    · clear hs hk
      go_enter Tryz.func15, Tryz.ntmps15
      go_wp2_with fail
      refine HK.out.mono ?_
      rintro e w2 ⟨rfl, rfl⟩
      go_wp2_with fail
      go_ret2
      exact ⟨rfl, Upd.refl _ _⟩
    · have h2 : 65536 < n := by
        by_cases h : 65536 < n
        · exact h
        · exact absurd ⟨rfl, by omega, by omega⟩ hs
      clear hs hk
      go_enter Tryz.func15, Tryz.ntmps15
      go_wp2_with fail
      refine HK.out.mono ?_
      rintro e w2 ⟨rfl, rfl⟩
      go_wp2_with fail
      go_ret2
      exact ⟨rfl, Upd.refl _ _⟩

end Go.Proofs.YthpekfpeoglbgaaGreatDoor
