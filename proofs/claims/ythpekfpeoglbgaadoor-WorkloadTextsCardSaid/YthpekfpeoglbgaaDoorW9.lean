/- Validity in the reference; the sequences. -/
import Derived.Test.YthpekfpeoglbgaaDoorW8
import Derived.Test.YthpekfpeoglbgaaDoorW7
import Derived.Test.YthpekfpeoglbgaaDoorL2
namespace Go.Proofs.YthpekfpeoglbgaaDoor
open Go.RowKit Go.Hw
set_option linter.unusedVariables false
set_option linter.unusedSimpArgs false
theorem info3 : (Tryd.prog.info? 3).map (fun i => (i.zero, i.size, i.bytes)) = some (some (.int .i64 0), 1, 8) := by kernel_rfl

/-- heartwoodref03.ValidAll -/
theorem rall_any (kind : Int) (v : Value) (l : List OpV) (w : World) (S : Nat → Prop) (h : OpsR S w v l) (hl : l.length ≤ 100000000) (ha : ∀ o ∈ l, o.op.args.length ≤ 100000000) :
    Calls Tryd.prog 18 #[.int .i64 kind, v] w fun e w' => e = .returned (.bool ((opsL l).all (validOp kind))) ∧ Ext w w' := by
  obtain ⟨a, cap, hv⟩ := h.shape
  subst hv
  have HN := Lib.hid h
  obtain ⟨R, hR⟩ : ∃ R, R = (opsL l).all (validOp kind) := ⟨_, rfl⟩
  rw [← hR]
  have HR : Hid (R = !(l.any fun o => !validOp kind o.op)) := by rw [hR]; exact (all_not (validOp kind) l).symm
  have HA := Lib.hid ha
  clear h ha hR
  go_enter Tryd.func18, Tryd.ntmps18
  go_wp2_with fail
  go_loopg [5] l.length (fun gk i wr => ∃ j : Nat, i = .int .i64 j ∧ gk = l.length - j ∧ j ≤ l.length ∧ Hid (∀ i, i < j → (opB (fun o => !validOp kind o) l).getD i false = false) ∧ Hid (Ext w wr))
  case atStart => exact ⟨0, rfl, rfl, Nat.zero_le _, fun i h => absurd h (Nat.not_lt_zero _), Upd.refl _ _⟩
  case round =>
    obtain ⟨j, rfl, rfl, hj, Hj, HE⟩ := hrel
    by_cases hlt : j < l.length
    · obtain ⟨g, off, cap', hv, hc, hg, c0, c1, hargs⟩ := (HN.out.kept HE.out (fun _ _ h => h)).at hlt
      injection hv with e1 e2 e3
      subst e1; subst e3
      obtain ⟨a2, cap2, hv2⟩ := hargs.shape
      have HC := Lib.hid (rvop_any kind (l.getD j .zero).op _ wr S hargs (HA.out _ (getD_mem hlt)))
      have i0' : (0 : Int) ≤ (j : Int) := by omega
      have i1' : (j : Int) < (l.length : Int) := by omega
      have HJ : Hid (validOp kind (l.getD j .zero).op = true → ∀ i, i < j + 1 → (opB (fun o => !validOp kind o) l).getD i false = false) := fun h i hi => by
        by_cases e : i = j
        · subst e; rw [opB_get _ l i hlt, h]; rfl
        · exact Hj.out i (by omega)
      have HB : Hid (validOp kind (l.getD j .zero).op = false → (l.any fun o => !validOp kind o.op) = true) := fun h => by
        rw [List.any_eq_true]; exact ⟨_, getD_mem hlt, by rw [h]; rfl⟩
      rw [hv2] at c1 HC
      clear hg e2 hc hv2 hargs
      cases hpx : validOp kind (l.getD j .zero).op with
      | false =>
        rw [hpx] at HC
        obtain rfl : R = false := by rw [HR.out, HB.out hpx]; rfl
        clear hpx HR HB HJ
        generalize (l.getD j .zero).op.code = X at *
        generalize (l.getD j .zero).op.args.length = Y at *
        go_wp2_with fail
        refine HC.out.mono ?_
        rintro e w2 ⟨rfl, h2⟩
        have H2 := Lib.hid (HE.out.ext h2)
        clear h2
        go_wp2_with fail
        go_ret
        exact ⟨rfl, H2.out⟩
      | true =>
        rw [hpx] at HC
        have HJ2 := Lib.hid (HJ.out hpx)
        clear hpx HB HJ
        generalize (l.getD j .zero).op.code = X at *
        generalize (l.getD j .zero).op.args.length = Y at *
        go_wp2_with fail
        refine HC.out.mono ?_
        rintro e w2 ⟨rfl, h2⟩
        have H2 := Lib.hid (HE.out.ext h2)
        clear h2
        go_wp2_with fail
        go_roundg (l.length - (j + 1))
        case measure => omega
        case rel => exact ⟨j + 1, by go_num, rfl, by omega, HJ2, H2⟩
    · have hn : (l.any fun o => !validOp kind o.op) = false := by
        rw [List.any_eq_false]
        intro o ho
        obtain ⟨i, hi, rfl⟩ := List.getElem_of_mem ho
        have := Hj.out i (by omega)
        rw [opB_get _ l i hi] at this
        simp [hi] at this
        simp [this]
      obtain rfl : R = true := by rw [HR.out, hn]; rfl
      clear HR hn
      go_wp2_with fail
      go_ret
      exact ⟨rfl, HE.out⟩

/-- heartwoodref51.Valid -/
theorem rvalid_any (kind : Int) (v : Value) (l : List OpV) (w : World) (S : Nat → Prop) (h : OpsR S w v l) (hl : l.length ≤ 100000000) (ha : ∀ o ∈ l, o.op.args.length ≤ 100000000) :
    Calls Tryd.prog 6 #[.int .i64 kind, v] w fun e w' => e = .returned (.bool (validL kind (opsL l))) ∧ Ext w w' := by
  have HC := Lib.hid (rall_any kind v l w S h hl ha)
  obtain ⟨a, cap, hv⟩ := h.shape
  subst hv
  obtain ⟨R, hR⟩ : ∃ R, R = validL kind (opsL l) := ⟨_, rfl⟩
  rw [← hR]
  have HR : Hid (R = (knownB kind && decide (l.length ≤ 2000) && (opsL l).all (validOp kind))) := by rw [hR]; unfold validL; rw [opsL_length]; rfl
  have HK := Lib.hid (rknown_any kind w)
  clear h ha hR
  generalize (opsL l).all (validOp kind) = A1 at *
  cases hk : knownB kind with
  | false =>
    rw [hk] at HK HR
    obtain rfl : R = false := by rw [HR.out]; rfl
    clear HR hk
    go_enter Tryd.func6, Tryd.ntmps6
    go_wp2_with fail
    refine HK.out.mono ?_
    rintro e w2 ⟨rfl, rfl⟩
    go_wp2_with fail
    go_ret
    exact ⟨rfl, Upd.refl _ _⟩
  | true =>
    rw [hk] at HK HR
    clear hk
    by_cases h2 : l.length ≤ 2000
    · obtain rfl : R = A1 := by rw [HR.out]; simp [h2]
      clear HR
      go_enter Tryd.func6, Tryd.ntmps6
      go_wp2_with fail
      refine HK.out.mono ?_
      rintro e w2 ⟨rfl, rfl⟩
      go_wp2_with fail
      refine HC.out.mono ?_
      rintro e w3 ⟨rfl, h3⟩
      have H3 := Lib.hid h3
      clear h3
      go_wp2_with fail
      go_ret
      exact ⟨rfl, H3.out⟩
    · obtain rfl : R = false := by rw [HR.out]; simp [h2]
      clear HR
      go_enter Tryd.func6, Tryd.ntmps6
      go_wp2_with fail
      refine HK.out.mono ?_
      rintro e w2 ⟨rfl, rfl⟩
      go_wp2_with fail
      go_ret
      exact ⟨rfl, Upd.refl _ _⟩

set_option maxHeartbeats 1000000 in
/-- workload.Random -/
theorem random_ok (seed : Int) (n : Nat) (w : World) (hs : seedB seed = true) (hn : n ≤ 65536) :
    Calls Tryd.prog 10 #[.int .i64 seed, .int .i64 n] w fun e w' => e = .returned (.tuple #[.int .i64 (sq seed n), .int .i64 0]) ∧ Ext w w' := by
  have HK := Lib.hid (seeded_any seed w)
  rw [hs] at HK
  have hsd : 1 ≤ seed ∧ seed < 2147483647 := by unfold seedB at hs; simpa using hs
  have HS : Hid (∀ k, 0 ≤ sq seed k ∧ sq seed k < 2147483647) := sq_bd seed (by omega) (by omega)
  have hB : SeqB (w.alloc (.cells #[.int .i64 seed] 63)) w.heap.size seed := alloc0 _ _
  have HB := Lib.hid hB
  have hu : Ext w (w.alloc (.cells #[.int .i64 seed] 63)) := (Upd.refl _ w).alloc _
  have HU := Lib.hid hu
  clear hB hs hu
  go_enter Tryd.func10, Tryd.ntmps10
  go_wp2_with fail
  refine HK.out.mono ?_
  rintro e w2 ⟨rfl, rfl⟩
  go_wp2_with fail
  go_loopg [21] n (fun gk i wr => ∃ j : Nat, i = .int .i64 j ∧ gk = n - j ∧ j ≤ n ∧ Hid (SeqB wr w.heap.size (sq seed j)) ∧ Hid (Ext w wr))
  case atStart => exact ⟨0, rfl, rfl, Nat.zero_le _, HB.out, HU.out⟩
  case round =>
    obtain ⟨j, rfl, rfl, hj, Hj, HE⟩ := hrel
    by_cases hlt : j < n
    · have HC := Lib.hid (next_any w.heap.size (sq seed j) wr Hj.out (HS.out j).1 (HS.out j).2)
      go_wp2_with fail
      refine HC.out.mono ?_
      rintro e w3 ⟨rfl, h3, h4⟩
      have H3 : Hid (SeqB w3 w.heap.size (sq seed (j + 1))) := h3
      have H4 : Hid (Ext w w3) := HE.out.trans' (h4.mono (G := fun k => k = w.heap.size) (fun k _ h => h)) (fun i hi h => by omega)
      clear h3 h4
      go_wp2_with fail
      go_roundg (n - (j + 1))
      case measure => omega
      case rel => exact ⟨j + 1, by go_num, rfl, by omega, H3, H4⟩
    · obtain rfl : j = n := by omega
      have c0 : wr.cell? ⟨w.heap.size, 0, none⟩ = some (.int .i64 (sq seed j)) := cellRow Hj.out 0 _ rfl
      go_wp2_with fail
      go_ret2
      exact ⟨rfl, HE.out⟩
set_option maxHeartbeats 1000000 in
theorem random_bad (seed n : Int) (w : World) (hs : ¬ (seedB seed = true ∧ 0 ≤ n ∧ n ≤ 65536)) :
    Calls Tryd.prog 10 #[.int .i64 seed, .int .i64 n] w fun e w' => e = .returned (.tuple #[.int .i64 0, .int .i64 2]) ∧ Ext w w' := by
  have HK := Lib.hid (seeded_any seed w)
  cases hk : seedB seed with
  | false =>
    rw [hk] at HK
    clear hs hk
    go_enter Tryd.func10, Tryd.ntmps10
    go_wp2_with fail
    refine HK.out.mono ?_
    rintro e w2 ⟨rfl, rfl⟩
    go_wp2_with fail
    go_ret2
    exact ⟨rfl, Upd.refl _ _⟩
  | true =>
    rw [hk] at HK hs
    by_cases h1 : n < 0
    · clear hs hk
      go_enter Tryd.func10, Tryd.ntmps10
      go_wp2_with fail
      refine HK.out.mono ?_
      rintro e w2 ⟨rfl, rfl⟩
      go_wp2_with fail
      go_ret2
      exact ⟨rfl, Upd.refl _ _⟩
    · have h2 : 65536 < n := by
        by_cases h : 65536 < n
        · exact h
        · exact absurd ⟨rfl, by omega, by omega⟩ hs
      clear hs hk
      go_enter Tryd.func10, Tryd.ntmps10
      go_wp2_with fail
      refine HK.out.mono ?_
      rintro e w2 ⟨rfl, rfl⟩
      go_wp2_with fail
      go_ret2
      exact ⟨rfl, Upd.refl _ _⟩

end Go.Proofs.YthpekfpeoglbgaaDoor
