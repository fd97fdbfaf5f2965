/- pending. -/
import Derived.Test.YtlbnilhbfiidmaaDoorP4
namespace Go.Proofs.YtlbnilhbfiidmaaDoor
open Go.RowKit Go.Hw
set_option linter.unusedVariables false
set_option linter.unusedSimpArgs false

set_option maxRecDepth 100000 in
/-- pending.add -/
theorem add_x (g cap : Nat) (ws : List Nat) (i : Nat) (w : World) (h : Arr w g 77 (words ws)) (hu : U64s ws) (hi : i / 64 < ws.length) (hi2 : i ≤ 2000000) :
    Calls Tryd.prog 32 #[.slice (some ⟨g, 0, none⟩) ws.length cap, .int .i64 i] w fun e w' => e = .returned (.tuple #[]) ∧ Arr w' g 77 (words (ws.set (i / 64) (ws.getD (i / 64) 0 ||| 2 ^ (i % 64)))) ∧ Upd (fun k => k = g) w w' := by
  obtain ⟨x, hx⟩ : ∃ x, ws.getD (i / 64) 0 = x := ⟨_, rfl⟩
  have hxb := hu (i / 64)
  have c0 := h.cell (words_get ws (i / 64) hi)
  rw [hx] at c0 hxb
  have c1 := h.mark (i / 64)
  have i0 : (0 : Int) ≤ (i : Int) / 64 := by omega
  have i1 : (i : Int) / 64 < (ws.length : Int) := by omega
  have i2 : ((i : Int) / 64).toNat = i / 64 := by omega
  have i3 : (0 : Int) ≤ (i : Int) := by omega
  have w1 : IntKind.i64.wrap ((i : Int) / 64) = (i : Int) / 64 := IntWalk.i64_in _ (by omega)
  have w2 : IntKind.i64.wrap ((i : Int) % 64) = (i : Int) % 64 := IntWalk.i64_in _ (by omega)
  have w3 : Int.tmod (i : Int) 64 = (i : Int) % 64 := by rw [Int.tmod_eq_emod_of_nonneg (by omega)]
  have i4 : (0 : Int) ≤ (i : Int) % 64 := by omega
  have i5 : ((i : Int) % 64).toNat = i % 64 := by omega
  have p1 := pow_wrap (i % 64) (by omega)
  have hpl : 2 ^ (i % 64) < 18446744073709551616 := by
    have := Nat.pow_lt_pow_right (a := 2) (by decide) (by omega : i % 64 < 64)
    simpa using this
  have p2 := or_u64 x (2 ^ (i % 64)) hxb hpl
  have hor : x ||| 2 ^ (i % 64) < 18446744073709551616 := Nat.or_lt_two_pow (n := 64) (by omega) (by omega)
  obtain ⟨P, hP⟩ : ∃ P : Nat, 2 ^ (i % 64) = P := ⟨_, rfl⟩
  rw [hP] at p1 p2 hor
  obtain ⟨Z, hZ⟩ : ∃ Z : Nat, x ||| P = Z := ⟨_, rfl⟩
  rw [hZ] at p2 hor
  rw [hx, hP, hZ]
  have HR : Hid (Arr (w.setCell ⟨g, i / 64, none⟩ (.int .u64 (Z : Nat))) g 77 (words (ws.set (i / 64) Z))) := by
    have := h.set (j := i / 64) (by rw [words_len]; exact hi) (.int .u64 (Z : Nat))
    rw [words_set] at this
    exact this
  clear h hx hu hxb hpl hP hZ
  go_enter Tryd.func32, Tryd.ntmps32
  go_wp2_with fail
  go_still_tail 10, (by kernel_rfl)
  change wpList _ _ _ _ _ w.drew
  clear p1 p2
  go_wp2_with fail
  go_end0
  exact ⟨rfl, HR.out, (updAt (w := w) (g := g) (j := i / 64) (.int .u64 (Z : Nat))).drew⟩

set_option maxRecDepth 100000 in
set_option maxHeartbeats 2000000 in
/-- pending.next -/
theorem next_x (g cap : Nat) (ws : List Nat) (from_ : Nat) (w : World) (h : Arr w g 77 (words ws)) (hu : U64s ws) (hl : ws.length ≤ 100000) (hf : from_ ≤ 2000000) (hT : ∀ W, Upd (fun k => k = g) w W → TabAt 0 Lib.deBruijn64tab W) :
    Calls Tryd.prog 33 #[.slice (some ⟨g, 0, none⟩) ws.length cap, .int .i64 from_] w (NxtB g ws from_ w) := by
  have HA := Lib.hid h
  have HU := Lib.hid hu
  have HT := Lib.hid hT
  clear h hu hT
  go_enter Tryd.func33, Tryd.ntmps33
  go_wp2_with fail
  go_loopg [5, 6] (ws.length - from_) (fun gk s5 _ wr => ∃ v : Nat, s5 = .int .i64 v ∧ gk = ws.length - v ∧ v ≤ 2000000 ∧ from_ ≤ v ∧ Hid (∀ j, from_ ≤ j → j < v → ws.getD j 0 = 0) ∧ wr = w)
  case atStart => exact ⟨from_, rfl, rfl, hf, Nat.le_refl _, fun j h1 h2 => by omega, rfl⟩
  case round =>
    obtain ⟨v, rfl, rfl, hv2, hvf, HZ, rfl⟩ := hrel
    by_cases hlt : v < ws.length
    · obtain ⟨x, hx⟩ : ∃ x, ws.getD v 0 = x := ⟨_, rfl⟩
      have hxb := HU.out v
      have c0 := HA.out.cell (words_get ws v hlt)
      rw [hx] at c0 hxb
      have c1 := HA.out.mark v
      have i0 : (0 : Int) ≤ (v : Int) := by omega
      have i1 : (v : Int) < (ws.length : Int) := by omega
      by_cases h0 : x = 0
      · have e0 : ((x : Int) == 0) = true := beq_iff_eq.2 (by omega)
        have e1 : ((x : Int) != 0) = false := by rw [h0]; rfl
        have e2 : (x == 0) = true := beq_iff_eq.2 h0
        have HZ2 : Hid (∀ j, from_ ≤ j → j < v + 1 → ws.getD j 0 = 0) := fun j h1 h2 => by
          by_cases q : j = v
          · subst q; rw [hx]; exact h0
          · exact HZ.out j h1 (by omega)
        clear hx h0 hxb
        go_wp2_with fail
        go_roundg (ws.length - (v + 1))
        case measure => omega
        case rel => exact ⟨v + 1, by go_num, rfl, by omega, by omega, HZ2, rfl⟩
      · have e0 : ((x : Int) == 0) = false := beq_eq_false_iff_ne.2 (by omega)
        have e1 : ((x : Int) != 0) = true := bne_iff_ne.2 (by omega)
        have e2 : (x == 0) = false := beq_eq_false_iff_ne.2 h0
        have HTZ := Lib.hid (Tryd.bits_TrailingZeros64 x hxb wr (fun _ => HT.out wr (Upd.refl _ _)))
        obtain ⟨k1, k2, k3, k4⟩ := found_bit ws from_ v x hlt hx h0 hxb HZ.out
        obtain ⟨ck, _, _⟩ := ctz_bits x h0 hxb
        obtain ⟨k, hk⟩ : ∃ k, Lib.ctz 64 x = k := ⟨_, rfl⟩
        rw [hk] at k1 k2 k3 k4 ck HTZ
        have p1 := pow_wrap k ck
        have hpl : 2 ^ k < 18446744073709551616 := by
          have := Nat.pow_lt_pow_right (a := 2) (by decide) ck
          simpa using this
        have p2 := andnot_u64 x (2 ^ k) hxb hpl
        have hand : x &&& (18446744073709551615 - 2 ^ k) < 18446744073709551616 := Nat.lt_of_le_of_lt Nat.and_le_left hxb
        obtain ⟨Z, hZ⟩ : ∃ Z : Nat, x &&& (18446744073709551615 - 2 ^ k) = Z := ⟨_, rfl⟩
        obtain ⟨P, hP⟩ : ∃ P : Nat, 2 ^ k = P := ⟨_, rfl⟩
        rw [hZ] at k4 hand p2
        rw [hP] at p1 p2
        have HR : Hid (Arr (wr.setCell ⟨g, v, none⟩ (.int .u64 (Z : Nat))) g 77 (words (ws.set v Z))) := by
          have := HA.out.set (j := v) (by rw [words_len]; exact hlt) (.int .u64 (Z : Nat))
          rw [words_set] at this
          exact this
        have HU2 := Lib.hid (u64s_set HU.out v Z hand)
        have HK : Hid ((64 * v + k) / 64 < ws.length ∧ bitOf ws (64 * v + k) = true ∧ (∀ j, 64 * from_ ≤ j → j < 64 * v + k → bitOf ws j = false) ∧ ∀ j, bitOf (ws.set v Z) j = (bitOf ws j && decide (j ≠ 64 * v + k))) := ⟨by omega, k2, k3, k4⟩
        have ck0 : (0 : Int) ≤ (k : Int) := by omega
        have ck1 : (k : Int) < 64 := by omega
        clear hx h0 k1 k2 k3 k4 hk hZ hP hpl
        go_wp2_with fail
        refine HTZ.out.mono ?_
        rintro e w2 ⟨rfl, rfl⟩
        go_wp2_with fail
        go_still_tail 8, (by kernel_rfl)
        change wpList _ _ _ _ _ w2.drew
        clear p1 p2
        go_wp2_with fail
        go_ret
        refine ⟨64 * (v : Int) + (k : Int), ws.set v Z, rfl, HR.out, by simp, HU2.out, (updAt (w := w2) (g := g) (j := v) (.int .u64 (Z : Nat))).drew, .inr ⟨64 * v + k, by omega, HK.out⟩⟩
    · clear HT
      go_wp2_with fail
      go_ret
      exact ⟨-1, ws, rfl, HA.out, rfl, HU.out, Upd.refl _ _, .inl ⟨rfl, rfl, fun j hj => bit_none ws from_ (fun i hi => by
        by_cases q : i < v
        · exact HZ.out i hi q
        · simp [List.getElem?_eq_none (by omega : ws.length ≤ i)]) j hj⟩⟩

end Go.Proofs.YtlbnilhbfiidmaaDoor
