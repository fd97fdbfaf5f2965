/- The walk of the law OrderlistMoves. -/
import Derived.Test.YtnlminaanccejaaF1
import Derived.BigQuiet
namespace Go.Proofs.Ytnlminaanccejaa
open Go.RowKit Go.Hw
set_option linter.unusedVariables false
set_option linter.unusedSimpArgs false

theorem pos_in {ord : List Nat} {a : Nat} (h : a ∈ ord) : 0 ≤ pos ord a := by
  rcases pos_bd ord a with e | e
  · exact absurd rfl (pos_none e a h)
  · exact e.1
theorem in_pos {ord : List Nat} {x : Int} (h : 0 ≤ pos ord x) : ∃ a ∈ ord, (a : Int) = x := by
  obtain ⟨k, hk⟩ := Int.eq_ofNat_of_zero_le h
  obtain ⟨h1, h2⟩ := pos_at hk
  exact ⟨_, getD_mem h1, h2⟩
theorem pos_insAt {ord : List Nat} {K n : Nat} {x : Int} (h : 0 ≤ pos ord x) : 0 ≤ pos (insAt ord K n) x := by
  obtain ⟨a, ha, rfl⟩ := in_pos h
  exact pos_in ((mem_insAt a).2 (.inr ha))

theorem most_bd (n : Int) (h0 : 0 ≤ n) (h1 : n ≤ 1000) : 0 ≤ most n ∧ most n ≤ 8000 * 1001 := by
  unfold most
  split
  · omega
  · have := log2I_bd n
    exact ⟨Int.mul_nonneg (by omega) (by omega), Int.mul_le_mul (by omega) (by omega) (by omega) (by omega)⟩
/-- the elements at which the loop inserts -/
def MAt (ord : List Nat) (y : Int) : Prop := y = -1 ∨ 0 ≤ pos ord y
/-- the relation of the loop -/
def MR (W : World) (b n0 : Nat) (x0 : Int) (k : Nat) (w : World) : Prop :=
  ∃ (v : Value) (M : LM) (ord : List Nat), LRep W.heap.size w b v M ∧ Good M ord (n0 + k) ∧ Pot M ord (n0 + k) ∧ MAt ord x0 ∧ (∀ j, j < k → MAt ord ((n0 + j : Nat) : Int)) ∧ Ext W w

theorem MAt.step {ord : List Nat} {n : Nat} {x y : Int} (h : MAt ord y) : MAt (insOrd ord n x) y := by
  rcases h with h | h
  · exact .inl h
  · right
    unfold insOrd
    split
    · exact h
    · split
      · exact h
      · exact pos_insAt h
theorem MAt.ins {ord : List Nat} {n : Nat} {x : Int} (h : MAt ord x) (hn : n < 2000) : insRes ord n x = ((n : Int), 0) ∧ insN ord n x = n + 1 ∧ MAt (insOrd ord n x) (n : Int) := by
  obtain ⟨K, hK, _⟩ := insK_of h
  unfold insRes insN insOrd
  rw [hK]
  dsimp only
  rw [if_neg (by omega), if_neg (by omega), if_neg (by omega)]
  exact ⟨rfl, rfl, .inr (pos_in ((mem_insAt n).2 (.inl rfl)))⟩

/-- one round's insertion -/
theorem MR.step {W w : World} {b n0 k : Nat} {x0 y : Int} (h : MR W b n0 x0 k w) (hy : y = -1 ∨ y = x0 ∨ ∃ j, j < k ∧ y = ((n0 + j : Nat) : Int)) (hn : n0 + k < 1000) (hW : W.heap.size ≤ w.heap.size) :
    Calls Try.prog 16 #[.pointer (some ⟨b, 0, none⟩), .int .i64 y] w fun e w' => e = .returned (.tuple #[.int .i64 ((n0 + k : Nat) : Int), .int .i64 0]) ∧ MR W b n0 x0 (k + 1) w' := by
  obtain ⟨v, M, ord, hrep, hG, hP, hx, hold, hE⟩ := h
  have hat : MAt ord y := by
    rcases hy with h | h | ⟨j, hj, h⟩
    · exact .inl h
    · rw [h]; exact hx
    · rw [h]; exact hold j hj
  obtain ⟨h1, h2, h3⟩ := hat.ins (n := n0 + k) (by omega)
  refine (ins_step W.heap.size b v M ord (n0 + k) y w hrep hG hW).mono ?_
  rintro e w' ⟨rfl, v', hw⟩
  refine ⟨by rw [h1]; rfl, v', insM M ord y, insOrd ord (n0 + k) y, hw.rep, ?_, ?_, hx.step, ?_, hE.trans' hw.upd (fun i hi ho => by have := hrep.ownsBase i ho; omega)⟩
  · have := hG.ins y; rw [h2] at this; exact this
  · have := hP.ins hG y; rw [h2] at this; exact this
  · intro j hj
    by_cases e : j = k
    · subst e; exact h3
    · exact (hold j (by omega)).step

set_option maxRecDepth 100000 in
set_option maxHeartbeats 4000000 in
theorem moves_loop_pre : True := trivial

set_option maxRecDepth 100000 in
set_option maxHeartbeats 4000000 in
theorem moves_law (v0 : Value) (steps : List St) (x1 x2 : Int) (w : World) (h : StR w v0 steps) (hx1 : (Lit.int .u8 x1).wf = true) (hx2 : (Lit.int .u16 x2).wf = true) :
    Calls Try.prog 4 #[v0, .int .u8 x1, .int .u16 x2] w fun e w' => e = .returned (.bool true) ∧ Ext w w' := by
  obtain ⟨a0, cap0, hv⟩ := h.shape
  subst hv
  have hk := Lib.hid h
  clear h
  have b1 : 0 ≤ x1 ∧ x1 < 256 := by simp [Lit.wf, go_sem, IntKind.min, IntKind.max, IntKind.signed] at hx1; omega
  have b2 : 0 ≤ x2 ∧ x2 < 65536 := by simp [Lit.wf, go_sem, IntKind.min, IntKind.max, IntKind.signed] at hx2; omega
  obtain ⟨C, hC⟩ := Int.eq_ofNat_of_zero_le (Int.emod_nonneg x2 (show (701 : Int) ≠ 0 by decide))
  have hC2 : C < 701 := by have := Int.emod_lt_of_pos x2 (show (0 : Int) < 701 by decide); omega
  have HC := Lib.hid hC
  clear hC
  by_cases hbig : 40 < steps.length
  · go_enter Try.func4, Try.ntmps4
    go_wp2_with fail
    refine (awake_any _).mono ?_
    rintro e w1 ⟨rfl, hE⟩
    go_wp2_with fail
    go_ret
    exact ⟨rfl, hE⟩
  · go_enter Try.func4, Try.ntmps4
    go_wp2_with fail
    refine (awake_any _).mono ?_
    rintro e w1 ⟨rfl, hE⟩
    have HE := Lib.hid hE
    clear hE
    go_wp2_with fail
    refine (play_any _ steps w1 ((hk.out.kept HE.out (fun _ _ h => h)).weaken (fun k hk => by have := HE.out.size; omega)) (by omega)).mono ?_
    rintro e w2 ⟨b, v, M, ord, n, sl, S, rfl, hrep, hG, hP, hn, hls, hS, hE2⟩
    obtain ⟨a, cap1, hv⟩ := hls.shape
    subst hv
    have hE3 : Ext w2 (w2.alloc (.cells #[.slice a ord.length cap1, .int .i64 n] 27)) := (Upd.refl _ w2).alloc _
    have hB : (w2.alloc (.cells #[.slice a ord.length cap1, .int .i64 n] 27)).heap[w2.heap.size]? = some (.cells #[.slice a ord.length cap1, .int .i64 n] 27) := alloc0 _ _
    have HWE : Hid (Ext w w2) := HE.out.ext hE2
    have hbs : w1.heap.size ≤ w2.heap.size := hE2.size
    have Hmm : ∀ x0, MAt ord x0 → ∀ W, Ext w2 W → MR w1 b n x0 0 W := fun x0 hx0 W hW =>
      ⟨v, M, ord, hrep.kept hW (fun _ _ h => h), hG, hP, hx0, fun j hj => absurd hj (by omega), hE2.ext hW⟩
    have HM := Lib.hid Hmm
    by_cases hc : 0 < ord.length
    · obtain ⟨g, off, cap, hv, hcc, hg, hj⟩ := hls.pos hc
      injection hv with e1 e2 e3
      subst e1; subst e3
      have i0 : 0 ≤ x1 % (ord.length : Int) := Int.emod_nonneg _ (by omega)
      have i1 : x1 % (ord.length : Int) < (ord.length : Int) := Int.emod_lt_of_pos _ (by omega)
      obtain ⟨q, hq⟩ := Int.eq_ofNat_of_zero_le i0
      have hq' : q < ord.length := by omega
      have hcel : (w2.alloc (.cells #[.slice (some ⟨g, off, none⟩) ord.length cap1, .int .i64 n] 27)).cell? ⟨g, off + q, none⟩ = some (.int .i64 (ord.getD q 0 : Nat)) := by
        rw [← ints_get ord q hq', ← hj q (by omega)]
        exact World.cell?_of_block (w := w2) (Below.heap_alloc _ _ _ (hS g hg).1)
      have hin : MAt ord (ord.getD q 0 : Nat) := .inr (pos_in (getD_mem hq'))
      generalize ord.getD q 0 = X at *
      generalize hc2 : ord.length = cap2 at *
      have Hhin := Lib.hid hin
      have d0 : (w2.alloc (.cells #[.slice (some ⟨g, off, none⟩) cap2 cap1, .int .i64 n] 27)).cell? ⟨w2.heap.size, 0, none⟩ = some (.slice (some ⟨g, off, none⟩) cap2 cap1) := by rw [cell_of_row _ _ 0 _ _ _ hB]; rfl
      have d1 : (w2.alloc (.cells #[.slice (some ⟨g, off, none⟩) cap2 cap1, .int .i64 n] 27)).cell? ⟨w2.heap.size, 1, none⟩ = some (.int .i64 n) := by rw [cell_of_row _ _ 1 _ _ _ hB]; rfl
      clear hj hin hrep hG hP hls hS hE2 hB Hmm hc2
      have hx := hE3
      have Hx := Lib.hid hE3
      clear hx hE3
      go_wp2_with fail
      generalize w2.alloc (.cells #[.slice (some ⟨g, off, none⟩) cap2 cap1, .int .i64 n] 27) = w3 at *
      go_quiet (fail)
      go_wp2_with fail
      have HMR : Hid (MR w1 b n X 0 (w3.drewN nq)) := HM.out _ Hhin.out _ (Hx.out.drewN' nq)
      have hws : w1.heap.size ≤ (w3.drewN nq).heap.size := by have := Hx.out.size; simp; omega
      have hww : Ext w (w3.drewN nq) := HWE.out.ext (Hx.out.drewN' nq)
      have Hww := Lib.hid hww
      generalize (X : Int) = x0 at *
      generalize w3.drewN nq = wz at *
      clear hww hcel d0 d1 Hx HM Hhin hg hq hq' hc hcc i0 i1 hws
      have hn40 : n ≤ 40 := by omega
      rw [HC.out]
      go_loopg [10, 49] C (fun gk mk i wr => ∃ k : Nat, mk = .int .i64 ((n + k : Nat) : Int) ∧ i = .int .i64 k ∧ gk = C - k ∧ k ≤ C ∧ Hid (MR w1 b n x0 k wr))
      case atStart => exact ⟨0, rfl, rfl, rfl, Nat.zero_le _, HMR⟩
      case round =>
        obtain ⟨k, rfl, rfl, rfl, hkC, HR⟩ := hrel
        clear HMR
        have hcase : (x1 % 4 = 0 ∨ x1 % 4 = 1) ∨ (x1 % 4 = 2 ∨ x1 % 4 = 3) := by omega
        by_cases hlt : k < C
        · have hmb : w1.heap.size ≤ wr.heap.size := by
            obtain ⟨_, _, _, _, _, _, _, _, hx⟩ := HR.out
            exact hx.size
          have HS : Hid (∀ y, (y = -1 ∨ y = x0 ∨ ∃ j, j < k ∧ y = ((n + j : Nat) : Int)) → Calls Try.prog 16 #[.pointer (some ⟨b, 0, none⟩), .int .i64 y] wr fun e w' => e = .returned (.tuple #[.int .i64 ((n + k : Nat) : Int), .int .i64 0]) ∧ MR w1 b n x0 (k + 1) w') :=
            fun y hy => HR.out.step hy (by omega) hmb
          clear HR hmb
          rcases hcase with (hk4 | hk4) | (hk4 | hk4)
          rotate_left 2
          · by_cases hk0 : 0 < (k : Int)
            · go_wp2_with fail
              refine (HS.out _ ?_).mono ?_
              · first
                  | exact .inl rfl
                  | exact .inr (.inl rfl)
                  | exact .inr (.inr ⟨k - 1, by omega, by omega⟩)
                  | exact .inr (.inr ⟨k - 2, by omega, by omega⟩)
              rintro e w5 ⟨rfl, hR'⟩
              have HR' := Lib.hid hR'
              obtain ⟨v', M', ord', q1, q2, q3, q4, q5, q6⟩ := hR'
              have m0 : 0 ≤ M'.moves := q2.inv.m0
              have m1 : M'.moves ≤ most ((n + (k + 1) : Nat) : Int) := q3.few (by omega)
              have C17 := Lib.hid (moves_any _ b v' M' w5 q1)
              have C18 := Lib.hid (most_any ((n + (k + 1) : Nat) : Int) w5 (by omega) (by omega))
              have hmb := most_bd ((n + (k + 1) : Nat) : Int) (by omega) (by omega)
              generalize M'.moves = MV at *
              generalize most ((n + (k + 1) : Nat) : Int) = MS at *
              clear HS q1 q2 q3 q4 q5 q6
              go_wp2_with fail
              refine C17.out.mono ?_
              rintro e w6 ⟨rfl, rfl⟩
              go_wp2_with fail
              rw [show (n : Int) + (k : Int) + 1 = ((n + (k + 1) : Nat) : Int) by omega]
              refine C18.out.mono ?_
              rintro e w6 ⟨rfl, rfl⟩
              go_wp2_with fail
              go_roundg (C - (k + 1))
              case measure => omega
              case rel => exact ⟨k + 1, by first | rfl | (congr 1; omega), by go_num, rfl, by omega, HR'⟩
            · go_wp2_with fail
              refine (HS.out _ ?_).mono ?_
              · first
                  | exact .inl rfl
                  | exact .inr (.inl rfl)
                  | exact .inr (.inr ⟨k - 1, by omega, by omega⟩)
                  | exact .inr (.inr ⟨k - 2, by omega, by omega⟩)
              rintro e w5 ⟨rfl, hR'⟩
              have HR' := Lib.hid hR'
              obtain ⟨v', M', ord', q1, q2, q3, q4, q5, q6⟩ := hR'
              have m0 : 0 ≤ M'.moves := q2.inv.m0
              have m1 : M'.moves ≤ most ((n + (k + 1) : Nat) : Int) := q3.few (by omega)
              have C17 := Lib.hid (moves_any _ b v' M' w5 q1)
              have C18 := Lib.hid (most_any ((n + (k + 1) : Nat) : Int) w5 (by omega) (by omega))
              have hmb := most_bd ((n + (k + 1) : Nat) : Int) (by omega) (by omega)
              generalize M'.moves = MV at *
              generalize most ((n + (k + 1) : Nat) : Int) = MS at *
              clear HS q1 q2 q3 q4 q5 q6
              go_wp2_with fail
              refine C17.out.mono ?_
              rintro e w6 ⟨rfl, rfl⟩
              go_wp2_with fail
              rw [show (n : Int) + (k : Int) + 1 = ((n + (k + 1) : Nat) : Int) by omega]
              refine C18.out.mono ?_
              rintro e w6 ⟨rfl, rfl⟩
              go_wp2_with fail
              go_roundg (C - (k + 1))
              case measure => omega
              case rel => exact ⟨k + 1, by first | rfl | (congr 1; omega), by go_num, rfl, by omega, HR'⟩
          · by_cases hk0 : 1 < (k : Int)
            · by_cases hk2 : (k : Int) % 2 = 1
              · go_wp2_with fail
                refine (HS.out _ ?_).mono ?_
                · first
                    | exact .inl rfl
                    | exact .inr (.inl rfl)
                    | exact .inr (.inr ⟨k - 1, by omega, by omega⟩)
                    | exact .inr (.inr ⟨k - 2, by omega, by omega⟩)
                rintro e w5 ⟨rfl, hR'⟩
                have HR' := Lib.hid hR'
                obtain ⟨v', M', ord', q1, q2, q3, q4, q5, q6⟩ := hR'
                have m0 : 0 ≤ M'.moves := q2.inv.m0
                have m1 : M'.moves ≤ most ((n + (k + 1) : Nat) : Int) := q3.few (by omega)
                have C17 := Lib.hid (moves_any _ b v' M' w5 q1)
                have C18 := Lib.hid (most_any ((n + (k + 1) : Nat) : Int) w5 (by omega) (by omega))
                have hmb := most_bd ((n + (k + 1) : Nat) : Int) (by omega) (by omega)
                generalize M'.moves = MV at *
                generalize most ((n + (k + 1) : Nat) : Int) = MS at *
                clear HS q1 q2 q3 q4 q5 q6
                go_wp2_with fail
                refine C17.out.mono ?_
                rintro e w6 ⟨rfl, rfl⟩
                go_wp2_with fail
                rw [show (n : Int) + (k : Int) + 1 = ((n + (k + 1) : Nat) : Int) by omega]
                refine C18.out.mono ?_
                rintro e w6 ⟨rfl, rfl⟩
                go_wp2_with fail
                go_roundg (C - (k + 1))
                case measure => omega
                case rel => exact ⟨k + 1, by first | rfl | (congr 1; omega), by go_num, rfl, by omega, HR'⟩
              · go_wp2_with fail
                refine (HS.out _ ?_).mono ?_
                · first
                    | exact .inl rfl
                    | exact .inr (.inl rfl)
                    | exact .inr (.inr ⟨k - 1, by omega, by omega⟩)
                    | exact .inr (.inr ⟨k - 2, by omega, by omega⟩)
                rintro e w5 ⟨rfl, hR'⟩
                have HR' := Lib.hid hR'
                obtain ⟨v', M', ord', q1, q2, q3, q4, q5, q6⟩ := hR'
                have m0 : 0 ≤ M'.moves := q2.inv.m0
                have m1 : M'.moves ≤ most ((n + (k + 1) : Nat) : Int) := q3.few (by omega)
                have C17 := Lib.hid (moves_any _ b v' M' w5 q1)
                have C18 := Lib.hid (most_any ((n + (k + 1) : Nat) : Int) w5 (by omega) (by omega))
                have hmb := most_bd ((n + (k + 1) : Nat) : Int) (by omega) (by omega)
                generalize M'.moves = MV at *
                generalize most ((n + (k + 1) : Nat) : Int) = MS at *
                clear HS q1 q2 q3 q4 q5 q6
                go_wp2_with fail
                refine C17.out.mono ?_
                rintro e w6 ⟨rfl, rfl⟩
                go_wp2_with fail
                rw [show (n : Int) + (k : Int) + 1 = ((n + (k + 1) : Nat) : Int) by omega]
                refine C18.out.mono ?_
                rintro e w6 ⟨rfl, rfl⟩
                go_wp2_with fail
                go_roundg (C - (k + 1))
                case measure => omega
                case rel => exact ⟨k + 1, by first | rfl | (congr 1; omega), by go_num, rfl, by omega, HR'⟩
            · go_wp2_with fail
              refine (HS.out _ ?_).mono ?_
              · first
                  | exact .inl rfl
                  | exact .inr (.inl rfl)
                  | exact .inr (.inr ⟨k - 1, by omega, by omega⟩)
                  | exact .inr (.inr ⟨k - 2, by omega, by omega⟩)
              rintro e w5 ⟨rfl, hR'⟩
              have HR' := Lib.hid hR'
              obtain ⟨v', M', ord', q1, q2, q3, q4, q5, q6⟩ := hR'
              have m0 : 0 ≤ M'.moves := q2.inv.m0
              have m1 : M'.moves ≤ most ((n + (k + 1) : Nat) : Int) := q3.few (by omega)
              have C17 := Lib.hid (moves_any _ b v' M' w5 q1)
              have C18 := Lib.hid (most_any ((n + (k + 1) : Nat) : Int) w5 (by omega) (by omega))
              have hmb := most_bd ((n + (k + 1) : Nat) : Int) (by omega) (by omega)
              generalize M'.moves = MV at *
              generalize most ((n + (k + 1) : Nat) : Int) = MS at *
              clear HS q1 q2 q3 q4 q5 q6
              go_wp2_with fail
              refine C17.out.mono ?_
              rintro e w6 ⟨rfl, rfl⟩
              go_wp2_with fail
              rw [show (n : Int) + (k : Int) + 1 = ((n + (k + 1) : Nat) : Int) by omega]
              refine C18.out.mono ?_
              rintro e w6 ⟨rfl, rfl⟩
              go_wp2_with fail
              go_roundg (C - (k + 1))
              case measure => omega
              case rel => exact ⟨k + 1, by first | rfl | (congr 1; omega), by go_num, rfl, by omega, HR'⟩
          · go_wp2_with fail
            refine (HS.out _ ?_).mono ?_
            · first
                | exact .inl rfl
                | exact .inr (.inl rfl)
                | exact .inr (.inr ⟨k - 1, by omega, by omega⟩)
                | exact .inr (.inr ⟨k - 2, by omega, by omega⟩)
            rintro e w5 ⟨rfl, hR'⟩
            have HR' := Lib.hid hR'
            obtain ⟨v', M', ord', q1, q2, q3, q4, q5, q6⟩ := hR'
            have m0 : 0 ≤ M'.moves := q2.inv.m0
            have m1 : M'.moves ≤ most ((n + (k + 1) : Nat) : Int) := q3.few (by omega)
            have C17 := Lib.hid (moves_any _ b v' M' w5 q1)
            have C18 := Lib.hid (most_any ((n + (k + 1) : Nat) : Int) w5 (by omega) (by omega))
            have hmb := most_bd ((n + (k + 1) : Nat) : Int) (by omega) (by omega)
            generalize M'.moves = MV at *
            generalize most ((n + (k + 1) : Nat) : Int) = MS at *
            clear HS q1 q2 q3 q4 q5 q6
            go_wp2_with fail
            refine C17.out.mono ?_
            rintro e w6 ⟨rfl, rfl⟩
            go_wp2_with fail
            rw [show (n : Int) + (k : Int) + 1 = ((n + (k + 1) : Nat) : Int) by omega]
            refine C18.out.mono ?_
            rintro e w6 ⟨rfl, rfl⟩
            go_wp2_with fail
            go_roundg (C - (k + 1))
            case measure => omega
            case rel => exact ⟨k + 1, by first | rfl | (congr 1; omega), by go_num, rfl, by omega, HR'⟩
          · go_wp2_with fail
            refine (HS.out _ ?_).mono ?_
            · first
                | exact .inl rfl
                | exact .inr (.inl rfl)
                | exact .inr (.inr ⟨k - 1, by omega, by omega⟩)
                | exact .inr (.inr ⟨k - 2, by omega, by omega⟩)
            rintro e w5 ⟨rfl, hR'⟩
            have HR' := Lib.hid hR'
            obtain ⟨v', M', ord', q1, q2, q3, q4, q5, q6⟩ := hR'
            have m0 : 0 ≤ M'.moves := q2.inv.m0
            have m1 : M'.moves ≤ most ((n + (k + 1) : Nat) : Int) := q3.few (by omega)
            have C17 := Lib.hid (moves_any _ b v' M' w5 q1)
            have C18 := Lib.hid (most_any ((n + (k + 1) : Nat) : Int) w5 (by omega) (by omega))
            have hmb := most_bd ((n + (k + 1) : Nat) : Int) (by omega) (by omega)
            generalize M'.moves = MV at *
            generalize most ((n + (k + 1) : Nat) : Int) = MS at *
            clear HS q1 q2 q3 q4 q5 q6
            go_wp2_with fail
            refine C17.out.mono ?_
            rintro e w6 ⟨rfl, rfl⟩
            go_wp2_with fail
            rw [show (n : Int) + (k : Int) + 1 = ((n + (k + 1) : Nat) : Int) by omega]
            refine C18.out.mono ?_
            rintro e w6 ⟨rfl, rfl⟩
            go_wp2_with fail
            go_roundg (C - (k + 1))
            case measure => omega
            case rel => exact ⟨k + 1, by first | rfl | (congr 1; omega), by go_num, rfl, by omega, HR'⟩
        · have hx : Hid (Ext w wr) := by
            obtain ⟨_, _, _, _, _, _, _, _, hx⟩ := HR.out
            exact HE.out.ext hx
          clear HR hcase
          go_wp2_with fail
          go_ret
          exact ⟨rfl, hx.out⟩
    · have h0 : ord.length = 0 := by omega
      rw [h0] at hE3 hB ⊢
      have HMR : Hid (MR w1 b n (-1) 0 (w2.alloc (.cells #[.slice a 0 cap1, .int .i64 n] 27))) := HM.out _ (.inl rfl) _ hE3
      have d0 : (w2.alloc (.cells #[.slice a 0 cap1, .int .i64 n] 27)).cell? ⟨w2.heap.size, 0, none⟩ = some (.slice a 0 cap1) := by rw [cell_of_row _ _ 0 _ _ _ hB]; rfl
      have d1 : (w2.alloc (.cells #[.slice a 0 cap1, .int .i64 n] 27)).cell? ⟨w2.heap.size, 1, none⟩ = some (.int .i64 n) := by rw [cell_of_row _ _ 1 _ _ _ hB]; rfl
      clear hE3 hB hrep hG hP hls hS hE2 Hmm HM h0
      go_wp2_with fail
      generalize w2.alloc (.cells #[.slice a 0 cap1, .int .i64 n] 27) = w3 at *
      go_wp2_with fail
      have hn40 : n ≤ 40 := by omega
      rw [HC.out]
      go_loopg [10, 49] C (fun gk mk i wr => ∃ k : Nat, mk = .int .i64 ((n + k : Nat) : Int) ∧ i = .int .i64 k ∧ gk = C - k ∧ k ≤ C ∧ Hid (MR w1 b n (-1) k wr))
      case atStart => exact ⟨0, rfl, rfl, rfl, Nat.zero_le _, HMR⟩
      case round =>
        obtain ⟨k, rfl, rfl, rfl, hkC, HR⟩ := hrel
        clear HMR
        have hcase : (x1 % 4 = 0 ∨ x1 % 4 = 1) ∨ (x1 % 4 = 2 ∨ x1 % 4 = 3) := by omega
        by_cases hlt : k < C
        · have hmb : w1.heap.size ≤ wr.heap.size := by
            obtain ⟨_, _, _, _, _, _, _, _, hx⟩ := HR.out
            exact hx.size
          have HS : Hid (∀ y, (y = -1 ∨ y = (-1) ∨ ∃ j, j < k ∧ y = ((n + j : Nat) : Int)) → Calls Try.prog 16 #[.pointer (some ⟨b, 0, none⟩), .int .i64 y] wr fun e w' => e = .returned (.tuple #[.int .i64 ((n + k : Nat) : Int), .int .i64 0]) ∧ MR w1 b n (-1) (k + 1) w') :=
            fun y hy => HR.out.step hy (by omega) hmb
          clear HR hmb
          rcases hcase with (hk4 | hk4) | (hk4 | hk4)
          rotate_left 2
          · by_cases hk0 : 0 < (k : Int)
            · go_wp2_with fail
              refine (HS.out _ ?_).mono ?_
              · first
                  | exact .inl rfl
                  | exact .inr (.inl rfl)
                  | exact .inr (.inr ⟨k - 1, by omega, by omega⟩)
                  | exact .inr (.inr ⟨k - 2, by omega, by omega⟩)
              rintro e w5 ⟨rfl, hR'⟩
              have HR' := Lib.hid hR'
              obtain ⟨v', M', ord', q1, q2, q3, q4, q5, q6⟩ := hR'
              have m0 : 0 ≤ M'.moves := q2.inv.m0
              have m1 : M'.moves ≤ most ((n + (k + 1) : Nat) : Int) := q3.few (by omega)
              have C17 := Lib.hid (moves_any _ b v' M' w5 q1)
              have C18 := Lib.hid (most_any ((n + (k + 1) : Nat) : Int) w5 (by omega) (by omega))
              have hmb := most_bd ((n + (k + 1) : Nat) : Int) (by omega) (by omega)
              generalize M'.moves = MV at *
              generalize most ((n + (k + 1) : Nat) : Int) = MS at *
              clear HS q1 q2 q3 q4 q5 q6
              go_wp2_with fail
              refine C17.out.mono ?_
              rintro e w6 ⟨rfl, rfl⟩
              go_wp2_with fail
              rw [show (n : Int) + (k : Int) + 1 = ((n + (k + 1) : Nat) : Int) by omega]
              refine C18.out.mono ?_
              rintro e w6 ⟨rfl, rfl⟩
              go_wp2_with fail
              go_roundg (C - (k + 1))
              case measure => omega
              case rel => exact ⟨k + 1, by first | rfl | (congr 1; omega), by go_num, rfl, by omega, HR'⟩
            · go_wp2_with fail
              refine (HS.out _ ?_).mono ?_
              · first
                  | exact .inl rfl
                  | exact .inr (.inl rfl)
                  | exact .inr (.inr ⟨k - 1, by omega, by omega⟩)
                  | exact .inr (.inr ⟨k - 2, by omega, by omega⟩)
              rintro e w5 ⟨rfl, hR'⟩
              have HR' := Lib.hid hR'
              obtain ⟨v', M', ord', q1, q2, q3, q4, q5, q6⟩ := hR'
              have m0 : 0 ≤ M'.moves := q2.inv.m0
              have m1 : M'.moves ≤ most ((n + (k + 1) : Nat) : Int) := q3.few (by omega)
              have C17 := Lib.hid (moves_any _ b v' M' w5 q1)
              have C18 := Lib.hid (most_any ((n + (k + 1) : Nat) : Int) w5 (by omega) (by omega))
              have hmb := most_bd ((n + (k + 1) : Nat) : Int) (by omega) (by omega)
              generalize M'.moves = MV at *
              generalize most ((n + (k + 1) : Nat) : Int) = MS at *
              clear HS q1 q2 q3 q4 q5 q6
              go_wp2_with fail
              refine C17.out.mono ?_
              rintro e w6 ⟨rfl, rfl⟩
              go_wp2_with fail
              rw [show (n : Int) + (k : Int) + 1 = ((n + (k + 1) : Nat) : Int) by omega]
              refine C18.out.mono ?_
              rintro e w6 ⟨rfl, rfl⟩
              go_wp2_with fail
              go_roundg (C - (k + 1))
              case measure => omega
              case rel => exact ⟨k + 1, by first | rfl | (congr 1; omega), by go_num, rfl, by omega, HR'⟩
          · by_cases hk0 : 1 < (k : Int)
            · by_cases hk2 : (k : Int) % 2 = 1
              · go_wp2_with fail
                refine (HS.out _ ?_).mono ?_
                · first
                    | exact .inl rfl
                    | exact .inr (.inl rfl)
                    | exact .inr (.inr ⟨k - 1, by omega, by omega⟩)
                    | exact .inr (.inr ⟨k - 2, by omega, by omega⟩)
                rintro e w5 ⟨rfl, hR'⟩
                have HR' := Lib.hid hR'
                obtain ⟨v', M', ord', q1, q2, q3, q4, q5, q6⟩ := hR'
                have m0 : 0 ≤ M'.moves := q2.inv.m0
                have m1 : M'.moves ≤ most ((n + (k + 1) : Nat) : Int) := q3.few (by omega)
                have C17 := Lib.hid (moves_any _ b v' M' w5 q1)
                have C18 := Lib.hid (most_any ((n + (k + 1) : Nat) : Int) w5 (by omega) (by omega))
                have hmb := most_bd ((n + (k + 1) : Nat) : Int) (by omega) (by omega)
                generalize M'.moves = MV at *
                generalize most ((n + (k + 1) : Nat) : Int) = MS at *
                clear HS q1 q2 q3 q4 q5 q6
                go_wp2_with fail
                refine C17.out.mono ?_
                rintro e w6 ⟨rfl, rfl⟩
                go_wp2_with fail
                rw [show (n : Int) + (k : Int) + 1 = ((n + (k + 1) : Nat) : Int) by omega]
                refine C18.out.mono ?_
                rintro e w6 ⟨rfl, rfl⟩
                go_wp2_with fail
                go_roundg (C - (k + 1))
                case measure => omega
                case rel => exact ⟨k + 1, by first | rfl | (congr 1; omega), by go_num, rfl, by omega, HR'⟩
              · go_wp2_with fail
                refine (HS.out _ ?_).mono ?_
                · first
                    | exact .inl rfl
                    | exact .inr (.inl rfl)
                    | exact .inr (.inr ⟨k - 1, by omega, by omega⟩)
                    | exact .inr (.inr ⟨k - 2, by omega, by omega⟩)
                rintro e w5 ⟨rfl, hR'⟩
                have HR' := Lib.hid hR'
                obtain ⟨v', M', ord', q1, q2, q3, q4, q5, q6⟩ := hR'
                have m0 : 0 ≤ M'.moves := q2.inv.m0
                have m1 : M'.moves ≤ most ((n + (k + 1) : Nat) : Int) := q3.few (by omega)
                have C17 := Lib.hid (moves_any _ b v' M' w5 q1)
                have C18 := Lib.hid (most_any ((n + (k + 1) : Nat) : Int) w5 (by omega) (by omega))
                have hmb := most_bd ((n + (k + 1) : Nat) : Int) (by omega) (by omega)
                generalize M'.moves = MV at *
                generalize most ((n + (k + 1) : Nat) : Int) = MS at *
                clear HS q1 q2 q3 q4 q5 q6
                go_wp2_with fail
                refine C17.out.mono ?_
                rintro e w6 ⟨rfl, rfl⟩
                go_wp2_with fail
                rw [show (n : Int) + (k : Int) + 1 = ((n + (k + 1) : Nat) : Int) by omega]
                refine C18.out.mono ?_
                rintro e w6 ⟨rfl, rfl⟩
                go_wp2_with fail
                go_roundg (C - (k + 1))
                case measure => omega
                case rel => exact ⟨k + 1, by first | rfl | (congr 1; omega), by go_num, rfl, by omega, HR'⟩
            · go_wp2_with fail
              refine (HS.out _ ?_).mono ?_
              · first
                  | exact .inl rfl
                  | exact .inr (.inl rfl)
                  | exact .inr (.inr ⟨k - 1, by omega, by omega⟩)
                  | exact .inr (.inr ⟨k - 2, by omega, by omega⟩)
              rintro e w5 ⟨rfl, hR'⟩
              have HR' := Lib.hid hR'
              obtain ⟨v', M', ord', q1, q2, q3, q4, q5, q6⟩ := hR'
              have m0 : 0 ≤ M'.moves := q2.inv.m0
              have m1 : M'.moves ≤ most ((n + (k + 1) : Nat) : Int) := q3.few (by omega)
              have C17 := Lib.hid (moves_any _ b v' M' w5 q1)
              have C18 := Lib.hid (most_any ((n + (k + 1) : Nat) : Int) w5 (by omega) (by omega))
              have hmb := most_bd ((n + (k + 1) : Nat) : Int) (by omega) (by omega)
              generalize M'.moves = MV at *
              generalize most ((n + (k + 1) : Nat) : Int) = MS at *
              clear HS q1 q2 q3 q4 q5 q6
              go_wp2_with fail
              refine C17.out.mono ?_
              rintro e w6 ⟨rfl, rfl⟩
              go_wp2_with fail
              rw [show (n : Int) + (k : Int) + 1 = ((n + (k + 1) : Nat) : Int) by omega]
              refine C18.out.mono ?_
              rintro e w6 ⟨rfl, rfl⟩
              go_wp2_with fail
              go_roundg (C - (k + 1))
              case measure => omega
              case rel => exact ⟨k + 1, by first | rfl | (congr 1; omega), by go_num, rfl, by omega, HR'⟩
          · go_wp2_with fail
            refine (HS.out _ ?_).mono ?_
            · first
                | exact .inl rfl
                | exact .inr (.inl rfl)
                | exact .inr (.inr ⟨k - 1, by omega, by omega⟩)
                | exact .inr (.inr ⟨k - 2, by omega, by omega⟩)
            rintro e w5 ⟨rfl, hR'⟩
            have HR' := Lib.hid hR'
            obtain ⟨v', M', ord', q1, q2, q3, q4, q5, q6⟩ := hR'
            have m0 : 0 ≤ M'.moves := q2.inv.m0
            have m1 : M'.moves ≤ most ((n + (k + 1) : Nat) : Int) := q3.few (by omega)
            have C17 := Lib.hid (moves_any _ b v' M' w5 q1)
            have C18 := Lib.hid (most_any ((n + (k + 1) : Nat) : Int) w5 (by omega) (by omega))
            have hmb := most_bd ((n + (k + 1) : Nat) : Int) (by omega) (by omega)
            generalize M'.moves = MV at *
            generalize most ((n + (k + 1) : Nat) : Int) = MS at *
            clear HS q1 q2 q3 q4 q5 q6
            go_wp2_with fail
            refine C17.out.mono ?_
            rintro e w6 ⟨rfl, rfl⟩
            go_wp2_with fail
            rw [show (n : Int) + (k : Int) + 1 = ((n + (k + 1) : Nat) : Int) by omega]
            refine C18.out.mono ?_
            rintro e w6 ⟨rfl, rfl⟩
            go_wp2_with fail
            go_roundg (C - (k + 1))
            case measure => omega
            case rel => exact ⟨k + 1, by first | rfl | (congr 1; omega), by go_num, rfl, by omega, HR'⟩
          · go_wp2_with fail
            refine (HS.out _ ?_).mono ?_
            · first
                | exact .inl rfl
                | exact .inr (.inl rfl)
                | exact .inr (.inr ⟨k - 1, by omega, by omega⟩)
                | exact .inr (.inr ⟨k - 2, by omega, by omega⟩)
            rintro e w5 ⟨rfl, hR'⟩
            have HR' := Lib.hid hR'
            obtain ⟨v', M', ord', q1, q2, q3, q4, q5, q6⟩ := hR'
            have m0 : 0 ≤ M'.moves := q2.inv.m0
            have m1 : M'.moves ≤ most ((n + (k + 1) : Nat) : Int) := q3.few (by omega)
            have C17 := Lib.hid (moves_any _ b v' M' w5 q1)
            have C18 := Lib.hid (most_any ((n + (k + 1) : Nat) : Int) w5 (by omega) (by omega))
            have hmb := most_bd ((n + (k + 1) : Nat) : Int) (by omega) (by omega)
            generalize M'.moves = MV at *
            generalize most ((n + (k + 1) : Nat) : Int) = MS at *
            clear HS q1 q2 q3 q4 q5 q6
            go_wp2_with fail
            refine C17.out.mono ?_
            rintro e w6 ⟨rfl, rfl⟩
            go_wp2_with fail
            rw [show (n : Int) + (k : Int) + 1 = ((n + (k + 1) : Nat) : Int) by omega]
            refine C18.out.mono ?_
            rintro e w6 ⟨rfl, rfl⟩
            go_wp2_with fail
            go_roundg (C - (k + 1))
            case measure => omega
            case rel => exact ⟨k + 1, by first | rfl | (congr 1; omega), by go_num, rfl, by omega, HR'⟩
        · have hx : Hid (Ext w wr) := by
            obtain ⟨_, _, _, _, _, _, _, _, hx⟩ := HR.out
            exact HE.out.ext hx
          clear HR hcase
          go_wp2_with fail
          go_ret
          exact ⟨rfl, hx.out⟩

end Go.Proofs.Ytnlminaanccejaa
