/- What the methods that read answer, beside the reference; the example. -/
import Derived.Test.YtnlminaanccejaaW12
namespace Go.Proofs.Ytnlminaanccejaa
open Go.RowKit Go.Hw
set_option linter.unusedVariables false
set_option linter.unusedSimpArgs false

theorem pos_lbl {M : LM} {ord : List Nat} {x : Int} {i : Nat} (h : pos ord x = i) : (M.at x).label = lbl M (ord.getD i 0) := by
  obtain ⟨h1, h2⟩ := pos_at h
  rw [← h2]; rfl
theorem Good.lt_iff {M : LM} {ord : List Nat} {n : Nat} (hg : Good M ord n) {i j : Nat} (hi : i < ord.length) (hj : j < ord.length) : lbl M (ord.getD i 0) < lbl M (ord.getD j 0) ↔ i < j := by
  constructor
  · intro h
    apply Decidable.byContradiction
    intro h2
    by_cases e : i = j
    · subst e; omega
    · have := hg.inv.asc j i (by omega) hi; omega
  · intro h; exact hg.inv.asc i j h hj
theorem Good.compare {M : LM} {ord : List Nat} {n : Nat} (hg : Good M ord n) (x y : Int) : M.compareR x y = refCmp ord x y := by
  unfold LM.compareR refCmp
  rw [hg.inv.has x, hg.inv.has y]
  have hx := pos_bd ord x
  have hy := pos_bd ord y
  by_cases h1 : pos ord x < 0 ∨ pos ord y < 0
  · rw [if_pos h1, if_neg (by simp; omega)]
  · rw [if_neg h1, if_pos (by simp; omega)]
    obtain ⟨i, hi⟩ := Int.eq_ofNat_of_zero_le (a := pos ord x) (by omega)
    obtain ⟨j, hj⟩ := Int.eq_ofNat_of_zero_le (a := pos ord y) (by omega)
    rw [pos_lbl hi, pos_lbl hj, hi, hj]
    have e1 := hg.lt_iff (i := i) (j := j) (by omega) (by omega)
    have e2 := hg.lt_iff (i := j) (j := i) (by omega) (by omega)
    unfold cmpI
    by_cases h3 : i < j
    · rw [if_pos (e1.2 h3), if_pos (show (i : Int) < (j : Int) by omega)]
    · rw [if_neg (fun h => h3 (e1.1 h)), if_neg (show ¬ (i : Int) < (j : Int) by omega)]
      by_cases h4 : j < i
      · rw [if_pos (e2.2 h4), if_pos (show (j : Int) < (i : Int) by omega)]
      · rw [if_neg (fun h => h4 (e2.1 h)), if_neg (show ¬ (j : Int) < (i : Int) by omega)]
theorem insK_of {ord : List Nat} {x : Int} (h : x = -1 ∨ 0 ≤ pos ord x) : ∃ K, insK ord x = some K ∧ K = if x = -1 then 0 else (pos ord x + 1).toNat := by
  unfold insK
  by_cases hx : x = -1
  · rw [if_pos hx]; exact ⟨0, rfl, by rw [if_pos hx]⟩
  · rw [if_neg hx, if_pos (by omega), if_neg hx]; exact ⟨_, rfl, rfl⟩
theorem Good.next {M : LM} {ord : List Nat} {n : Nat} (hg : Good M ord n) (x : Int) : M.nextR x = refNext ord x := by
  unfold LM.nextR refNext
  rw [hg.inv.has x]
  by_cases h1 : x ≠ -1 ∧ pos ord x < 0
  · rw [if_pos h1, if_pos ⟨h1.1, by simpa using h1.2⟩]
  · rw [if_neg h1, if_neg (by simp; intro h; omega)]
    obtain ⟨K, hK, he⟩ := insK_of (ord := ord) (x := x) (by omega)
    have hA := insK_at hK
    rw [hg.inv.after hA, ← he]
    dsimp only
    have := hA.le
    by_cases h2 : K = ord.length
    · rw [if_pos h2, nb_out (by omega), if_pos (by omega)]
    · rw [if_neg h2, nb_in (by omega), if_neg (by omega)]
theorem Good.label {M : LM} {ord : List Nat} {n : Nat} (hg : Good M ord n) (x : Int) : M.labelR x = if 0 ≤ pos ord x then (lbl M (ord.getD (pos ord x).toNat 0), 0) else (0, 12) := by
  unfold LM.labelR
  rw [hg.inv.has x]
  by_cases h : 0 ≤ pos ord x
  · rw [if_pos h, if_pos (by simpa using h)]
    obtain ⟨i, hi⟩ := Int.eq_ofNat_of_zero_le h
    rw [pos_lbl hi, hi]; rfl
  · rw [if_neg h, if_neg (by simpa using h)]

def awOrd : Nat → List Nat
  | 0 => []
  | 1 => [0]
  | 2 => [0, 1]
  | 3 => [0, 2, 1]
  | _ => [3, 0, 2, 1]
def awX : Nat → Int
  | 0 => -1
  | 1 => 0
  | 2 => 0
  | _ => -1
theorem aw_step (k : Nat) (h : k < 4) : insOrd (awOrd k) k (awX k) = awOrd (k + 1) ∧ insRes (awOrd k) k (awX k) = ((k : Int), 0) ∧ insN (awOrd k) k (awX k) = k + 1 := by
  match k, h with
  | 0, _ => decide
  | 1, _ => decide
  | 2, _ => decide
  | 3, _ => decide
theorem aw_cmp : refCmp [3, 0, 2, 1] 2 1 = (-1, 0) := by decide

/-- the example's relation -/
def AR (w : World) (k : Nat) (wr : World) : Prop :=
  ∃ (v : Value) (M : LM), LRep w.heap.size wr w.heap.size v M ∧ Good M (awOrd k) k ∧ Ext w wr ∧ wr.heap[w.heap.size + 1]? = some (.cells #[.int .i64 (-1), .int .i64 0, .int .i64 0, .int .i64 (-1)] 3 (0, 0)) ∧ ¬ own w.heap.size v (w.heap.size + 1)

set_option maxRecDepth 100000 in
set_option maxHeartbeats 1000000 in
theorem awake_any (w : World) : Calls Try.prog 9 #[] w fun e w' => e = .returned (.bool true) ∧ Ext w w' := by
  go_enter Try.func9, Try.ntmps9
  go_wp2_with fail
  refine (new_any _).mono ?_
  rintro e w1 ⟨rfl, hw1⟩
  have hrep : LRep w.heap.size w1 w.heap.size (.slice none 0 0) ⟨[], -1, -1, 0, 0⟩ := by rw [hw1]; exact new_rep _ _ (Nat.le_refl _)
  have hs1 : w1.heap.size = w.heap.size + 1 := by rw [hw1]; simp
  have hE : Ext w w1 := by rw [hw1]; exact (Upd.refl _ w).alloc _
  have A0 : Hid (AR w 0 (w1.alloc (.cells #[.int .i64 (-1), .int .i64 0, .int .i64 0, .int .i64 (-1)] 3))) :=
    ⟨.slice none 0 0, ⟨[], -1, -1, 0, 0⟩, hrep.kept ((Upd.refl (fun _ => False) w1).alloc _) (fun _ _ h => h), Good.new, hE.alloc _, alloc_at _ _ hs1.symm, by
      rintro (h | h)
      · omega
      · simp [Value.ownBlock] at h⟩
  clear hw1 hrep hE
  go_wp2_with fail
  go_loopg [13] 4 (fun gk i wr => ∃ k : Nat, i = .int .i64 k ∧ gk = 4 - k ∧ k ≤ 4 ∧ Hid (AR w k wr))
  case atStart => exact ⟨0, rfl, rfl, by omega, A0.out⟩
  case round =>
    obtain ⟨k, rfl, rfl, hk4, HA⟩ := hrel
    obtain ⟨v, M, hrep, hG, hE, hlit, hno⟩ := HA.out
    clear HA A0 hs1
    by_cases hlt : k < 4
    · have hel : wr.cell? ⟨w.heap.size + 1, k, none⟩ = some (.int .i64 (awX k)) := by
        rw [cell_of_row wr _ k _ _ _ hlit]
        match k, hlt with
        | 0, _ => rfl
        | 1, _ => rfl
        | 2, _ => rfl
        | 3, _ => rfl
      obtain ⟨a1, a2, a3⟩ := aw_step k hlt
      have C := ins_step w.heap.size w.heap.size v M (awOrd k) k (awX k) wr hrep hG hE.size
      rw [a2] at C
      have hG2 := hG.ins (awX k)
      rw [a1, a3] at hG2
      have HC := Lib.hid C
      have HG2 := Lib.hid hG2
      have HE := Lib.hid hE
      have Hlit := Lib.hid hlit
      have Hno := Lib.hid hno
      have Hrep := Lib.hid hrep
      generalize awX k = X at *
      clear C hG2 hE hlit hno hrep a1 a2 a3 hG
      go_wp2_with fail
      refine HC.out.mono ?_
      rintro e w2 ⟨rfl, v', hW⟩
      have HF : Hid (AR w (k + 1) w2) := by
        have hlt1 : w.heap.size + 1 < wr.heap.size := (Array.getElem?_eq_some_iff.1 Hlit.out).1
        refine ⟨v', _, hW.rep, HG2.out, HE.out.trans' hW.upd (fun i hi ho => by have := Hrep.out.ownsBase i ho; omega), hW.upd.heap Hlit.out Hno.out, fun ho => ?_⟩
        rcases hW.own _ ho with h | h
        · exact Hno.out h
        · omega
      clear hW HC HG2 HE Hlit Hno Hrep
      unfold two
      go_wp2_with fail
      go_roundg (4 - (k + 1))
      case measure => omega
      case rel => exact ⟨k + 1, by go_num, rfl, by omega, HF.out⟩
    · have he : k = 4 := by omega
      subst he
      have C1 := compare_any w.heap.size w.heap.size v M 2 1 wr hrep hG.inv.wf
      rw [hG.compare, show awOrd 4 = [3, 0, 2, 1] from rfl, aw_cmp] at C1
      have HC1 := Lib.hid C1
      have Hrep := Lib.hid hrep
      have HG := Lib.hid hG
      have HE := Lib.hid hE
      clear C1 hrep hG hE hlit hno
      go_wp2_with fail
      refine HC1.out.mono ?_
      rintro e w2 ⟨rfl, nd, rfl⟩
      unfold two
      go_wp2_with fail
      refine (order_any w.heap.size w.heap.size v M [3, 0, 2, 1] _ (Hrep.out.drewN nd) HG.out.inv.wf HG.out.inv.chain (by decide)).mono ?_
      rintro e w3 ⟨u, rfl, hown, hu⟩
      have hE3 : Ext w w3 := HE.out.ext hu.ofDrewN
      have HS1 : Hid (LsR (fun k => k < w3.heap.size) w3 u [3, 0, 2, 1]) := (SlR.of_own hown).weaken (fun k hk => (hown.lt k hk).2)
      have HE3 := Lib.hid hE3
      clear hown hu hE3
      go_wp2_with fail
      refine (equal_any (fun k => k < w3.heap.size) (fun _ => True) u _ [3, 0, 2, 1] [3, 0, 2, 1] _ (HS1.out.kept ((Upd.refl (fun _ => False) w3).alloc _) (fun _ _ h => h)) ?_ (by decide) (by decide)).mono ?_
      · refine SlR.mk' (g := w3.heap.size) (off := 0) (cap := 4) (by decide) rfl (by decide) (fun _ => trivial) (fun j hj => ?_)
        rw [cell_of_row _ _ (0 + j) _ _ _ (alloc0 w3 _)]
        simp only [List.length_cons, List.length_nil] at hj
        match j, hj with
        | 0, _ => rfl
        | 1, _ => rfl
        | 2, _ => rfl
        | 3, _ => rfl
      rintro e w4 ⟨rfl, nd2, rfl⟩
      have t1 : decide (([3, 0, 2, 1] : List Nat) = [3, 0, 2, 1]) = true := by decide
      go_wp2_with fail
      go_ret
      exact ⟨rfl, (HE3.out.alloc _).drewN' _⟩

end Go.Proofs.Ytnlminaanccejaa
