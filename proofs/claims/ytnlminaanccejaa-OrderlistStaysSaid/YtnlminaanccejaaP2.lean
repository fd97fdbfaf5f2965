/- What stays true of the list through an insertion, a deletion and a spread. -/
import Derived.Test.YtnlminaanccejaaP1
namespace Go.Proofs.Ytnlminaanccejaa
open Go.RowKit Go.Hw
set_option linter.unusedVariables false
set_option linter.unusedSimpArgs false

theorem conn1_at (M : LM) (x y : Int) (j : Nat) (hj : j < M.l.length) : (M.conn1 x y).at (j : Nat) = { M.at (j : Nat) with nxt := if (j : Int) = x then y else (M.at (j : Nat)).nxt } := by
  unfold LM.conn1
  split
  · rw [if_neg (by omega)]; rfl
  · rename_i hx
    obtain ⟨a, rfl⟩ := Int.eq_ofNat_of_zero_le (a := x) (by omega)
    rw [upd_at]
    by_cases h : j = a
    · subst h; rw [if_pos ⟨rfl, hj⟩, if_pos rfl]
    · rw [if_neg (by intro h2; exact h h2.1), if_neg (by omega)]
theorem conn2_at (M : LM) (x y : Int) (j : Nat) (hj : j < M.l.length) : (M.conn2 x y).at (j : Nat) = { M.at (j : Nat) with prev := if (j : Int) = y then x else (M.at (j : Nat)).prev } := by
  unfold LM.conn2
  split
  · rw [if_neg (by omega)]; rfl
  · rename_i hx
    obtain ⟨a, rfl⟩ := Int.eq_ofNat_of_zero_le (a := y) (by omega)
    rw [upd_at]
    by_cases h : j = a
    · subst h; rw [if_pos ⟨rfl, hj⟩, if_pos rfl]
    · rw [if_neg (by intro h2; exact h h2.1), if_neg (by omega)]
theorem connect_at (M : LM) (x y : Int) (j : Nat) (hj : j < M.l.length) : (M.connect x y).at (j : Nat) =
    { M.at (j : Nat) with nxt := if (j : Int) = x then y else (M.at (j : Nat)).nxt, prev := if (j : Int) = y then x else (M.at (j : Nat)).prev } := by
  unfold LM.connect
  rw [conn2_at _ _ _ _ (by rw [conn1_len]; exact hj), conn1_at _ _ _ _ hj]
theorem conn1_first (M : LM) (x y : Int) : (M.conn1 x y).first = if x < 0 then y else M.first := by
  unfold LM.conn1; split <;> simp [LM.upd]
theorem conn2_first (M : LM) (x y : Int) : (M.conn2 x y).first = M.first := by
  unfold LM.conn2; split <;> simp [LM.upd]
theorem connect_first (M : LM) (x y : Int) : (M.connect x y).first = if x < 0 then y else M.first := by
  unfold LM.connect; rw [conn2_first, conn1_first]
theorem conn1_moves (M : LM) (x y : Int) : (M.conn1 x y).moves = M.moves := by unfold LM.conn1; split <;> simp [LM.upd]
theorem conn2_moves (M : LM) (x y : Int) : (M.conn2 x y).moves = M.moves := by unfold LM.conn2; split <;> simp [LM.upd]
theorem connect_moves (M : LM) (x y : Int) : (M.connect x y).moves = M.moves := by unfold LM.connect; rw [conn2_moves, conn1_moves]

/-! ### a deletion -/
def rem (ord : List Nat) (K : Nat) : List Nat := ord.take K ++ ord.drop (K + 1)
theorem rem_len {ord : List Nat} {K : Nat} (h : K < ord.length) : (rem ord K).length = ord.length - 1 := by simp [rem]; omega
theorem rem_get {ord : List Nat} {K : Nat} (h : K < ord.length) (i : Nat) : (rem ord K).getD i 0 = if i < K then ord.getD i 0 else ord.getD (i + 1) 0 := by
  simp only [rem, List.getD_eq_getElem?_getD]
  by_cases hi : i < K
  · rw [if_pos hi, List.getElem?_append_left (by simp; omega), List.getElem?_take_of_lt hi]
  · rw [if_neg hi, List.getElem?_append_right (by simp; omega)]
    have : i - (ord.take K).length = i - K := by simp; omega
    rw [this, List.getElem?_drop, show K + 1 + (i - K) = i + 1 by omega]
theorem rem_nb {ord : List Nat} {K : Nat} (h : K < ord.length) (i : Int) : nb (rem ord K) i = if i < K then nb ord i else nb ord (i + 1) := by
  unfold nb
  rw [rem_len h]
  by_cases h0 : 0 ≤ i ∧ i < ((ord.length - 1 : Nat) : Int)
  · rw [if_pos h0, rem_get h]
    by_cases hk : i < K
    · rw [if_pos (by omega), if_pos hk, if_pos (by omega)]
    · rw [if_neg (by omega), if_neg hk, if_pos (by omega)]
      rw [show (i + 1).toNat = i.toNat + 1 by omega]
  · rw [if_neg h0]
    split
    · split
      · rename_i h1 h2; omega
      · rfl
    · split
      · rename_i h1 h2; omega
      · rfl
theorem mem_getD {ord : List Nat} {a : Nat} (h : a ∈ ord) : ∃ i, i < ord.length ∧ ord.getD i 0 = a := by
  obtain ⟨i, hi, e⟩ := List.mem_iff_getElem.1 h
  exact ⟨i, hi, by simp [hi, e]⟩
theorem mem_rem {ord : List Nat} (hn : ord.Nodup) {K : Nat} (h : K < ord.length) (a : Nat) : a ∈ rem ord K ↔ a ∈ ord ∧ a ≠ ord.getD K 0 := by
  constructor
  · intro ha
    obtain ⟨i, hi, e⟩ := mem_getD ha
    rw [rem_len h] at hi
    rw [rem_get h] at e
    split at e
    · subst e; exact ⟨getD_mem (by omega), fun h2 => by have := inj_of_nd hn (by omega) h h2; omega⟩
    · subst e; exact ⟨getD_mem (by omega), fun h2 => by have := inj_of_nd hn (by omega) h h2; omega⟩
  · intro ⟨ha, hne⟩
    obtain ⟨i, hi, e⟩ := mem_getD ha
    subst e
    by_cases h1 : i < K
    · have := getD_mem (ord := rem ord K) (i := i) (by rw [rem_len h]; omega)
      rwa [rem_get h, if_pos h1] at this
    · have h2 : i ≠ K := fun e => hne (by rw [e])
      have := getD_mem (ord := rem ord K) (i := i - 1) (by rw [rem_len h]; omega)
      rw [rem_get h, if_neg (by omega), show i - 1 + 1 = i by omega] at this
      exact this
theorem nd_of_inj {l : List Nat} (h : ∀ i j, i < j → j < l.length → l.getD i 0 ≠ l.getD j 0) : l.Nodup := by
  refine List.pairwise_iff_getElem.2 fun i j hi hj hij => ?_
  have := h i j hij hj
  simpa [hi, hj] using this
theorem rem_nd {ord : List Nat} (hn : ord.Nodup) {K : Nat} (h : K < ord.length) : (rem ord K).Nodup := by
  refine nd_of_inj fun i j hij hj => ?_
  rw [rem_len h] at hj
  rw [rem_get h, rem_get h]
  intro e
  split at e <;> split at e
  · have := inj_of_nd hn (by omega) (by omega) e; omega
  · have := inj_of_nd hn (by omega) (by omega) e; omega
  · have := inj_of_nd hn (by omega) (by omega) e; omega
  · have := inj_of_nd hn (by omega) (by omega) e; omega

theorem off_at (M : LM) (a j : Nat) : (M.off (a : Int)).at (j : Nat) = if j = a ∧ j < M.l.length then { M.at (a : Nat) with inn := false } else M.at (j : Nat) := by
  unfold LM.off; rw [upd_at]
theorem del_at (M : LM) (a : Nat) (j : Nat) (hj : j < M.l.length) : (M.del (a : Int)).at (j : Nat) =
    { M.at (j : Nat) with nxt := if (j : Int) = (M.at (a : Nat)).prev then (M.at (a : Nat)).nxt else (M.at (j : Nat)).nxt,
                          prev := if (j : Int) = (M.at (a : Nat)).nxt then (M.at (a : Nat)).prev else (M.at (j : Nat)).prev,
                          inn := if j = a then false else (M.at (j : Nat)).inn } := by
  show ((M.connect (M.at (a : Nat)).prev (M.at (a : Nat)).nxt).off (a : Int)).at (j : Nat) = _
  rw [off_at, connect_len]
  by_cases h : j = a
  · subst h; rw [if_pos ⟨rfl, hj⟩, if_pos rfl, connect_at _ _ _ _ hj]
  · rw [if_neg (by intro h2; exact h h2.1), if_neg h, connect_at _ _ _ _ hj]
theorem del_len (M : LM) (a : Int) : (M.del a).l.length = M.l.length := by
  show ((M.connect (M.at a).prev (M.at a).nxt).off a).l.length = _
  unfold LM.off LM.upd
  simp [connect_len]
theorem del_first (M : LM) (a : Int) : (M.del a).first = if (M.at a).prev < 0 then (M.at a).nxt else M.first := by
  show (M.connect (M.at a).prev (M.at a).nxt).first = _
  rw [connect_first]
theorem del_moves (M : LM) (a : Int) : (M.del a).moves = M.moves := by
  show (M.connect (M.at a).prev (M.at a).nxt).moves = _
  rw [connect_moves]
theorem del_lbl (M : LM) (a j : Nat) (hj : j < M.l.length) : lbl (M.del (a : Int)) j = lbl M j := by
  unfold lbl; rw [del_at M a j hj]

theorem Inv.del {M : LM} {ord : List Nat} (h : Inv M ord) {K : Nat} (hK : K < ord.length) : Inv (M.del (ord.getD K 0 : Nat)) (rem ord K) := by
  have hmem := getD_mem hK
  have ha := h.lt _ hmem
  have hp := h.prev K hK
  have hx := h.nxt K hK
  have hlK : ∀ a, a ∈ rem ord K → a ∈ ord := fun a ha => ((mem_rem h.nd hK a).1 ha).1
  have gl : ∀ i, i < (rem ord K).length → (rem ord K).getD i 0 < M.l.length := fun i hi => h.lt _ (hlK _ (getD_mem hi))
  refine ⟨by rw [del_len]; exact h.len, rem_nd h.nd hK, fun a ha => by rw [del_len]; exact h.lt a (hlK a ha), ?_, ?_, ?_, ?_, ?_, ?_, ?_, ?_, by rw [del_moves]; exact h.m0, by rw [del_moves, del_len]; exact h.m1⟩
  · intro k hk
    rw [del_len] at hk
    rw [del_at _ _ _ hk, mem_rem h.nd hK]
    show (if k = ord.getD K 0 then false else (M.at (k : Nat)).inn) = true ↔ _
    split
    · rename_i e; simp [e]
    · rename_i e; rw [h.inn k hk]; exact ⟨fun h => ⟨h, e⟩, fun h => h.1⟩
  · rw [del_first, hp, hx, rem_nb hK, h.first]
    by_cases h0 : K = 0
    · subst h0; rw [nb_out (by omega), if_pos (by omega), if_neg (by omega)]; simp
    · rw [show ((K : Int) - 1) = ((K - 1 : Nat) : Int) by omega, nb_in (by omega), if_neg (by omega), if_pos (by omega)]
  · intro i hi
    have hi2 := gl i hi
    rw [rem_len hK] at hi
    rw [del_at _ _ _ hi2, hp, hx, rem_nb hK]
    show (if (((rem ord K).getD i 0 : Nat) : Int) = _ then _ else (M.at ((rem ord K).getD i 0 : Nat)).nxt) = _
    rw [rem_get hK]
    by_cases h1 : i < K
    · simp only [if_pos h1]
      by_cases h2 : i + 1 = K
      · rw [if_pos (by rw [show ((K : Int) - 1) = ((K - 1 : Nat) : Int) by omega, nb_in (by omega), show K - 1 = i by omega]), if_neg (by omega)]
        congr 1; omega
      · rw [if_neg, if_pos (by omega)]
        · rw [h.nxt i (by omega)]
        · rw [show ((K : Int) - 1) = ((K - 1 : Nat) : Int) by omega, nb_in (by omega)]
          intro e
          have := inj_of_nd h.nd (i := i) (j := K - 1) (by omega) (by omega) (by omega)
          omega
    · simp only [if_neg h1]
      rw [if_neg, if_neg (by omega)]
      · rw [h.nxt (i + 1) (by omega)]; rfl
      · intro e
        by_cases h0 : K = 0
        · rw [nb_out (by omega)] at e; omega
        · rw [show ((K : Int) - 1) = ((K - 1 : Nat) : Int) by omega, nb_in (by omega)] at e
          have := inj_of_nd h.nd (i := i + 1) (j := K - 1) (by omega) (by omega) (by omega)
          omega
  · intro i hi
    have hi2 := gl i hi
    rw [rem_len hK] at hi
    rw [del_at _ _ _ hi2, hp, hx, rem_nb hK]
    show (if (((rem ord K).getD i 0 : Nat) : Int) = nb ord ((K : Int) + 1) then nb ord ((K : Int) - 1) else (M.at ((rem ord K).getD i 0 : Nat)).prev) = _
    rw [rem_get hK]
    by_cases h1 : i < K
    · simp only [if_pos h1]
      rw [if_neg, if_pos (by omega)]
      · rw [h.prev i (by omega)]
      · intro e
        by_cases h3 : K + 1 < ord.length
        · rw [show ((K : Int) + 1) = ((K + 1 : Nat) : Int) by omega, nb_in h3] at e
          have := inj_of_nd h.nd (i := i) (j := K + 1) (by omega) (by omega) (by omega)
          omega
        · rw [nb_out (by omega)] at e; omega
    · simp only [if_neg h1]
      by_cases h2 : i = K
      · subst h2
        rw [if_pos (by rw [show ((i : Int) + 1) = ((i + 1 : Nat) : Int) by omega, nb_in (by omega)]), if_pos (by omega)]
      · rw [if_neg, if_neg (by omega)]
        · rw [h.prev (i + 1) (by omega)]; congr 1; omega
        · rw [show ((K : Int) + 1) = ((K + 1 : Nat) : Int) by omega, nb_in (by omega)]
          intro e
          have := inj_of_nd h.nd (i := i + 1) (j := K + 1) (by omega) (by omega) (by omega)
          omega
  · intro i j hij hj
    have hj2 := gl j hj
    have hi2 := gl i (by omega)
    rw [rem_len hK] at hj
    rw [del_lbl _ _ _ hi2, del_lbl _ _ _ hj2, rem_get hK, rem_get hK]
    split <;> split
    · exact h.asc _ _ hij (by omega)
    · exact h.asc _ _ (by omega) (by omega)
    · omega
    · exact h.asc _ _ (by omega) (by omega)
  · intro k hk
    rw [del_len] at hk
    rw [del_lbl _ _ _ hk]; exact h.lab k hk
  · intro k hk
    rw [del_len] at hk ⊢
    rw [del_at _ _ _ hk]
    have l1 := h.lk k hk
    have l2 := h.lk _ ha
    refine ⟨?_, ?_⟩
    · dsimp only
      split
      · exact l2.1
      · exact l1.1
    · dsimp only
      split
      · exact l2.2
      · exact l1.2
  · rw [rem_len hK]
    show M.n - 1 = _
    rw [h.n]; omega

end Go.Proofs.Ytnlminaanccejaa
