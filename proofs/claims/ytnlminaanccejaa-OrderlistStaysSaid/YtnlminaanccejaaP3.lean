/- What stays true of the list through an insertion and a spread. -/
import Derived.Test.YtnlminaanccejaaP2
namespace Go.Proofs.Ytnlminaanccejaa
open Go.RowKit Go.Hw
set_option linter.unusedVariables false
set_option linter.unusedSimpArgs false

def insAt (ord : List Nat) (K n : Nat) : List Nat := ord.take K ++ n :: ord.drop K
theorem insAt_len {ord : List Nat} {K n : Nat} (h : K ≤ ord.length) : (insAt ord K n).length = ord.length + 1 := by simp [insAt]; omega
theorem insAt_get {ord : List Nat} {K n : Nat} (h : K ≤ ord.length) (i : Nat) : (insAt ord K n).getD i 0 = if i < K then ord.getD i 0 else if i = K then n else ord.getD (i - 1) 0 := by
  simp only [insAt, List.getD_eq_getElem?_getD]
  by_cases hi : i < K
  · rw [if_pos hi, List.getElem?_append_left (by simp; omega), List.getElem?_take_of_lt hi]
  · rw [if_neg hi, List.getElem?_append_right (by simp; omega)]
    have : i - (ord.take K).length = i - K := by simp; omega
    rw [this]
    by_cases h2 : i = K
    · rw [if_pos h2, h2]; simp
    · rw [if_neg h2, show i - K = (i - 1 - K) + 1 by omega, List.getElem?_cons_succ, List.getElem?_drop, show K + (i - 1 - K) = i - 1 by omega]
theorem insAt_nb {ord : List Nat} {K n : Nat} (h : K ≤ ord.length) (i : Int) : nb (insAt ord K n) i = if i < K then nb ord i else if i = K then n else nb ord (i - 1) := by
  unfold nb
  rw [insAt_len h]
  by_cases h0 : 0 ≤ i ∧ i < ((ord.length + 1 : Nat) : Int)
  · rw [if_pos h0, insAt_get h]
    by_cases hk : i < K
    · rw [if_pos (by omega), if_pos hk, if_pos (by omega)]
    · rw [if_neg (by omega), if_neg hk]
      by_cases h2 : i = K
      · rw [if_pos (by omega), if_pos h2]
      · rw [if_neg (by omega), if_neg h2, if_pos (by omega), show (i - 1).toNat = i.toNat - 1 by omega]
  · rw [if_neg h0]
    split
    · split
      · rename_i h1 h2; omega
      · rfl
    · split
      · rename_i h1 h2; omega
      · split
        · rename_i h1 h2 h3; omega
        · rfl
theorem mem_insAt {ord : List Nat} {K n : Nat} (a : Nat) : a ∈ insAt ord K n ↔ a = n ∨ a ∈ ord := by
  have : ord = ord.take K ++ ord.drop K := (List.take_append_drop K ord).symm
  constructor
  · intro h
    simp only [insAt, List.mem_append, List.mem_cons] at h
    rcases h with h | h | h
    · exact .inr (List.mem_of_mem_take h)
    · exact .inl h
    · exact .inr (List.mem_of_mem_drop h)
  · intro h
    simp only [insAt, List.mem_append, List.mem_cons]
    rcases h with h | h
    · exact .inr (.inl h)
    · rw [this] at h
      rcases List.mem_append.1 h with h | h
      · exact .inl h
      · exact .inr (.inr h)
theorem insAt_nd {ord : List Nat} (hn : ord.Nodup) {K n : Nat} (h : K ≤ ord.length) (hN : n ∉ ord) : (insAt ord K n).Nodup := by
  refine nd_of_inj fun i j hij hj => ?_
  rw [insAt_len h] at hj
  rw [insAt_get h, insAt_get h]
  intro e
  have hm : ∀ k, k < ord.length → ord.getD k 0 ≠ n := fun k hk e => hN (e ▸ getD_mem hk)
  split at e
  · split at e
    · have := inj_of_nd hn (by omega) (by omega) e; omega
    · split at e
      · exact hm _ (by omega) e
      · have := inj_of_nd hn (by omega) (by omega) e; omega
  · split at e
    · split at e
      · omega
      · split at e
        · omega
        · exact hm _ (by omega) e.symm
    · split at e
      · omega
      · split at e
        · omega
        · have := inj_of_nd hn (by omega) (by omega) e; omega

theorem ins_len (M : LM) (x : Int) : (M.ins x).l.length = M.l.length + 1 := by
  show (((M.push (M.mid x)).connect x M.l.length).connect M.l.length (M.after x)).l.length = _
  rw [connect_len, connect_len, push_len]
theorem ins_moves (M : LM) (x : Int) : (M.ins x).moves = M.moves := by
  show (((M.push (M.mid x)).connect x M.l.length).connect M.l.length (M.after x)).moves = _
  rw [connect_moves, connect_moves]; rfl
theorem ins_first (M : LM) (x : Int) : (M.ins x).first = if x < 0 then (M.l.length : Int) else M.first := by
  show (((M.push (M.mid x)).connect x M.l.length).connect M.l.length (M.after x)).first = _
  rw [connect_first, if_neg (by omega), connect_first]; rfl
theorem ins_at (M : LM) (x : Int) (j : Nat) (hj : j < M.l.length + 1) : (M.ins x).at (j : Nat) =
    { (M.push (M.mid x)).at (j : Nat) with
      nxt := if j = M.l.length then M.after x else if (j : Int) = x then M.l.length else ((M.push (M.mid x)).at (j : Nat)).nxt,
      prev := if (j : Int) = M.after x then M.l.length else if j = M.l.length then x else ((M.push (M.mid x)).at (j : Nat)).prev } := by
  show (((M.push (M.mid x)).connect x M.l.length).connect M.l.length (M.after x)).at (j : Nat) = _
  rw [connect_at _ _ _ _ (by rw [connect_len, push_len]; exact hj), connect_at _ _ _ _ (by rw [push_len]; exact hj)]
  simp only [Int.natCast_inj]
theorem ins_nxt (M : LM) (x : Int) (j : Nat) (hj : j < M.l.length + 1) : ((M.ins x).at (j : Nat)).nxt =
    if j = M.l.length then M.after x else if (j : Int) = x then M.l.length else (M.at (j : Nat)).nxt := by
  rw [ins_at M x j hj]
  dsimp only
  split
  · rfl
  · rename_i e
    split
    · rfl
    · rw [push_at, if_neg e]
theorem ins_prev (M : LM) (x : Int) (j : Nat) (hj : j < M.l.length + 1) : ((M.ins x).at (j : Nat)).prev =
    if (j : Int) = M.after x then (M.l.length : Int) else if j = M.l.length then x else (M.at (j : Nat)).prev := by
  rw [ins_at M x j hj]
  dsimp only
  split
  · rfl
  · split
    · rfl
    · rename_i e; rw [push_at, if_neg e]
theorem ins_lbl (M : LM) (x : Int) (j : Nat) (hj : j < M.l.length + 1) : lbl (M.ins x) j = if j = M.l.length then M.mid x else lbl M j := by
  unfold lbl; rw [ins_at M x j hj, push_at]; split <;> rfl

theorem At.eq_nb {ord : List Nat} {x : Int} {K : Nat} (h : At ord x K) : x = nb ord ((K : Int) - 1) := by
  rcases h with ⟨rfl, rfl⟩ | ⟨h1, h2, rfl⟩
  · rw [nb_out (by omega)]
  · rw [show ((K : Int) - 1) = ((K - 1 : Nat) : Int) by omega, nb_in (by omega)]

theorem Inv.ins {M : LM} {ord : List Nat} (h : Inv M ord) {x : Int} {K : Nat} (hA : At ord x K) (hl : M.l.length < 2000) (hgap : 2 ≤ M.gapHigh x - M.gapLow x) :
    Inv (M.ins x) (insAt ord K M.l.length) := by
  have hK := hA.le
  have hy := h.after hA
  have hx := hA.eq_nb
  have hlow := h.low hA
  have hhigh := h.high hA
  have hN : M.l.length ∉ ord := fun e => by have := h.lt _ e; omega
  have hxl : x < M.l.length := by
    rcases hA with ⟨rfl, rfl⟩ | ⟨h1, h2, rfl⟩
    · omega
    · have := h.lt _ (getD_mem (ord := ord) (i := K - 1) (by omega)); omega
  have gl0 := gapLow_bd h.wf x hxl
  have gh0 := gapHigh_bd h.wf x hxl
  have hmid : M.gapLow x < M.mid x ∧ M.mid x < M.gapHigh x := by unfold LM.mid; omega
  have hord : ∀ i, i < ord.length → ord.getD i 0 < M.l.length := fun i hi => h.lt _ (getD_mem hi)
  have hget := @insAt_get ord K M.l.length hK
  have hlow2 : ∀ i, i < K → lbl M (ord.getD i 0) ≤ M.gapLow x := by
    intro i hi
    rw [hlow, if_neg (by omega)]
    by_cases e : i = K - 1
    · rw [e]; omega
    · have := h.asc i (K - 1) (by omega) (by omega); omega
  have hhigh2 : ∀ i, K ≤ i → i < ord.length → M.gapHigh x ≤ lbl M (ord.getD i 0) := by
    intro i hi hi2
    rw [hhigh, if_pos (by omega)]
    by_cases e : i = K
    · rw [e]; omega
    · have := h.asc K i (by omega) hi2; omega
  refine ⟨by rw [ins_len]; omega, insAt_nd h.nd hK hN, ?_, ?_, ?_, ?_, ?_, ?_, ?_, ?_, ?_, by rw [ins_moves]; exact h.m0, by rw [ins_moves, ins_len]; have := h.m1; omega⟩
  · intro a ha
    rw [ins_len]
    rcases (mem_insAt a).1 ha with e | e
    · omega
    · have := h.lt a e; omega
  · intro k hk
    rw [ins_len] at hk
    rw [ins_at M x k hk, mem_insAt, push_at]
    by_cases e : k = M.l.length
    · subst e; simp [newEl]
    · simp only [if_neg e]
      rw [h.inn k (by omega)]
      exact ⟨fun h => .inr h, fun h => h.resolve_left e⟩
  · rw [ins_first, insAt_nb hK, h.first]
    rcases hA with ⟨rfl, rfl⟩ | ⟨h1, h2, rfl⟩
    · rw [if_pos (by omega), if_neg (by omega), if_pos (by omega)]
    · rw [if_neg (by omega), if_pos (by omega)]
  · intro i hi
    rw [insAt_len hK] at hi
    have hi2 : (insAt ord K M.l.length).getD i 0 < M.l.length + 1 := by
      rw [hget]; split
      · have := hord i (by omega); omega
      · split
        · omega
        · have := hord (i - 1) (by omega); omega
    rw [ins_nxt M x _ hi2, insAt_nb hK]
    rw [hget]
    by_cases h1 : i < K
    · simp only [if_pos h1]
      have ho := hord i (by omega)
      rw [if_neg (by omega)]
      by_cases h2 : i + 1 = K
      · rw [if_pos (by rw [hx, show ((K : Int) - 1) = (i : Nat) by omega, nb_in (by omega)]), if_neg (by omega), if_pos (by omega)]
      · rw [if_neg, if_pos (by omega), h.nxt i (by omega)]
        rw [hx, show ((K : Int) - 1) = ((K - 1 : Nat) : Int) by omega, nb_in (by omega)]
        intro e
        have := inj_of_nd h.nd (i := i) (j := K - 1) (by omega) (by omega) (by omega)
        omega
    · simp only [if_neg h1]
      by_cases h2 : i = K
      · simp only [if_pos h2, ↓reduceIte]
        rw [if_neg (by omega), if_neg (by omega), hy]
        congr 1; omega
      · simp only [if_neg h2]
        have ho := hord (i - 1) (by omega)
        rw [if_neg (by omega), if_neg, if_neg (by omega), if_neg (by omega), h.nxt (i - 1) (by omega)]
        · congr 1; omega
        · rw [hx]
          by_cases h0 : K = 0
          · rw [nb_out (by omega)]; omega
          · rw [show ((K : Int) - 1) = ((K - 1 : Nat) : Int) by omega, nb_in (by omega)]
            intro e
            have := inj_of_nd h.nd (i := i - 1) (j := K - 1) (by omega) (by omega) (by omega)
            omega
  · intro i hi
    rw [insAt_len hK] at hi
    have hi2 : (insAt ord K M.l.length).getD i 0 < M.l.length + 1 := by
      rw [hget]; split
      · have := hord i (by omega); omega
      · split
        · omega
        · have := hord (i - 1) (by omega); omega
    rw [ins_prev M x _ hi2, insAt_nb hK]
    rw [hget, hy]
    by_cases h1 : i < K
    · simp only [if_pos h1]
      have ho := hord i (by omega)
      rw [if_neg, if_neg (by omega), if_pos (by omega), h.prev i (by omega)]
      by_cases h3 : K < ord.length
      · rw [nb_in h3]; intro e
        have := inj_of_nd h.nd (i := i) (j := K) (by omega) (by omega) (by omega)
        omega
      · rw [nb_out (by omega)]; omega
    · simp only [if_neg h1]
      by_cases h2 : i = K
      · simp only [if_pos h2, ↓reduceIte]
        rw [if_neg, if_pos (by omega), hx]
        · congr 1; omega
        · by_cases h3 : K < ord.length
          · rw [nb_in h3]; have := hord K h3; omega
          · rw [nb_out (by omega)]; omega
      · simp only [if_neg h2]
        have ho := hord (i - 1) (by omega)
        by_cases h3 : i = K + 1
        · subst h3
          rw [if_pos (by rw [nb_in (by omega)]; rfl), if_neg (by omega), if_pos (by omega)]
        · rw [if_neg, if_neg (by omega), if_neg (by omega), if_neg (by omega), h.prev (i - 1) (by omega)]
          · congr 1; omega
          · rw [nb_in (by omega)]
            intro e
            have := inj_of_nd h.nd (i := i - 1) (j := K) (by omega) (by omega) (by omega)
            omega
  · intro i j hij hj
    rw [insAt_len hK] at hj
    rw [hget, hget]
    have hb : ∀ i, i < ord.length → lbl (M.ins x) (ord.getD i 0) = lbl M (ord.getD i 0) := fun i hi => by
      rw [ins_lbl M x _ (by have := hord i hi; omega), if_neg (by have := hord i hi; omega)]
    have hn : lbl (M.ins x) M.l.length = M.mid x := by rw [ins_lbl M x _ (by omega), if_pos rfl]
    split
    · split
      · rw [hb _ (by omega), hb _ (by omega)]; exact h.asc _ _ hij (by omega)
      · split
        · rw [hb _ (by omega), hn]; have := hlow2 i (by omega); omega
        · rw [hb _ (by omega), hb _ (by omega)]; exact h.asc _ _ (by omega) (by omega)
    · split
      · split
        · omega
        · split
          · omega
          · rw [hb _ (by omega), hn]; have := hhigh2 (j - 1) (by omega) (by omega); omega
      · split
        · omega
        · split
          · omega
          · rw [hb _ (by omega), hb _ (by omega)]; exact h.asc _ _ (by omega) (by omega)
  · intro k hk
    rw [ins_len] at hk
    rw [ins_lbl M x k hk]
    split
    · unfold TOP; omega
    · exact h.lab k (by omega)
  · intro k hk
    rw [ins_len] at hk ⊢
    rw [ins_at M x k hk, push_at]
    dsimp only
    have hyb : M.after x < 0 ∨ M.after x < M.l.length := h.wf.after (by omega)
    refine ⟨?_, ?_⟩
    · split
      · omega
      · rename_i e
        split
        · omega
        · have := (h.lk k (by omega)).1; omega
    · split
      · omega
      · split
        · omega
        · have := (h.lk k (by omega)).2; omega
  · rw [insAt_len hK]
    show M.n + 1 = _
    rw [h.n]; omega

end Go.Proofs.Ytnlminaanccejaa
