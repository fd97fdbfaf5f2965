/- How few moves there are, and what stays between two times. -/
import Derived.Test.YtnlminaanccejaaP4
namespace Go.Proofs.Ytnlminaanccejaa
open Go.RowKit Go.Hw
set_option linter.unusedVariables false
set_option linter.unusedSimpArgs false

def lowK (M : LM) (ord : List Nat) (K : Nat) : Int := if K = 0 then -1 else lbl M (ord.getD (K - 1) 0)
def highK (M : LM) (ord : List Nat) (K : Nat) : Int := if K < ord.length then lbl M (ord.getD K 0) else 1099511627777
/-- s spreads, c insertions since -/
def Pot (M : LM) (ord : List Nat) (n : Nat) : Prop :=
  ∃ s c : Nat, s * 29 + c ≤ n ∧ M.moves ≤ s * n ∧ ∀ K, K ≤ ord.length → ((2 ^ (29 - c) : Nat) : Int) ≤ highK M ord K - lowK M ord K

theorem Pot.new : Pot ⟨[], -1, -1, 0, 0⟩ [] 0 := by
  refine ⟨0, 0, by omega, by simp, fun K hK => ?_⟩
  have : K = 0 := by simpa using hK
  subst this
  simp [highK, lowK]

theorem lbl_lt {M : LM} {ord : List Nat} (h : Inv M ord) {K : Nat} (hK : K ≤ ord.length) : lowK M ord K < highK M ord K := by
  unfold lowK highK
  have hm : ∀ i, i < ord.length → 0 ≤ lbl M (ord.getD i 0) ∧ lbl M (ord.getD i 0) ≤ 1099511627776 := fun i hi => h.lab _ (h.lt _ (getD_mem hi))
  split
  · split
    · have := hm K (by assumption); omega
    · omega
  · split
    · exact h.asc _ _ (by omega) (by assumption)
    · have := hm (K - 1) (by omega); omega

theorem rem_low {M M' : LM} {ord : List Nat} {K : Nat} (hK : K < ord.length) (hl : ∀ i, i < ord.length → lbl M' (ord.getD i 0) = lbl M (ord.getD i 0)) (J : Nat) (hJ : J ≤ (rem ord K).length) :
    lowK M' (rem ord K) J = if J ≤ K then lowK M ord J else lowK M ord (J + 1) := by
  rw [rem_len hK] at hJ
  unfold lowK
  rw [rem_get hK]
  by_cases h0 : J = 0
  · subst h0; simp
  · rw [if_neg h0]
    by_cases h1 : J ≤ K
    · rw [if_pos h1, if_pos (show J - 1 < K by omega), if_neg h0, hl _ (by omega)]
    · rw [if_neg h1, if_neg (show ¬ J - 1 < K by omega), if_neg (show ¬ J + 1 = 0 by omega), hl _ (by omega)]; congr 2; omega
theorem rem_high {M M' : LM} {ord : List Nat} {K : Nat} (hK : K < ord.length) (hl : ∀ i, i < ord.length → lbl M' (ord.getD i 0) = lbl M (ord.getD i 0)) (J : Nat) (hJ : J ≤ (rem ord K).length) :
    highK M' (rem ord K) J = if J < K then highK M ord J else highK M ord (J + 1) := by
  unfold highK
  rw [rem_get hK, rem_len hK]
  rw [rem_len hK] at hJ
  by_cases h1 : J < K
  · rw [if_pos (by omega), if_pos h1, if_pos h1, if_pos (by omega), hl _ (by omega)]
  · rw [if_neg h1, if_neg h1]
    by_cases h2 : J < ord.length - 1
    · rw [if_pos h2, if_pos (by omega), hl _ (by omega)]
    · rw [if_neg h2, if_neg (by omega)]

theorem Pot.del {M : LM} {ord : List Nat} {n : Nat} (hg : Good M ord n) (hp : Pot M ord n) (x : Int) : Pot (delM M ord x) (delOrd ord x) n := by
  unfold delM delOrd
  split
  · rename_i hpos
    obtain ⟨k, hk⟩ := Int.eq_ofNat_of_zero_le hpos
    obtain ⟨h1, h2⟩ := pos_at hk
    rw [hk, ← h2]
    simp only [Int.toNat_natCast]
    obtain ⟨s, c, hs, hm, hgap⟩ := hp
    refine ⟨s, c, hs, by rw [del_moves]; exact hm, fun J hJ => ?_⟩
    have hl : ∀ i, i < ord.length → lbl (M.del (ord.getD k 0 : Nat)) (ord.getD i 0) = lbl M (ord.getD i 0) := fun i hi => del_lbl _ _ _ (hg.inv.lt _ (getD_mem hi))
    rw [rem_low h1 hl J hJ, rem_high h1 hl J hJ]
    rw [rem_len h1] at hJ
    by_cases h3 : J < k
    · rw [if_pos h3, if_pos (by omega)]; exact hgap J (by omega)
    · rw [if_neg h3]
      by_cases h4 : J = k
      · subst h4
        rw [if_pos (Nat.le_refl _)]
        have e1 := hgap J (by omega)
        have e2 := lbl_lt hg.inv (K := J + 1) (by omega)
        have e3 : lowK M ord (J + 1) = highK M ord J := by unfold lowK highK; rw [if_neg (by omega), if_pos h1]; rfl
        omega
      · rw [if_neg (by omega)]; exact hgap (J + 1) (by omega)
  · exact hp

theorem ins_low {M M' : LM} {ord : List Nat} {K n : Nat} (mid : Int) (hK : K ≤ ord.length) (hl : ∀ i, i < ord.length → lbl M' (ord.getD i 0) = lbl M (ord.getD i 0)) (hn : lbl M' n = mid) (J : Nat) (hJ : J ≤ ord.length + 1) :
    lowK M' (insAt ord K n) J = if J ≤ K then lowK M ord J else if J = K + 1 then mid else lowK M ord (J - 1) := by
  unfold lowK
  rw [insAt_get hK]
  by_cases h0 : J = 0
  · subst h0; simp
  · rw [if_neg h0, if_neg h0]
    by_cases h1 : J ≤ K
    · rw [if_pos (by omega), if_pos h1, hl _ (by omega)]
    · rw [if_neg (by omega), if_neg h1]
      by_cases h2 : J = K + 1
      · rw [if_pos (by omega), if_pos h2, hn]
      · rw [if_neg (by omega), if_neg h2, if_neg (by omega), hl _ (by omega)]
theorem ins_high {M M' : LM} {ord : List Nat} {K n : Nat} (mid : Int) (hK : K ≤ ord.length) (hl : ∀ i, i < ord.length → lbl M' (ord.getD i 0) = lbl M (ord.getD i 0)) (hn : lbl M' n = mid) (J : Nat) (hJ : J ≤ ord.length + 1) :
    highK M' (insAt ord K n) J = if J < K then highK M ord J else if J = K then mid else highK M ord (J - 1) := by
  unfold highK
  rw [insAt_get hK, insAt_len hK]
  by_cases h1 : J < K
  · rw [if_pos (by omega), if_pos h1, if_pos h1, if_pos (by omega), hl _ (by omega)]
  · rw [if_neg h1, if_neg h1]
    by_cases h2 : J = K
    · rw [if_pos (by omega), if_pos h2, if_pos h2, hn]
    · rw [if_neg h2, if_neg h2]
      by_cases h3 : J < ord.length + 1
      · rw [if_pos h3, if_pos (by omega), hl _ (by omega)]
      · rw [if_neg h3, if_neg (by omega)]

theorem stepOf_big {n : Nat} (h : n ≤ 2000) : 536870912 ≤ stepOf n := by
  unfold stepOf
  apply (Int.le_ediv_iff_mul_le (by omega)).2
  omega

theorem pow_half (c : Nat) (g : Int) (h : ((2 ^ (29 - c) : Nat) : Int) ≤ g) (h2 : 2 ≤ g) : ((2 ^ (29 - (c + 1)) : Nat) : Int) ≤ g / 2 := by
  by_cases hc : c < 29
  · have e : 29 - c = (29 - (c + 1)) + 1 := by omega
    rw [e, Nat.pow_succ] at h
    omega
  · have e : 29 - (c + 1) = 0 := by omega
    rw [e]; simp; omega
theorem pow_less (c : Nat) : ((2 ^ (29 - (c + 1)) : Nat) : Int) ≤ ((2 ^ (29 - c) : Nat) : Int) := by
  have : 2 ^ (29 - (c + 1)) ≤ 2 ^ (29 - c) := Nat.pow_le_pow_right (by omega) (by omega)
  omega

/-- an insertion where there is room -/
theorem gaps_ins {M : LM} {ord : List Nat} (h : Inv M ord) {x : Int} {K : Nat} (hA : At ord x K) (hgap : 2 ≤ M.gapHigh x - M.gapLow x) (c : Nat)
    (hc : ∀ J, J ≤ ord.length → ((2 ^ (29 - c) : Nat) : Int) ≤ highK M ord J - lowK M ord J) :
    ∀ J, J ≤ (insAt ord K M.l.length).length → ((2 ^ (29 - (c + 1)) : Nat) : Int) ≤ highK (M.ins x) (insAt ord K M.l.length) J - lowK (M.ins x) (insAt ord K M.l.length) J := by
  intro J hJ
  have hK := hA.le
  rw [insAt_len hK] at hJ
  have hl : ∀ i, i < ord.length → lbl (M.ins x) (ord.getD i 0) = lbl M (ord.getD i 0) := fun i hi => by
    have := h.lt _ (getD_mem hi)
    rw [ins_lbl M x _ (by omega), if_neg (by omega)]
  have hn : lbl (M.ins x) M.l.length = M.mid x := by rw [ins_lbl M x _ (by omega), if_pos rfl]
  rw [ins_low (M.mid x) hK hl hn J hJ, ins_high (M.mid x) hK hl hn J hJ]
  have hlow : M.gapLow x = lowK M ord K := h.low hA
  have hhigh : M.gapHigh x = highK M ord K := h.high hA
  have hmid : M.mid x = (lowK M ord K + highK M ord K) / 2 := by unfold LM.mid; rw [hlow, hhigh]
  have hk := hc K hK
  have hh := pow_half c _ hk (by omega)
  have hl2 := pow_less c
  by_cases h1 : J < K
  · rw [if_pos h1, if_pos (by omega)]; have := hc J (by omega); omega
  · rw [if_neg h1]
    by_cases h2 : J = K
    · subst h2; rw [if_pos rfl, if_pos (Nat.le_refl _)]; omega
    · rw [if_neg h2, if_neg (by omega)]
      by_cases h3 : J = K + 1
      · subst h3; rw [if_pos rfl]; simp only [Nat.add_sub_cancel]; omega
      · rw [if_neg h3]; have := hc (J - 1) (by omega); omega

theorem Pot.ins {M : LM} {ord : List Nat} {n : Nat} (hg : Good M ord n) (hp : Pot M ord n) (x : Int) : Pot (insM M ord x) (insOrd ord n x) (insN ord n x) := by
  unfold insM insOrd insN
  cases hk : insK ord x with
  | none => exact hp
  | some K =>
    dsimp only
    have hl := hg.len
    by_cases hf : 2000 ≤ n
    · rw [if_pos (by omega), if_pos hf, if_pos hf]; exact hp
    · rw [if_neg (by omega), if_neg hf, if_neg hf]
      obtain ⟨s, c, hs, hm, hgap⟩ := hp
      have hA := insK_at hk
      have hlow := hg.inv.low hA
      have hhigh := hg.inv.high hA
      unfold LM.prep
      by_cases hgp : M.gapHigh x - M.gapLow x < 2
      · rw [if_pos hgp]
        have hsp := hg.inv.spread hg.mv
        have spec := hg.inv.spreadSpec
        have hol := hg.inv.ordLen
        have hst := stepOf_bd (n := ord.length) (by omega)
        have hbig := stepOf_big (n := ord.length) (by omega)
        have hc29 : 29 ≤ c := by
          apply Decidable.byContradiction
          intro hc
          have h1 := hgap K hA.le
          have h2 : 2 ^ 1 ≤ 2 ^ (29 - c) := Nat.pow_le_pow_right (by omega) (by omega)
          unfold highK lowK at h1
          rw [← hlow, ← hhigh] at h1
          omega
        have hgaps0 : ∀ J, J ≤ ord.length → ((2 ^ (29 - 0) : Nat) : Int) ≤ highK (M.spread ord) ord J - lowK (M.spread ord) ord J := by
          intro J hJ
          have : At ord (if J = 0 then -1 else (ord.getD (J - 1) 0 : Nat)) J := by
            by_cases h0 : J = 0
            · subst h0; exact .inl ⟨rfl, rfl⟩
            · rw [if_neg h0]; exact .inr ⟨by omega, hJ, rfl⟩
          have h3 := (hg.inv.spreadGap hg.mv this).1
          rw [hsp.high this, hsp.low this] at h3
          unfold highK lowK
          have : ((2 ^ (29 - 0) : Nat) : Int) = 536870912 := by decide
          omega
        have hroom := (hg.inv.spreadGap hg.mv hA).1
        have := gaps_ins hsp hA (by omega) 0 hgaps0
        rw [spec.1.len, hl] at this
        refine ⟨s + 1, 1, by omega, ?_, this⟩
        rw [ins_moves]
        have h5 := spec.2.2.2.2
        have e : ((s + 1 : Nat) : Int) * ((n + 1 : Nat) : Int) = (s : Int) * n + n + s + 1 := by
          rw [show ((s + 1 : Nat) : Int) = (s : Int) + 1 by omega, show ((n + 1 : Nat) : Int) = (n : Int) + 1 by omega, Int.add_mul, Int.mul_add]; omega
        rw [e]
        omega
      · rw [if_neg hgp]
        have := gaps_ins hg.inv hA (by omega) c hgap
        rw [hl] at this
        refine ⟨s, c + 1, by omega, ?_, this⟩
        rw [ins_moves]
        have e : (s : Int) * ((n + 1 : Nat) : Int) = (s : Int) * n + s := by
          rw [show ((n + 1 : Nat) : Int) = (n : Int) + 1 by omega, Int.mul_add]; omega
        rw [e]
        omega

theorem log2I_ge {n : Int} (h : 32 ≤ n) : 5 ≤ log2I n := by
  rw [log2I_step n (by omega), log2I_step (n / 2) (by omega), log2I_step (n / 2 / 2) (by omega), log2I_step (n / 2 / 2 / 2) (by omega), log2I_step (n / 2 / 2 / 2 / 2) (by omega)]
  have := (log2I_bd (n / 2 / 2 / 2 / 2 / 2)).1
  omega
theorem log2I_ge4 {n : Int} (h : 16 ≤ n) : 4 ≤ log2I n := by
  rw [log2I_step n (by omega), log2I_step (n / 2) (by omega), log2I_step (n / 2 / 2) (by omega), log2I_step (n / 2 / 2 / 2) (by omega)]
  have := (log2I_bd (n / 2 / 2 / 2 / 2)).1
  omega
theorem Pot.few {M : LM} {ord : List Nat} {n : Nat} (hp : Pot M ord n) (hn : n ≤ 1000) : M.moves ≤ most n := by
  obtain ⟨s, c, hs, hm, _⟩ := hp
  unfold most
  split
  · have : n = 0 := by omega
    subst this
    simpa using hm
  · by_cases h0 : s = 0
    · subst h0
      have h1 := (log2I_bd n).1
      have : 0 ≤ 8 * (n : Int) * (log2I n + 1) := Int.mul_nonneg (by omega) (by omega)
      simp at hm
      omega
    · have h1 := log2I_ge4 (n := n) (by omega)
      have h2 : (s : Int) * n ≤ 40 * n := Int.mul_le_mul_of_nonneg_right (by omega) (by omega)
      have h3 : 8 * (n : Int) * 5 ≤ 8 * (n : Int) * (log2I n + 1) := Int.mul_le_mul_of_nonneg_left (by omega) (by omega)
      omega

/-! ### between two times -/
structure Since (M : LM) (ord : List Nat) (n : Nat) (M' : LM) (ord' : List Nat) (n' : Nat) : Prop where
  le : n ≤ n'
  sub : (ord'.filter (fun a => decide (a < n))).Sublist ord
  drift : ∃ D : List Nat, (D.length : Int) ≤ M'.moves - M.moves ∧ ∀ k, k < n → k ∉ D → lbl M' k = lbl M k

theorem Since.refl {M : LM} {ord : List Nat} {n : Nat} (hg : Good M ord n) : Since M ord n M ord n :=
  ⟨Nat.le_refl _, List.filter_sublist, [], by simp, fun _ _ _ => rfl⟩
theorem Since.trans {M M' M'' : LM} {ord ord' ord'' : List Nat} {n n' n'' : Nat} (h : Since M ord n M' ord' n') (k : Since M' ord' n' M'' ord'' n'') : Since M ord n M'' ord'' n'' := by
  obtain ⟨D, hD, hd⟩ := h.drift
  obtain ⟨E, hE, he⟩ := k.drift
  refine ⟨Nat.le_trans h.le k.le, ?_, D ++ E, by rw [List.length_append]; omega, fun i hi hn => ?_⟩
  · have h1 := (k.sub.filter (fun a => decide (a < n)))
    rw [List.filter_filter] at h1
    have e : (fun a => decide (a < n) && decide (a < n')) = (fun a => decide (a < n)) := by
      funext a
      by_cases ha : a < n
      · have := h.le; simp [ha]; omega
      · simp [ha]
    rw [e] at h1
    exact h1.trans h.sub
  · simp only [List.mem_append, not_or] at hn
    rw [he i (by have := h.le; omega) hn.2, hd i hi hn.1]

theorem Since.del {M : LM} {ord : List Nat} {n : Nat} (hg : Good M ord n) (x : Int) : Since M ord n (delM M ord x) (delOrd ord x) n := by
  unfold delM delOrd
  split
  · rename_i hpos
    obtain ⟨k, hk⟩ := Int.eq_ofNat_of_zero_le hpos
    obtain ⟨h1, h2⟩ := pos_at hk
    refine ⟨Nat.le_refl _, ?_, [], by rw [del_moves]; simp, fun i hi _ => ?_⟩
    · refine List.filter_sublist.trans ?_
      rw [hk]
      unfold rem
      have e : ord = ord.take k ++ ord.drop k := (List.take_append_drop k ord).symm
      conv => rhs; rw [e]
      refine List.Sublist.append_left ?_ _
      rw [List.drop_eq_getElem_cons h1]
      exact List.sublist_cons_self _ _
    · rw [← h2, del_lbl _ _ _ (by rw [hg.len]; exact hi)]
  · exact Since.refl hg

theorem Since.ins {M : LM} {ord : List Nat} {n : Nat} (hg : Good M ord n) (x : Int) : Since M ord n (insM M ord x) (insOrd ord n x) (insN ord n x) := by
  unfold insM insOrd insN
  cases hk : insK ord x with
  | none => exact Since.refl hg
  | some K =>
    dsimp only
    have hl := hg.len
    by_cases hf : 2000 ≤ n
    · rw [if_pos (by omega), if_pos hf, if_pos hf]; exact Since.refl hg
    · rw [if_neg (by omega), if_neg hf, if_neg hf]
      have hA := insK_at hk
      have hsub : ((insAt ord K n).filter (fun a => decide (a < n))).Sublist ord := by
        unfold insAt
        rw [List.filter_append, List.filter_cons_of_neg (by simp)]
        have e : ord = ord.take K ++ ord.drop K := (List.take_append_drop K ord).symm
        conv => rhs; rw [e]
        exact List.Sublist.append List.filter_sublist List.filter_sublist
      unfold LM.prep
      split
      · have spec := hg.inv.spreadSpec
        refine ⟨by omega, hsub, ?_⟩
        have key : ∀ (r : List Nat) (M : LM) (lb step : Int), r.Nodup → (∀ a ∈ r, a < M.l.length) →
            ∃ D : List Nat, (D.length : Int) ≤ (spreadL step M lb r).moves - M.moves ∧ ∀ k, k < M.l.length → k ∉ D → lbl (spreadL step M lb r) k = lbl M k := by
          intro r
          induction r with
          | nil => intro M lb step _ _; exact ⟨[], by simp [spreadL], fun _ _ _ => rfl⟩
          | cons a r ih =>
            intro M lb step hn hr
            obtain ⟨hna, hnr⟩ := List.nodup_cons.1 hn
            obtain ⟨D, hD, hd⟩ := ih (M.setLab a lb) (lb + step) step hnr (fun k hk => by rw [setLab_len]; exact hr k (List.mem_cons_of_mem _ hk))
            show ∃ D : List Nat, (D.length : Int) ≤ (spreadL step (M.setLab a lb) (lb + step) r).moves - M.moves ∧ ∀ k, k < M.l.length → k ∉ D → lbl (spreadL step (M.setLab a lb) (lb + step) r) k = lbl M k
            by_cases he : (M.at (a : Nat)).label = lb
            · have e : M.setLab a lb = M := by unfold LM.setLab; rw [if_pos he]
              rw [e] at hD hd ⊢
              exact ⟨D, hD, hd⟩
            · have e : (M.setLab a lb).moves = M.moves + 1 := by unfold LM.setLab; rw [if_neg he]
              refine ⟨a :: D, by simp only [List.length_cons]; omega, fun k hk hn => ?_⟩
              simp only [List.mem_cons, not_or] at hn
              rw [hd k (by rw [setLab_len]; exact hk) hn.2, setLab_lbl, if_neg (by intro h; exact hn.1 h.1)]
        obtain ⟨D, hD, hd⟩ := key ord M (stepOf ord.length) (stepOf ord.length) hg.inv.nd hg.inv.lt
        rw [← spread_eq hg.inv] at hD hd
        refine ⟨D, by rw [ins_moves]; exact hD, fun k hk hn => ?_⟩
        rw [ins_lbl _ _ _ (by rw [spec.1.len]; omega), if_neg (by rw [spec.1.len]; omega)]
        exact hd k (by omega) hn
      · refine ⟨by omega, hsub, [], by rw [ins_moves]; simp, fun k hk hn => ?_⟩
        rw [ins_lbl _ _ _ (by omega), if_neg (by omega)]

end Go.Proofs.Ytnlminaanccejaa
