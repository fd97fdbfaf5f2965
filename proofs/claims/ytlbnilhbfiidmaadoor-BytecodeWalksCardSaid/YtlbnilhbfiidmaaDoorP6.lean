/- A verified function is sound. -/
import Derived.Test.YtlbnilhbfiidmaaDoorB21
namespace Go.Proofs.YtlbnilhbfiidmaaDoor
open Go.RowKit Go.Hw
set_option linter.unusedVariables false
set_option linter.unusedSimpArgs false

/-! ### a verified function is sound at each place that is reached -/
def okAt (c : Cd) (f : Fn) (h : List Int) (i : Nat) : Prop :=
  (mvP c f (f.code.getD i (0, 0)).1 (f.code.getD i (0, 0)).2).1 ≤ h.getD i (-1) ∧ ((f.code.getD i (0, 0)).1 = 10 → h.getD i (-1) ≤ (mvP c f (f.code.getD i (0, 0)).1 (f.code.getD i (0, 0)).2).1) ∧
  ∀ k ∈ nxt (f.code.getD i (0, 0)).1 (f.code.getD i (0, 0)).2 i, k < h.length ∧ h.getD k.toNat (-1) = h.getD i (-1) - (mvP c f (f.code.getD i (0, 0)).1 (f.code.getD i (0, 0)).2).1 + (mvP c f (f.code.getD i (0, 0)).1 (f.code.getD i (0, 0)).2).2
theorem suc_sound {n : Int} (hn : 0 ≤ n) : ∀ (ks h h' : List Int), (∀ k ∈ ks, 0 ≤ k) → suc n ks h = (0, h') → h'.length = h.length ∧ (∀ j, 0 ≤ h.getD j (-1) → h'.getD j (-1) = h.getD j (-1)) ∧ ∀ k ∈ ks, k < h.length ∧ h'.getD k.toNat (-1) = n
  | [], h, h', _, hs => by
    unfold suc at hs
    simp only [Prod.mk.injEq, true_and] at hs
    subst hs
    exact ⟨rfl, fun _ _ => rfl, fun k hk => by cases hk⟩
  | k :: ks, h, h', hk, hs => by
    unfold suc at hs
    have k0 := hk k (by simp)
    split at hs
    · simp at hs
    · rename_i c1
      split at hs
      · simp at hs
      · rename_i c2
        obtain ⟨q1, q2, q3⟩ := suc_sound hn ks _ h' (fun j hj => hk j (by simp [hj])) hs
        rw [List.length_set] at q1
        have hg : ∀ j, (h.set k.toNat n).getD j (-1) = if j = k.toNat then n else h.getD j (-1) := fun j => getD_set_int h k.toNat j n (by omega)
        refine ⟨q1, fun j hj => ?_, fun j hj => ?_⟩
        · have := q2 j (by rw [hg]; split <;> omega)
          rw [this, hg]
          split
          · rename_i e
            subst e
            by_cases e2 : h.getD k.toNat (-1) = n
            · exact e2.symm
            · exact absurd ⟨hj, e2⟩ c2
          · rfl
        · rcases List.mem_cons.1 hj with rfl | hj
          · refine ⟨by omega, ?_⟩
            have := q2 j.toNat (by rw [hg, if_pos rfl]; exact hn)
            rw [this, hg, if_pos rfl]
          · have := q3 j hj
            rw [List.length_set] at this
            exact this
theorem okAt_up {c : Cd} {f : Fn} {h h' : List Int} {i : Nat} (hl : h'.length = h.length) (hi : 0 ≤ h.getD i (-1)) (hu : ∀ j, 0 ≤ h.getD j (-1) → h'.getD j (-1) = h.getD j (-1)) (hq : 0 ≤ (mvP c f (f.code.getD i (0, 0)).1 (f.code.getD i (0, 0)).2).2) (h0 : okAt c f h i) : okAt c f h' i := by
  unfold okAt at h0 ⊢
  obtain ⟨a, b, d⟩ := h0
  rw [hu i hi, hl]
  refine ⟨a, b, fun k hk => ?_⟩
  obtain ⟨e1, e2⟩ := d k hk
  refine ⟨e1, ?_⟩
  rw [hu k.toNat (by omega), e2]
theorem hts_sound {c : Cd} {f : Fn} (hh : headB c = true) (hr : ∀ k, k < f.code.length → rightB c f (f.code.getD k (0, 0)).1 (f.code.getD k (0, 0)).2 = true) :
    ∀ (g : Nat) (h : List Int) (d : List Bool), h.length = f.code.length → d.length = f.code.length → cntF d < g → (∀ i, i < f.code.length → d.getD i true = true → 0 ≤ h.getD i (-1) ∧ okAt c f h i) → (hts c f g h d).2.2 = 0 →
      (hts c f g h d).1.length = f.code.length ∧ (∀ j, 0 ≤ h.getD j (-1) → (hts c f g h d).1.getD j (-1) = h.getD j (-1)) ∧ ∀ i, i < f.code.length → 0 ≤ (hts c f g h d).1.getD i (-1) → okAt c f (hts c f g h d).1 i
  | 0, h, d, _, _, hg, _, _ => by omega
  | g + 1, h, d, hl, hd, hg, hI, he => by
    obtain ⟨k, hk⟩ : ∃ k, fst1 (pend h d) h.length 0 = k := ⟨_, rfl⟩
    obtain ⟨op, x, hop⟩ : ∃ op x, f.code.getD k (0, 0) = (op, x) := ⟨_, _, rfl⟩
    obtain ⟨p, q, hm⟩ : ∃ p q, mvP c f op x = (p, q) := ⟨_, _, rfl⟩
    obtain ⟨e, h', hs⟩ : ∃ e h', suc (h.getD k (-1) - p + q) (nxt op x k) h = (e, h') := ⟨_, _, rfl⟩
    have hst := hts_step c f g h d k op x p q _ e h' hk hop hm rfl hs
    rw [hst] at he ⊢
    obtain ⟨_, kle⟩ := fst1_ge (pend h d) h.length 0
    rw [hk] at kle
    by_cases hkl : k = h.length
    · rw [if_pos hkl]
      refine ⟨hl, fun _ _ => rfl, fun i hi h0 => ?_⟩
      have hp := fst1_least (pend h d) h.length 0 i (by omega) (by rw [hk]; omega)
      unfold pend at hp
      rw [decide_eq_true h0] at hp
      simp only [Bool.true_and, Bool.not_eq_false'] at hp
      exact (hI i hi hp).2
    · rw [if_neg hkl] at he ⊢
      have hkn : k < f.code.length := by omega
      have hrk := hr k hkn
      rw [hop] at hrk
      obtain ⟨m0, _, m2, _⟩ := mv_bd hh f op x hrk
      rw [hm] at m0 m2
      have hpk := fst1_hit (pend h d) h.length 0 (by rw [hk]; omega)
      rw [hk] at hpk
      obtain ⟨hk0, hdk⟩ := pend_parts hpk
      by_cases c1 : h.getD k (-1) < p
      · rw [if_pos c1] at he; simp at he
      · rw [if_neg c1] at he ⊢
        by_cases c2 : op = 10 ∧ p < h.getD k (-1)
        · rw [if_pos c2] at he; simp at he
        · rw [if_neg c2] at he ⊢
          by_cases c3 : e = 0
          · rw [if_pos c3] at he ⊢
            subst c3
            obtain ⟨q1, q2, q3⟩ := suc_sound (by dsimp only at m2; omega) _ _ _ (nxt_nn hrk) hs
            have hcnt := cntF_set d k hdk
            have ih := hts_sound hh hr g h' (d.set k true) (by omega) (by rw [List.length_set]; exact hd) (by omega) (fun i hi hdi => ?_) he
            · obtain ⟨r1, r2, r3⟩ := ih
              refine ⟨r1, fun j hj => ?_, r3⟩
              rw [r2 j (by rw [q2 j hj]; exact hj), q2 j hj]
            · rw [getD_set_bool d k i true (by omega)] at hdi
              by_cases eik : i = k
              · subst eik
                refine ⟨by rw [q2 i hk0]; exact hk0, ?_⟩
                unfold okAt
                rw [hop]
                dsimp only
                rw [hm, q2 i hk0, q1]
                exact ⟨by dsimp only; omega, fun ho => by dsimp only; omega, q3⟩
              · rw [if_neg eik] at hdi
                obtain ⟨s1, s2⟩ := hI i hi hdi
                refine ⟨by rw [q2 i s1]; exact s1, okAt_up q1 s1 q2 ?_ s2⟩
                exact (mv_bd hh f _ _ (hr i hi)).2.2.1
          · rw [if_neg c3] at he
            exact absurd he c3
/-- what Heights hands back of a sound function -/
theorem hP_sound {c : Cd} (hf : formB c = true) {f : Fn} (hm : f ∈ c.funcs) (h0 : (hP c f).2.2 = 0) :
    (hP c f).1.length = f.code.length ∧ (hP c f).1.getD 0 (-1) = 0 ∧ ∀ i, i < f.code.length → 0 ≤ (hP c f).1.getD i (-1) → okAt c f (hP c f).1 i := by
  obtain ⟨h1, _⟩ := formed_parts hf
  obtain ⟨_, _, _, _, _, l1, l2⟩ := fn1_parts (head_fn h1 hm)
  have hg : ∀ j, ((List.replicate f.code.length (-1 : Int)).set 0 0).getD j (-1) = if j = 0 then 0 else (List.replicate f.code.length (-1 : Int)).getD j (-1) := fun j => getD_set_int _ 0 j 0 (by simp; omega)
  have key := hts_sound h1 (fun k hk => formed_right hf hm hk) (f.code.length + 1) ((List.replicate f.code.length (-1)).set 0 0) (List.replicate f.code.length false) (by simp) (by simp)
    (by have := cntF_le (List.replicate f.code.length false); simp at this; omega) (fun i hi hd => by simp [hi] at hd) h0
  obtain ⟨r1, r2, r3⟩ := key
  refine ⟨r1, ?_, r3⟩
  have := r2 0 (by rw [hg, if_pos rfl]; exact Int.le_refl _)
  rw [hg, if_pos rfl] at this
  exact this
theorem ckF_zero {c : Cd} : ∀ (n i : Nat), (ckF c n i).2.2 = 0 → ∀ j, i ≤ j → j < i + n → (hP c (c.funcs.getD j default)).2.2 = 0
  | 0, i, _, j, h1, h2 => by omega
  | n + 1, i, h, j, h1, h2 => by
    unfold ckF at h
    by_cases hb : (hP c (c.funcs.getD i default)).2.2 = 0
    · rw [if_pos hb] at h
      by_cases e : j = i
      · subst e; exact hb
      · exact ckF_zero n (i + 1) h j (by omega) (by omega)
    · rw [if_neg hb] at h; exact absurd h hb
theorem ckP_zero {c : Cd} (h : (ckP c).2.2 = 0) : formB c = true ∧ ∀ j, j < c.funcs.length → (hP c (c.funcs.getD j default)).2.2 = 0 := by
  unfold ckP at h
  by_cases h1 : headB c = false
  · rw [if_pos h1] at h; simp at h
  · rw [if_neg h1] at h
    by_cases h2 : (wrP c).2.2 = true
    · rw [if_pos h2] at h; simp at h
    · rw [if_neg h2] at h
      refine ⟨?_, fun j hj => ckF_zero _ _ h j (by omega) (by omega)⟩
      unfold formB
      simp only [Bool.not_eq_false] at h1
      simp only [Bool.not_eq_true] at h2
      rw [h1, h2]; rfl

end Go.Proofs.YtlbnilhbfiidmaaDoor
