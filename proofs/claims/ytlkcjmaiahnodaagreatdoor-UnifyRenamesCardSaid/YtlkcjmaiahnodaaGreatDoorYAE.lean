/- The texts UD UE UF UM UP VX BN, one behind the other. -/
import Derived.Test.YtlkcjmaiahnodaaGreatDoorYAD
import Derived.Test.YtlkcjmaiahnodaaGreatDoorYAA
import Derived.Test.YtlkcjmaiahnodaaGreatDoorYAC
import Derived.Maps.RangeRun
/- Classes of nodes that become the same term: pure. -/
namespace Go.Hw
open Tm
set_option linter.unusedVariables false
set_option linter.unusedSimpArgs false
/-- a node: a variable by its name, an operation by its place -/
inductive Nod where
  | v (n : By)
  | o (p : Nat × Nat)
  deriving DecidableEq
def srt (X : List Vd) (n : By) : By := (fget X n).getD nul
theorem srt_of {X : List Vd} (hX : Cons X) {n s : By} (h : (n, s) ∈ X) : srt X n = s := by
  unfold srt
  cases hg : fget X n with
  | none => exact absurd rfl (fget_none hg _ h)
  | some r => exact hX _ (fget_some hg) _ h rfl
/-- the terms at their places -/
structure Gr (X : List Vd) (tm : Nat × Nat → Tm) (kid : Nat × Nat → Nat → Nat × Nat) (Ok : Nat × Nat → Prop) : Prop where
  kidOk : ∀ p i, Ok p → i < (tm p).kids.length → Ok (kid p i)
  kidTm : ∀ p i, Ok p → i < (tm p).kids.length → tm (kid p i) = tg (tm p).kids i
  nop : ∀ p, Ok p → NoP (tm p)
  vX : ∀ p, Ok p → ∀ f ∈ vof (tm p), f ∈ X
  cons : Cons X
  ne : ∀ f ∈ X, f.1 ≠ nul ∧ f.2 ≠ nul
section
variable {X : List Vd} {tm : Nat × Nat → Tm} {kid : Nat × Nat → Nat → Nat × Nat} {Ok : Nat × Nat → Prop}
def nod (tm : Nat × Nat → Tm) (p : Nat × Nat) : Nod := if (tm p).sort = nul then .o p else .v (tm p).name
def val (X : List Vd) (tm : Nat × Nat → Tm) (σ : Su) : Nod → Tm
  | .v n => σ n (srt X n)
  | .o p => sbT σ (tm p)
theorem val_nod (G : Gr X tm kid Ok) (σ : Su) {p : Nat × Nat} (h : Ok p) : val X tm σ (nod tm p) = sbT σ (tm p) := by
  unfold nod
  by_cases hs : (tm p).sort = nul
  · rw [if_pos hs]; rfl
  · rw [if_neg hs]
    show σ _ (srt X _) = _
    have hv := G.vX p h
    cases hp : tm p with
    | mk n s L =>
      rw [hp] at hs hv
      simp only [Tm.name, Tm.sort] at hs ⊢
      rw [sbT_var σ hs, srt_of G.cons (hv _ (vof_self hs L))]
/-- a node of the problem -/
def GoodU (X : List Vd) (tm : Nat × Nat → Tm) (Ok : Nat × Nat → Prop) : Nod → Prop
  | .v n => (n, srt X n) ∈ X
  | .o p => Ok p ∧ (tm p).sort = nul
theorem good_nod (G : Gr X tm kid Ok) {p : Nat × Nat} (h : Ok p) : GoodU X tm Ok (nod tm p) := by
  unfold nod
  by_cases hs : (tm p).sort = nul
  · rw [if_pos hs]; exact ⟨h, hs⟩
  · rw [if_neg hs]
    show (_, srt X _) ∈ X
    have hv := G.vX p h
    cases hp : tm p with
    | mk n s L =>
      rw [hp] at hs hv
      have h1 := hv _ (vof_self hs L)
      show (n, srt X n) ∈ X
      rw [srt_of G.cons h1]
      exact h1
theorem good_v (G : Gr X tm kid Ok) {f : Vd} (h : f ∈ X) : GoodU X tm Ok (.v f.1) := by
  show (f.1, srt X f.1) ∈ X
  rw [srt_of G.cons (s := f.2) h]
  exact h
/-- the classes: a representative, an operation, the least variable, whether sorts differ -/
structure Uf where
  ρ : Nod → Nod
  T : Nod → Option (Nat × Nat)
  V : Nod → Vd
  M : Nod → Bool
structure Wf (X : List Vd) (tm : Nat × Nat → Tm) (Ok : Nat × Nat → Prop) (U : Uf) : Prop where
  idem : ∀ n, U.ρ (U.ρ n) = U.ρ n
  rT : ∀ n m, U.ρ n = U.ρ m → U.T n = U.T m
  rV : ∀ n m, U.ρ n = U.ρ m → U.V n = U.V m
  rM : ∀ n m, U.ρ n = U.ρ m → U.M n = U.M m
  good : ∀ n m, U.ρ n = U.ρ m → n ≠ m → GoodU X tm Ok n
  Tok : ∀ n p, GoodU X tm Ok n → U.T n = some p → GoodU X tm Ok (.o p) ∧ U.ρ (.o p) = U.ρ n
  Tno : ∀ p, GoodU X tm Ok (.o p) → U.T (.o p) ≠ none
  Vsome : ∀ n, GoodU X tm Ok n → (U.V n).1 ≠ nul → U.V n ∈ X ∧ U.ρ (.v (U.V n).1) = U.ρ n
  Vz : ∀ n, GoodU X tm Ok n → (U.V n).1 = nul → (U.V n).2 = nul
  Vmin : ∀ f ∈ X, (U.V (.v f.1)).1 ≠ nul ∧ blt f.1 (U.V (.v f.1)).1 = false
  Mf : ∀ f ∈ X, U.M (.v f.1) = false → f.2 = (U.V (.v f.1)).2
  Mt : ∀ n, GoodU X tm Ok n → U.M n = true → ∃ f ∈ X, ∃ g ∈ X, U.ρ (.v f.1) = U.ρ n ∧ U.ρ (.v g.1) = U.ρ n ∧ f.2 ≠ g.2
def uf0 (X : List Vd) : Uf := ⟨fun n => n, fun n => match n with | .v _ => none | .o p => some p, fun n => match n with | .v x => (x, srt X x) | .o _ => (nul, nul), fun _ => false⟩
theorem wf0 (G : Gr X tm kid Ok) : Wf X tm Ok (uf0 X) := by
  refine ⟨fun _ => rfl, fun n m h => by rw [show n = m from h], fun n m h => by rw [show n = m from h], fun n m h => rfl, fun n m h hne => absurd h hne, fun n p hg h => ?_, fun p _ h => (by cases h), fun n hg h => ?_, fun n hg h => ?_, fun f hf => ?_, fun f hf _ => ?_, fun n _ h => (by cases h)⟩
  · cases n with
    | v x => cases h
    | o q =>
      injection h with h
      subst h
      exact ⟨hg, rfl⟩
  · cases n with
    | v x => exact ⟨hg, rfl⟩
    | o q => exact absurd rfl h
  · cases n with
    | v x => exact absurd h (G.ne _ hg).1
    | o q => rfl
  · exact ⟨(G.ne f hf).1, blt_irrefl _⟩
  · exact (srt_of G.cons (s := f.2) hf).symm
/-- two classes made one -/
def mrg (U : Uf) (a b : Nod) : Uf where
  ρ n := if U.ρ n = U.ρ b then U.ρ a else U.ρ n
  T n := if U.ρ n = U.ρ a ∨ U.ρ n = U.ρ b then (match U.T a with | none => U.T b | some x => some x) else U.T n
  V n := if U.ρ n = U.ρ a ∨ U.ρ n = U.ρ b then (if (U.V a).1 = nul ∨ ((U.V b).1 ≠ nul ∧ blt (U.V b).1 (U.V a).1 = true) then U.V b else U.V a) else U.V n
  M n := if U.ρ n = U.ρ a ∨ U.ρ n = U.ρ b then (U.M a || U.M b || decide ((U.V a).2 ≠ nul ∧ (U.V b).2 ≠ nul ∧ (U.V a).2 ≠ (U.V b).2)) else U.M n
theorem mrg_eq (U : Uf) (a b n m : Nod) : (mrg U a b).ρ n = (mrg U a b).ρ m ↔ U.ρ n = U.ρ m ∨ ((U.ρ n = U.ρ a ∨ U.ρ n = U.ρ b) ∧ (U.ρ m = U.ρ a ∨ U.ρ m = U.ρ b)) := by
  show (if U.ρ n = U.ρ b then U.ρ a else U.ρ n) = (if U.ρ m = U.ρ b then U.ρ a else U.ρ m) ↔ _
  by_cases h1 : U.ρ n = U.ρ b
  · rw [if_pos h1]
    by_cases h2 : U.ρ m = U.ρ b
    · rw [if_pos h2]
      exact ⟨fun _ => .inl (h1.trans h2.symm), fun _ => rfl⟩
    · rw [if_neg h2]
      constructor
      · intro h
        exact .inr ⟨.inr h1, .inl h.symm⟩
      · rintro (h | ⟨_, h | h⟩)
        · exact absurd (h.symm.trans h1) h2
        · exact h.symm
        · exact absurd h h2
  · rw [if_neg h1]
    by_cases h2 : U.ρ m = U.ρ b
    · rw [if_pos h2]
      constructor
      · intro h
        exact .inr ⟨.inl h, .inr h2⟩
      · rintro (h | ⟨h | h, _⟩)
        · exact absurd (h.trans h2) h1
        · exact h
        · exact absurd h h1
    · rw [if_neg h2]
      constructor
      · exact .inl
      · rintro (h | ⟨h, h'⟩)
        · exact h
        · rcases h with h | h
          · rcases h' with h' | h'
            · exact h.trans h'.symm
            · exact absurd h' h2
          · exact absurd h h1
theorem mrg_wf (G : Gr X tm kid Ok) {U : Uf} (W : Wf X tm Ok U) {a b : Nod} (ha : GoodU X tm Ok a) (hb : GoodU X tm Ok b) : Wf X tm Ok (mrg U a b) := by
  have inC : ∀ n m, (mrg U a b).ρ n = (mrg U a b).ρ m → ((U.ρ n = U.ρ a ∨ U.ρ n = U.ρ b) ↔ (U.ρ m = U.ρ a ∨ U.ρ m = U.ρ b)) := fun n m h => by
    rcases (mrg_eq U a b n m).1 h with h | ⟨h1, h2⟩
    · rw [h]
    · exact ⟨fun _ => h2, fun _ => h1⟩
  have out : ∀ n m, (mrg U a b).ρ n = (mrg U a b).ρ m → ¬ (U.ρ n = U.ρ a ∨ U.ρ n = U.ρ b) → U.ρ n = U.ρ m := fun n m h hn => by
    rcases (mrg_eq U a b n m).1 h with h | ⟨h1, _⟩
    · exact h
    · exact absurd h1 hn
  have eqa : ∀ n, (U.ρ n = U.ρ a ∨ U.ρ n = U.ρ b) → (mrg U a b).ρ n = (mrg U a b).ρ a := fun n h => (mrg_eq U a b n a).2 (.inr ⟨h, .inl rfl⟩)
  have up : ∀ n m, U.ρ n = U.ρ m → (mrg U a b).ρ n = (mrg U a b).ρ m := fun n m h => (mrg_eq U a b n m).2 (.inl h)
  refine ⟨fun n => ?_, fun n m h => ?_, fun n m h => ?_, fun n m h => ?_, fun n m h hne => ?_, fun n p hg h => ?_, fun p hg h => ?_, fun n hg h => ?_, fun n hg h => ?_, fun f hf => ?_, fun f hf h => ?_, fun n hg h => ?_⟩
  · refine (mrg_eq U a b _ n).2 ?_
    show U.ρ (if U.ρ n = U.ρ b then U.ρ a else U.ρ n) = _ ∨ _
    by_cases h : U.ρ n = U.ρ b
    · right
      show (U.ρ (if U.ρ n = U.ρ b then U.ρ a else U.ρ n) = _ ∨ _) ∧ _
      rw [if_pos h]
      exact ⟨.inl (W.idem a), .inr h⟩
    · left
      rw [if_neg h]
      exact W.idem n
  · show (if _ then _ else _) = (if _ then _ else _)
    by_cases hn : U.ρ n = U.ρ a ∨ U.ρ n = U.ρ b
    · rw [if_pos hn, if_pos ((inC n m h).1 hn)]
    · rw [if_neg hn, if_neg (fun e => hn ((inC n m h).2 e))]
      exact W.rT n m (out n m h hn)
  · show (if _ then _ else _) = (if _ then _ else _)
    by_cases hn : U.ρ n = U.ρ a ∨ U.ρ n = U.ρ b
    · rw [if_pos hn, if_pos ((inC n m h).1 hn)]
    · rw [if_neg hn, if_neg (fun e => hn ((inC n m h).2 e))]
      exact W.rV n m (out n m h hn)
  · show (if _ then _ else _) = (if _ then _ else _)
    by_cases hn : U.ρ n = U.ρ a ∨ U.ρ n = U.ρ b
    · rw [if_pos hn, if_pos ((inC n m h).1 hn)]
    · rw [if_neg hn, if_neg (fun e => hn ((inC n m h).2 e))]
      exact W.rM n m (out n m h hn)
  · by_cases hn : U.ρ n = U.ρ a ∨ U.ρ n = U.ρ b
    · rcases hn with hn | hn
      · by_cases e : n = a
        · rw [e]; exact ha
        · exact W.good n a hn e
      · by_cases e : n = b
        · rw [e]; exact hb
        · exact W.good n b hn e
    · exact W.good n m (out n m h hn) hne
  · have h : (if U.ρ n = U.ρ a ∨ U.ρ n = U.ρ b then (match U.T a with | none => U.T b | some x => some x) else U.T n) = some p := h
    by_cases hn : U.ρ n = U.ρ a ∨ U.ρ n = U.ρ b
    · rw [if_pos hn] at h
      cases hT : U.T a with
      | none =>
        rw [hT] at h
        obtain ⟨h1, h2⟩ := W.Tok b p hb h
        exact ⟨h1, (mrg_eq U a b _ n).2 (.inr ⟨.inr h2, hn⟩)⟩
      | some x =>
        rw [hT] at h
        injection h with h
        subst h
        obtain ⟨h1, h2⟩ := W.Tok a x ha hT
        exact ⟨h1, (mrg_eq U a b _ n).2 (.inr ⟨.inl h2, hn⟩)⟩
    · rw [if_neg hn] at h
      obtain ⟨h1, h2⟩ := W.Tok n p hg h
      exact ⟨h1, up _ _ h2⟩
  · have h : (if U.ρ (.o p) = U.ρ a ∨ U.ρ (.o p) = U.ρ b then (match U.T a with | none => U.T b | some x => some x) else U.T (.o p)) = none := h
    by_cases hn : U.ρ (.o p) = U.ρ a ∨ U.ρ (.o p) = U.ρ b
    · rw [if_pos hn] at h
      cases hT : U.T a with
      | some x => rw [hT] at h; cases h
      | none =>
        rw [hT] at h
        rcases hn with hn | hn
        · exact W.Tno p hg (by rw [W.rT _ _ hn, hT])
        · exact W.Tno p hg (by rw [W.rT _ _ hn]; exact h)
    · rw [if_neg hn] at h
      exact W.Tno p hg h
  · have hd : (mrg U a b).V n = (if U.ρ n = U.ρ a ∨ U.ρ n = U.ρ b then (if (U.V a).1 = nul ∨ ((U.V b).1 ≠ nul ∧ blt (U.V b).1 (U.V a).1 = true) then U.V b else U.V a) else U.V n) := rfl
    rw [hd] at h ⊢
    by_cases hn : U.ρ n = U.ρ a ∨ U.ρ n = U.ρ b
    · rw [if_pos hn] at h ⊢
      by_cases hc : (U.V a).1 = nul ∨ ((U.V b).1 ≠ nul ∧ blt (U.V b).1 (U.V a).1 = true)
      · rw [if_pos hc] at h ⊢
        obtain ⟨h1, h2⟩ := W.Vsome b hb h
        exact ⟨h1, (mrg_eq U a b _ n).2 (.inr ⟨.inr h2, hn⟩)⟩
      · rw [if_neg hc] at h ⊢
        obtain ⟨h1, h2⟩ := W.Vsome a ha h
        exact ⟨h1, (mrg_eq U a b _ n).2 (.inr ⟨.inl h2, hn⟩)⟩
    · rw [if_neg hn] at h ⊢
      obtain ⟨h1, h2⟩ := W.Vsome n hg h
      exact ⟨h1, up _ _ h2⟩
  · have hd : (mrg U a b).V n = (if U.ρ n = U.ρ a ∨ U.ρ n = U.ρ b then (if (U.V a).1 = nul ∨ ((U.V b).1 ≠ nul ∧ blt (U.V b).1 (U.V a).1 = true) then U.V b else U.V a) else U.V n) := rfl
    rw [hd] at h ⊢
    by_cases hn : U.ρ n = U.ρ a ∨ U.ρ n = U.ρ b
    · rw [if_pos hn] at h ⊢
      by_cases hc : (U.V a).1 = nul ∨ ((U.V b).1 ≠ nul ∧ blt (U.V b).1 (U.V a).1 = true)
      · rw [if_pos hc] at h ⊢
        exact W.Vz b hb h
      · rw [if_neg hc] at h ⊢
        exact W.Vz a ha h
    · rw [if_neg hn] at h ⊢
      exact W.Vz n hg h
  · have hd : (mrg U a b).V (.v f.1) = (if U.ρ (.v f.1) = U.ρ a ∨ U.ρ (.v f.1) = U.ρ b then (if (U.V a).1 = nul ∨ ((U.V b).1 ≠ nul ∧ blt (U.V b).1 (U.V a).1 = true) then U.V b else U.V a) else U.V (.v f.1)) := rfl
    rw [hd]
    obtain ⟨m1, m2⟩ := W.Vmin f hf
    by_cases hn : U.ρ (.v f.1) = U.ρ a ∨ U.ρ (.v f.1) = U.ρ b
    · rw [if_pos hn]
      by_cases hc : (U.V a).1 = nul ∨ ((U.V b).1 ≠ nul ∧ blt (U.V b).1 (U.V a).1 = true)
      · rw [if_pos hc]
        rcases hn with hn | hn
        · rw [W.rV _ _ hn] at m1 m2
          rcases hc with hc | ⟨hc1, hc2⟩
          · exact absurd hc m1
          · refine ⟨hc1, ?_⟩
            cases hx : blt f.1 (U.V b).1 with
            | false => rfl
            | true =>
              have := blt_trans hx hc2
              rw [m2] at this; cases this
        · rw [W.rV _ _ hn] at m1 m2
          exact ⟨m1, m2⟩
      · rw [if_neg hc]
        have hc1 : (U.V a).1 ≠ nul := fun e => hc (.inl e)
        refine ⟨hc1, ?_⟩
        rcases hn with hn | hn
        · rw [W.rV _ _ hn] at m2
          exact m2
        · rw [W.rV _ _ hn] at m1 m2
          have hc2 : blt (U.V b).1 (U.V a).1 = false := Bool.eq_false_iff.2 (fun e => hc (.inr ⟨m1, e⟩))
          cases hx : blt f.1 (U.V a).1 with
          | false => rfl
          | true =>
            by_cases e : (U.V a).1 = (U.V b).1
            · rw [e, m2] at hx; cases hx
            · rcases blt_tri _ _ e with h | h
              · have := blt_trans hx h
                rw [m2] at this; cases this
              · rw [hc2] at h; cases h
    · rw [if_neg hn]
      exact ⟨m1, m2⟩
  · have hd : (mrg U a b).V (.v f.1) = (if U.ρ (.v f.1) = U.ρ a ∨ U.ρ (.v f.1) = U.ρ b then (if (U.V a).1 = nul ∨ ((U.V b).1 ≠ nul ∧ blt (U.V b).1 (U.V a).1 = true) then U.V b else U.V a) else U.V (.v f.1)) := rfl
    have h : (if U.ρ (.v f.1) = U.ρ a ∨ U.ρ (.v f.1) = U.ρ b then (U.M a || U.M b || decide ((U.V a).2 ≠ nul ∧ (U.V b).2 ≠ nul ∧ (U.V a).2 ≠ (U.V b).2)) else U.M (.v f.1)) = false := h
    rw [hd]
    obtain ⟨m1, m2⟩ := W.Vmin f hf
    by_cases hn : U.ρ (.v f.1) = U.ρ a ∨ U.ρ (.v f.1) = U.ρ b
    · rw [if_pos hn] at h ⊢
      rw [Bool.or_eq_false_iff, Bool.or_eq_false_iff, decide_eq_false_iff_not] at h
      obtain ⟨⟨h1, h2⟩, h3⟩ := h
      have hfn := (G.ne f hf).2
      by_cases hc : (U.V a).1 = nul ∨ ((U.V b).1 ≠ nul ∧ blt (U.V b).1 (U.V a).1 = true)
      · rw [if_pos hc]
        rcases hn with hn | hn
        · have e := W.Mf f hf (by rw [W.rM _ _ hn]; exact h1)
          rw [W.rV _ _ hn] at e m1
          rcases hc with hc | ⟨hc1, hc2⟩
          · exact absurd hc m1
          · obtain ⟨x1, x2⟩ := W.Vsome b hb hc1
            have hvb := (G.ne _ x1).2
            rw [e]
            by_cases e2 : (U.V a).2 = (U.V b).2
            · exact e2
            · exact absurd ⟨by rw [← e]; exact hfn, hvb, e2⟩ h3
        · have e := W.Mf f hf (by rw [W.rM _ _ hn]; exact h2)
          rw [W.rV _ _ hn] at e
          exact e
      · rw [if_neg hc]
        rcases hn with hn | hn
        · have e := W.Mf f hf (by rw [W.rM _ _ hn]; exact h1)
          rw [W.rV _ _ hn] at e
          exact e
        · have e := W.Mf f hf (by rw [W.rM _ _ hn]; exact h2)
          rw [W.rV _ _ hn] at e
          have hc1 : (U.V a).1 ≠ nul := fun e => hc (.inl e)
          obtain ⟨x1, x2⟩ := W.Vsome a ha hc1
          have hva := (G.ne _ x1).2
          rw [e]
          by_cases e2 : (U.V a).2 = (U.V b).2
          · exact e2.symm
          · exact absurd ⟨hva, by rw [← e]; exact hfn, e2⟩ h3
    · rw [if_neg hn] at h ⊢
      exact W.Mf f hf h
  · have h : (if U.ρ n = U.ρ a ∨ U.ρ n = U.ρ b then (U.M a || U.M b || decide ((U.V a).2 ≠ nul ∧ (U.V b).2 ≠ nul ∧ (U.V a).2 ≠ (U.V b).2)) else U.M n) = true := h
    by_cases hn : U.ρ n = U.ρ a ∨ U.ρ n = U.ρ b
    · rw [if_pos hn, Bool.or_eq_true, Bool.or_eq_true, decide_eq_true_eq] at h
      have to : ∀ m, (U.ρ m = U.ρ a ∨ U.ρ m = U.ρ b) → (mrg U a b).ρ m = (mrg U a b).ρ n := fun m hm => (mrg_eq U a b m n).2 (.inr ⟨hm, hn⟩)
      rcases h with (h | h) | ⟨h1, h2, h3⟩
      · obtain ⟨f, hf, g, hg', e1, e2, e3⟩ := W.Mt a ha h
        exact ⟨f, hf, g, hg', to _ (.inl e1), to _ (.inl e2), e3⟩
      · obtain ⟨f, hf, g, hg', e1, e2, e3⟩ := W.Mt b hb h
        exact ⟨f, hf, g, hg', to _ (.inr e1), to _ (.inr e2), e3⟩
      · obtain ⟨x1, x2⟩ := W.Vsome a ha (fun e => h1 (W.Vz a ha e))
        obtain ⟨y1, y2⟩ := W.Vsome b hb (fun e => h2 (W.Vz b hb e))
        exact ⟨_, x1, _, y1, to _ (.inl x2), to _ (.inr y2), h3⟩
    · rw [if_neg hn] at h
      obtain ⟨f, hf, g, hg', e1, e2, e3⟩ := W.Mt n hg h
      exact ⟨f, hf, g, hg', up _ _ e1, up _ _ e2, e3⟩
end
end Go.Hw

/- Classes of nodes and solutions: pure. -/
namespace Go.Hw
open Tm
set_option linter.unusedVariables false
set_option linter.unusedSimpArgs false
section
variable {X : List Vd} {tm : Nat × Nat → Tm} {kid : Nat × Nat → Nat → Nat × Nat} {Ok : Nat × Nat → Prop}
def Snd (X : List Vd) (tm : Nat × Nat → Tm) (U : Uf) (σ : Su) : Prop := ∀ n m, U.ρ n = U.ρ m → val X tm σ n = val X tm σ m
theorem snd0 (σ : Su) : Snd X tm (uf0 X) σ := fun n m h => by rw [show n = m from h]
theorem snd_mrg {U : Uf} {a b : Nod} {σ : Su} : Snd X tm (mrg U a b) σ ↔ Snd X tm U σ ∧ val X tm σ a = val X tm σ b := by
  constructor
  · intro h
    exact ⟨fun n m e => h n m ((mrg_eq U a b n m).2 (.inl e)), h a b ((mrg_eq U a b a b).2 (.inr ⟨.inl rfl, .inr rfl⟩))⟩
  · rintro ⟨h, hab⟩ n m e
    rcases (mrg_eq U a b n m).1 e with e | ⟨e1, e2⟩
    · exact h n m e
    · have h1 : ∀ k, (U.ρ k = U.ρ a ∨ U.ρ k = U.ρ b) → val X tm σ k = val X tm σ a := fun k hk => by
        rcases hk with hk | hk
        · exact h k a hk
        · rw [h k b hk, hab]
      rw [h1 n e1, h1 m e2]
/-- what two operations that become the same say of their parts -/
theorem dec_val (G : Gr X tm kid Ok) {σ : Su} {x y : Nat × Nat} (hx : GoodU X tm Ok (.o x)) (hy : GoodU X tm Ok (.o y)) (h : val X tm σ (.o x) = val X tm σ (.o y)) :
    (tm x).name = (tm y).name ∧ (tm x).kids.length = (tm y).kids.length ∧ ∀ i, i < (tm x).kids.length → val X tm σ (nod tm (kid x i)) = val X tm σ (nod tm (kid y i)) := by
  have h2 : sbT σ (tm x) = sbT σ (tm y) := h
  rw [sbT_op σ hx.2, sbT_op σ hy.2] at h2
  injection h2 with e1 _ e3
  have hl : (tm x).kids.length = (tm y).kids.length := by
    have := congrArg List.length e3
    simpa using this
  refine ⟨e1, hl, fun i hi => ?_⟩
  have hi2 : i < (tm y).kids.length := by omega
  rw [val_nod G σ (G.kidOk x i hx.1 hi), val_nod G σ (G.kidOk y i hy.1 hi2), G.kidTm x i hx.1 hi, G.kidTm y i hy.1 hi2]
  have h4 : ((tm x).kids.map (sbT σ))[i]? = ((tm y).kids.map (sbT σ))[i]? := by rw [e3]
  rw [List.getElem?_map, List.getElem?_map, List.getElem?_eq_getElem hi, List.getElem?_eq_getElem hi2] at h4
  injection h4 with h4
  unfold tg
  rw [List.getD_eq_getElem?_getD, List.getD_eq_getElem?_getD, List.getElem?_eq_getElem hi, List.getElem?_eq_getElem hi2]
  exact h4
theorem val_of_kids (G : Gr X tm kid Ok) {σ : Su} {x y : Nat × Nat} (hx : GoodU X tm Ok (.o x)) (hy : GoodU X tm Ok (.o y)) (h1 : (tm x).name = (tm y).name) (h2 : (tm x).kids.length = (tm y).kids.length) (h3 : ∀ i, i < (tm x).kids.length → val X tm σ (nod tm (kid x i)) = val X tm σ (nod tm (kid y i))) : val X tm σ (.o x) = val X tm σ (.o y) := by
  show sbT σ (tm x) = sbT σ (tm y)
  rw [sbT_op σ hx.2, sbT_op σ hy.2, h1]
  congr 1
  refine List.ext_getElem (by simpa using h2) (fun i hi _ => ?_)
  have hi1 : i < (tm x).kids.length := by simpa using hi
  have hi2 : i < (tm y).kids.length := by omega
  have h := h3 i hi1
  rw [val_nod G σ (G.kidOk x i hx.1 hi1), val_nod G σ (G.kidOk y i hy.1 hi2), G.kidTm x i hx.1 hi1, G.kidTm y i hy.1 hi2] at h
  unfold tg at h
  rw [List.getD_eq_getElem?_getD, List.getD_eq_getElem?_getD, List.getElem?_eq_getElem hi1, List.getElem?_eq_getElem hi2] at h
  simpa using h
/-- the classes, with some pairs of operations whose parts are still to become the same -/
def EP (tm : Nat × Nat → Tm) (kid : Nat × Nat → Nat → Nat × Nat) (U : Uf) (P : List ((Nat × Nat) × (Nat × Nat))) (n m : Nod) : Prop :=
  ∀ R : Nod → Nod → Prop, Equivalence R → (∀ n m, U.ρ n = U.ρ m → R n m) → (∀ q ∈ P, ∀ i, i < (tm q.1).kids.length → R (nod tm (kid q.1 i)) (nod tm (kid q.2 i))) → R n m
def Jc (X : List Vd) (tm : Nat × Nat → Tm) (kid : Nat × Nat → Nat → Nat × Nat) (Ok : Nat × Nat → Prop) (U : Uf) (P : List ((Nat × Nat) × (Nat × Nat))) : Prop :=
  ∀ p q, GoodU X tm Ok (.o p) → GoodU X tm Ok (.o q) → U.ρ (.o p) = U.ρ (.o q) → (tm p).name = (tm q).name ∧ (tm p).kids.length = (tm q).kids.length ∧ ∀ i, i < (tm p).kids.length → EP tm kid U P (nod tm (kid p i)) (nod tm (kid q i))
def Ule (U U' : Uf) : Prop := ∀ n m, U.ρ n = U.ρ m → U'.ρ n = U'.ρ m
theorem Ule.refl (U : Uf) : Ule U U := fun _ _ h => h
theorem Ule.trans {U V W : Uf} (h : Ule U V) (k : Ule V W) : Ule U W := fun n m e => k n m (h n m e)
theorem ule_mrg (U : Uf) (a b : Nod) : Ule U (mrg U a b) := fun n m e => (mrg_eq U a b n m).2 (.inl e)
theorem Snd.of_le {U U' : Uf} {σ : Su} (h : Ule U U') (k : Snd X tm U' σ) : Snd X tm U σ := fun n m e => k n m (h n m e)
theorem EP.up {U U' : Uf} {P P' : List ((Nat × Nat) × (Nat × Nat))} {n m : Nod} (h : EP tm kid U P n m) (hu : Ule U U') (hp : ∀ q ∈ P, q ∈ P') : EP tm kid U' P' n m :=
  fun R hR h1 h2 => h R hR (fun n m e => h1 n m (hu n m e)) (fun q hq => h2 q (hp q hq))
theorem EP.trans {U : Uf} {P : List ((Nat × Nat) × (Nat × Nat))} {n m k : Nod} (h : EP tm kid U P n m) (h' : EP tm kid U P m k) : EP tm kid U P n k := fun R hR h1 h2 => hR.trans (h R hR h1 h2) (h' R hR h1 h2)
theorem EP.symm {U : Uf} {P : List ((Nat × Nat) × (Nat × Nat))} {n m : Nod} (h : EP tm kid U P n m) : EP tm kid U P m n := fun R hR h1 h2 => hR.symm (h R hR h1 h2)
theorem EP.rfl' {U : Uf} {P : List ((Nat × Nat) × (Nat × Nat))} {n : Nod} : EP tm kid U P n n := fun R hR _ _ => hR.refl n
theorem jc0 : Jc X tm kid Ok (uf0 X) [] := fun p q _ _ h => by
  injection (show Nod.o p = Nod.o q from h) with h
  subst h
  exact ⟨rfl, rfl, fun i _ => EP.rfl'⟩
theorem Jc.nil {U : Uf} (h : Jc X tm kid Ok U []) {p q : Nat × Nat} (hp : GoodU X tm Ok (.o p)) (hq : GoodU X tm Ok (.o q)) (e : U.ρ (.o p) = U.ρ (.o q)) :
    (tm p).name = (tm q).name ∧ (tm p).kids.length = (tm q).kids.length ∧ ∀ i, i < (tm p).kids.length → U.ρ (nod tm (kid p i)) = U.ρ (nod tm (kid q i)) := by
  obtain ⟨h1, h2, h3⟩ := h p q hp hq e
  exact ⟨h1, h2, fun i hi => h3 i hi (fun n m => U.ρ n = U.ρ m) ⟨fun _ => rfl, fun h => h.symm, fun h k => h.trans k⟩ (fun _ _ h => h) (fun q hq => by cases hq)⟩
theorem Jc.done {U : Uf} {P : List ((Nat × Nat) × (Nat × Nat))} {x y : Nat × Nat} (h : Jc X tm kid Ok U ((x, y) :: P)) (hk : ∀ i, i < (tm x).kids.length → U.ρ (nod tm (kid x i)) = U.ρ (nod tm (kid y i))) : Jc X tm kid Ok U P := fun p q hp hq e => by
  obtain ⟨h1, h2, h3⟩ := h p q hp hq e
  refine ⟨h1, h2, fun i hi R hR r1 r2 => h3 i hi R hR r1 (fun z hz j hj => ?_)⟩
  rcases List.mem_cons.1 hz with e | hz
  · subst e
    exact r1 _ _ (hk j hj)
  · exact r2 z hz j hj
theorem Jc.mrg1 {U : Uf} (W : Wf X tm Ok U) {P : List ((Nat × Nat) × (Nat × Nat))} (h : Jc X tm kid Ok U P) {a b : Nod} (hT : U.T a = none ∨ U.T b = none) : Jc X tm kid Ok (mrg U a b) P := fun p q hp hq e => by
  have key : U.ρ (.o p) = U.ρ (.o q) := by
    rcases (mrg_eq U a b _ _).1 e with e | ⟨e1, e2⟩
    · exact e
    · have n1 : ∀ r, GoodU X tm Ok (.o r) → ∀ c, U.T c = none → U.ρ (.o r) ≠ U.ρ c := fun r hr c hc e => W.Tno r hr (by rw [W.rT _ _ e, hc])
      rcases hT with hT | hT
      · rcases e1 with e1 | e1
        · exact absurd e1 (n1 p hp a hT)
        · rcases e2 with e2 | e2
          · exact absurd e2 (n1 q hq a hT)
          · exact e1.trans e2.symm
      · rcases e1 with e1 | e1
        · rcases e2 with e2 | e2
          · exact e1.trans e2.symm
          · exact absurd e2 (n1 q hq b hT)
        · exact absurd e1 (n1 p hp b hT)
  obtain ⟨h1, h2, h3⟩ := h p q hp hq key
  exact ⟨h1, h2, fun i hi => (h3 i hi).up (ule_mrg U a b) (fun _ h => h)⟩
theorem Jc.mrg2 {U : Uf} (W : Wf X tm Ok U) {P : List ((Nat × Nat) × (Nat × Nat))} (h : Jc X tm kid Ok U P) {a b : Nod} (ha : GoodU X tm Ok a) (hb : GoodU X tm Ok b) {x y : Nat × Nat} (hx : U.T a = some x) (hy : U.T b = some y) (hn : (tm x).name = (tm y).name) (hl : (tm x).kids.length = (tm y).kids.length) : Jc X tm kid Ok (mrg U a b) ((x, y) :: P) := by
  obtain ⟨gx, rx⟩ := W.Tok a x ha hx
  obtain ⟨gy, ry⟩ := W.Tok b y hb hy
  have up : ∀ {n m}, EP tm kid U P n m → EP tm kid (mrg U a b) ((x, y) :: P) n m := fun h => h.up (ule_mrg U a b) (fun _ h => List.mem_cons_of_mem _ h)
  have cross : ∀ p q, GoodU X tm Ok (.o p) → GoodU X tm Ok (.o q) → U.ρ (.o p) = U.ρ a → U.ρ (.o q) = U.ρ b → (tm p).name = (tm q).name ∧ (tm p).kids.length = (tm q).kids.length ∧ ∀ i, i < (tm p).kids.length → EP tm kid (mrg U a b) ((x, y) :: P) (nod tm (kid p i)) (nod tm (kid q i)) := fun p q hp hq e1 e2 => by
    obtain ⟨a1, a2, a3⟩ := h p x hp gx (e1.trans rx.symm)
    obtain ⟨b1, b2, b3⟩ := h y q gy hq (ry.trans e2.symm)
    refine ⟨a1.trans (hn.trans b1), a2.trans (hl.trans b2), fun i hi => ?_⟩
    refine ((up (a3 i hi)).trans ?_).trans (up (b3 i (by omega)))
    intro R hR r1 r2
    exact r2 (x, y) (List.mem_cons_self ..) i (by show i < (tm x).kids.length; omega)
  intro p q hp hq e
  rcases (mrg_eq U a b _ _).1 e with e | ⟨e1, e2⟩
  · obtain ⟨h1, h2, h3⟩ := h p q hp hq e
    exact ⟨h1, h2, fun i hi => up (h3 i hi)⟩
  · rcases e1 with e1 | e1
    · rcases e2 with e2 | e2
      · obtain ⟨h1, h2, h3⟩ := h p q hp hq (e1.trans e2.symm)
        exact ⟨h1, h2, fun i hi => up (h3 i hi)⟩
      · exact cross p q hp hq e1 e2
    · rcases e2 with e2 | e2
      · obtain ⟨h1, h2, h3⟩ := cross q p hq hp e2 e1
        exact ⟨h1.symm, h2.symm, fun i hi => (h3 i (by omega)).symm⟩
      · obtain ⟨h1, h2, h3⟩ := h p q hp hq (e1.trans e2.symm)
        exact ⟨h1, h2, fun i hi => up (h3 i hi)⟩
/-- what a class becomes -/
inductive Fin' (tm : Nat × Nat → Tm) (kid : Nat × Nat → Nat → Nat × Nat) (U : Uf) : Nod → Tm → Prop where
  | v {n : Nod} : U.T n = none → Fin' tm kid U n (vr (U.V n).1 (U.V n).2)
  | o {n : Nod} {p : Nat × Nat} {ts : List Tm} : U.T n = some p → ts.length = (tm p).kids.length → (∀ i, i < (tm p).kids.length → Fin' tm kid U (nod tm (kid p i)) (tg ts i)) → Fin' tm kid U n (.mk (tm p).name nul ts)
theorem tg_ext {L M : List Tm} (hl : L.length = M.length) (h : ∀ i, i < L.length → tg L i = tg M i) : L = M := by
  refine List.ext_getElem hl (fun i h1 h2 => ?_)
  have := h i h1
  unfold tg at this
  rw [List.getD_eq_getElem?_getD, List.getD_eq_getElem?_getD, List.getElem?_eq_getElem h1, List.getElem?_eq_getElem h2] at this
  exact this
theorem Fin'.det {U : Uf} {n : Nod} {t : Tm} (h : Fin' tm kid U n t) : ∀ {u : Tm}, Fin' tm kid U n u → t = u := by
  induction h with
  | v h1 =>
    intro u hu
    cases hu with
    | v _ => rfl
    | o h2 _ _ => rw [h1] at h2; cases h2
  | @o n p ts h1 h2 h3 ih =>
    intro u hu
    cases hu with
    | v h4 => rw [h1] at h4; cases h4
    | @o _ q us h4 h5 h6 =>
      rw [h1] at h4
      injection h4 with h4
      subst h4
      rw [tg_ext (h2.trans h5.symm) (fun i hi => ih i (by omega) (h6 i (by omega)))]
theorem Fin'.rho {U : Uf} (W : Wf X tm Ok U) {n m : Nod} (e : U.ρ n = U.ρ m) {t : Tm} (h : Fin' tm kid U n t) : Fin' tm kid U m t := by
  cases h with
  | v h1 =>
    rw [W.rV _ _ e]
    exact .v (by rw [← W.rT _ _ e]; exact h1)
  | o h1 h2 h3 => exact .o (by rw [← W.rT _ _ e]; exact h1) h2 h3
theorem size_tg {L : List Tm} {i : Nat} (h : i < L.length) : (tg L i).size ≤ sizes L := size_mem (by unfold tg; rw [List.getD_eq_getElem?_getD, List.getElem?_eq_getElem h]; exact List.getElem_mem h)
theorem val_kid_lt (G : Gr X tm kid Ok) {U : Uf} (W : Wf X tm Ok U) {σ : Su} (hσ : Snd X tm U σ) {n : Nod} (hn : GoodU X tm Ok n) {p : Nat × Nat} (hp : U.T n = some p) {i : Nat} (hi : i < (tm p).kids.length) : (val X tm σ (nod tm (kid p i))).size < (val X tm σ n).size := by
  obtain ⟨gp, rp⟩ := W.Tok n p hn hp
  rw [← hσ _ _ rp, val_nod G σ (G.kidOk p i gp.1 hi), G.kidTm p i gp.1 hi]
  show _ < (sbT σ (tm p)).size
  rw [sbT_op σ gp.2]
  have : sbT σ (tg (tm p).kids i) ∈ (tm p).kids.map (sbT σ) := List.mem_map_of_mem (by unfold tg; rw [List.getD_eq_getElem?_getD, List.getElem?_eq_getElem hi]; exact List.getElem_mem hi)
  have h5 := size_mem this
  have h6 : (Tm.mk (tm p).name nul ((tm p).kids.map (sbT σ))).size = sizes ((tm p).kids.map (sbT σ)) + 1 := size_eq _
  omega
theorem choose_list {α : Type} [Inhabited α] (n : Nat) (R : Nat → α → Prop) (h : ∀ i, i < n → ∃ t, R i t) : ∃ ts : List α, ts.length = n ∧ ∀ i, i < n → R i (ts.getD i default) := by
  induction n with
  | zero => exact ⟨[], rfl, fun i hi => absurd hi (Nat.not_lt_zero _)⟩
  | succ n ih =>
    obtain ⟨ts, h1, h2⟩ := ih (fun i hi => h i (by omega))
    obtain ⟨t, ht⟩ := h n (Nat.lt_succ_self _)
    refine ⟨ts ++ [t], by simp [h1], fun i hi => ?_⟩
    rcases Nat.lt_or_ge i n with hlt | hge
    · have := h2 i hlt
      rw [List.getD_eq_getElem?_getD, List.getElem?_append_left (by omega), ← List.getD_eq_getElem?_getD]
      exact this
    · obtain rfl : i = n := by omega
      rw [List.getD_eq_getElem?_getD, List.getElem?_append_right (by omega), h1, Nat.sub_self]
      exact ht
theorem Fin'.ex (G : Gr X tm kid Ok) {U : Uf} (W : Wf X tm Ok U) {σ : Su} (hσ : Snd X tm U σ) : ∀ (N : Nat) (n : Nod), GoodU X tm Ok n → (val X tm σ n).size ≤ N → ∃ t, Fin' tm kid U n t := by
  intro N
  induction N with
  | zero =>
    intro n _ h
    have := size_pos (val X tm σ n)
    omega
  | succ N ih =>
    intro n hn h
    cases hT : U.T n with
    | none => exact ⟨_, .v hT⟩
    | some p =>
      obtain ⟨gp, rp⟩ := W.Tok n p hn hT
      obtain ⟨ts, h1, h2⟩ := choose_list (tm p).kids.length (fun i t => Fin' tm kid U (nod tm (kid p i)) t) (fun i hi => ih _ (good_nod G (G.kidOk p i gp.1 hi)) (by have := val_kid_lt G W hσ hn hT hi; omega))
      exact ⟨_, .o hT h1 h2⟩
theorem Fin'.val (G : Gr X tm kid Ok) {U : Uf} (W : Wf X tm Ok U) {σ : Su} (hσ : Snd X tm U σ) {n : Nod} {t : Tm} (h : Fin' tm kid U n t) : GoodU X tm Ok n → sbT σ t = Go.Hw.val X tm σ n := by
  induction h with
  | @v n h1 =>
    intro hn
    cases n with
    | o p => exact absurd h1 (W.Tno p hn)
    | v x =>
      have h0 : (U.V (.v x)).1 ≠ nul := (W.Vmin (x, srt X x) hn).1
      obtain ⟨m1, m2⟩ := W.Vsome _ hn h0
      rw [sbT_var σ (G.ne _ m1).2, ← hσ _ _ m2]
      show σ _ _ = σ _ (srt X _)
      rw [srt_of G.cons (s := (U.V (.v x)).2) m1]
  | @o n p ts h1 h2 h3 ih =>
    intro hn
    obtain ⟨gp, rp⟩ := W.Tok n p hn h1
    rw [← hσ _ _ rp, sbT_opn]
    show _ = sbT σ (tm p)
    rw [sbT_op σ gp.2]
    congr 1
    refine tg_ext (by simpa using h2) (fun i hi => ?_)
    have hi1 : i < ts.length := by simpa using hi
    have hi2 : i < (tm p).kids.length := by omega
    have h4 := ih i hi2 (good_nod G (G.kidOk p i gp.1 hi2))
    rw [val_nod G σ (G.kidOk p i gp.1 hi2), G.kidTm p i gp.1 hi2] at h4
    unfold tg at h4 ⊢
    rw [List.getD_eq_getElem?_getD, List.getElem?_eq_getElem hi1, List.getD_eq_getElem?_getD, List.getElem?_eq_getElem hi2] at h4
    rw [List.getD_eq_getElem?_getD, List.getD_eq_getElem?_getD, List.getElem?_map, List.getElem?_map, List.getElem?_eq_getElem hi1, List.getElem?_eq_getElem hi2]
    exact h4
open Classical in
/-- the substitution of the classes -/
noncomputable def thU (tm : Nat × Nat → Tm) (kid : Nat × Nat → Nat → Nat × Nat) (U : Uf) : Su := fun x s => if h : ∃ t, Fin' tm kid U (.v x) t then Classical.choose h else vr x s
theorem thU_eq {U : Uf} {x s : By} {t : Tm} (h : Fin' tm kid U (.v x) t) : thU tm kid U x s = t := by
  unfold thU
  rw [dif_pos ⟨t, h⟩]
  exact (Classical.choose_spec (⟨t, h⟩ : ∃ t, Fin' tm kid U (.v x) t)).det h
theorem thU_val (G : Gr X tm kid Ok) {U : Uf} (W : Wf X tm Ok U) (hJ : Jc X tm kid Ok U []) : ∀ (N : Nat) (p : Nat × Nat) (t : Tm), (tm p).size ≤ N → GoodU X tm Ok (.o p) → Fin' tm kid U (.o p) t → sbT (thU tm kid U) (tm p) = t := by
  intro N
  induction N with
  | zero => intro p t h; have := size_pos (tm p); omega
  | succ N ih =>
    intro p t hN hp h
    cases h with
    | v h1 => exact absurd h1 (W.Tno p hp)
    | @o _ q ts h1 h2 h3 =>
      obtain ⟨gq, rq⟩ := W.Tok _ q hp h1
      obtain ⟨e1, e2, e3⟩ := hJ.nil gq hp rq
      rw [sbT_op _ hp.2, ← e1]
      congr 1
      refine tg_ext (by rw [List.length_map, ← e2, h2]) (fun i hi => ?_)
      have hi2 : i < (tm p).kids.length := by simpa using hi
      have hi1 : i < (tm q).kids.length := by omega
      have hok := G.kidOk p i hp.1 hi2
      have hf : Fin' tm kid U (nod tm (kid p i)) (tg ts i) := (h3 i hi1).rho W (e3 i hi1)
      have hk := G.kidTm p i hp.1 hi2
      have hlt : (tm (kid p i)).size ≤ N := by
        rw [hk]
        have h5 := size_tg hi2
        have h6 := size_eq (tm p)
        omega
      have hgoal : sbT (thU tm kid U) (tm (kid p i)) = tg ts i := by
        by_cases hs : (tm (kid p i)).sort = nul
        · have hf2 := hf
          unfold nod at hf2
          rw [if_pos hs] at hf2
          exact ih _ _ hlt ⟨hok, hs⟩ hf2
        · have hf2 := hf
          unfold nod at hf2
          rw [if_neg hs] at hf2
          cases hc : tm (kid p i) with
          | mk n s L =>
            rw [hc] at hs hf2
            have hs2 : s ≠ nul := hs
            rw [sbT_var _ hs2]
            exact thU_eq hf2
      rw [hk] at hgoal
      have : tg ((tm p).kids.map (sbT (thU tm kid U))) i = sbT (thU tm kid U) (tg (tm p).kids i) := by
        unfold tg
        rw [List.getD_eq_getElem?_getD, List.getD_eq_getElem?_getD, List.getElem?_map, List.getElem?_eq_getElem hi2]
        rfl
      rw [this]
      exact hgoal
theorem thU_nod (G : Gr X tm kid Ok) {U : Uf} (W : Wf X tm Ok U) (hJ : Jc X tm kid Ok U []) {n : Nod} (hn : GoodU X tm Ok n) {t : Tm} (h : Fin' tm kid U n t) : val X tm (thU tm kid U) n = t := by
  cases n with
  | v x => exact thU_eq h
  | o p => exact thU_val G W hJ _ p t (Nat.le_refl _) hn h
theorem Fin'.vars (G : Gr X tm kid Ok) {U : Uf} (W : Wf X tm Ok U) {n : Nod} {t : Tm} (h : Fin' tm kid U n t) : GoodU X tm Ok n → NoP t ∧ ∀ g ∈ vof t, g ∈ X := by
  induction h with
  | @v n h1 =>
    intro hn
    cases n with
    | o p => exact absurd h1 (W.Tno p hn)
    | v x =>
      have h0 : (U.V (.v x)).1 ≠ nul := (W.Vmin (x, srt X x) hn).1
      obtain ⟨m1, m2⟩ := W.Vsome _ hn h0
      refine ⟨nop_vr _ _, fun g hg => ?_⟩
      rw [vof_vr (G.ne _ m1).2, List.mem_singleton] at hg
      rw [hg]
      exact m1
  | @o n p ts h1 h2 h3 ih =>
    intro hn
    obtain ⟨gp, rp⟩ := W.Tok n p hn h1
    have hk : ∀ x ∈ ts, NoP x ∧ ∀ g ∈ vof x, g ∈ X := fun x hx => by
      obtain ⟨i, hi, e⟩ := List.getElem_of_mem hx
      have h4 := ih i (by omega) (good_nod G (G.kidOk p i gp.1 (by omega)))
      have e2 : tg ts i = x := by unfold tg; rw [List.getD_eq_getElem?_getD, List.getElem?_eq_getElem hi]; exact e
      rw [e2] at h4
      exact h4
    refine ⟨fun x hx hne => ?_, fun g hg => ?_⟩
    · rw [sbts_eq, List.mem_cons] at hx
      rcases hx with e | hx
      · subst e; exact absurd rfl hne
      · obtain ⟨y, hy, hx⟩ := List.mem_flatMap.1 hx
        exact (hk y hy).1 x hx hne
    · rw [vof_op] at hg
      obtain ⟨y, hy, hg⟩ := List.mem_flatMap.1 hg
      exact (hk y hy).2 g hg
theorem thU_mg (G : Gr X tm kid Ok) {U : Uf} (W : Wf X tm Ok U) (hJ : Jc X tm kid Ok U []) (hF : ∀ n, GoodU X tm Ok n → ∃ t, Fin' tm kid U n t) : Mg X (Snd X tm U) (thU tm kid U) := by
  refine ⟨fun n m e => ?_, fun σ hσ f hf => ?_, fun f hf g hg => ?_, fun f hf => ?_, fun f hf g hg e => ?_⟩
  · by_cases h : n = m
    · rw [h]
    · have hn := W.good n m e h
      have hm := W.good m n e.symm (fun e => h e.symm)
      obtain ⟨t, ht⟩ := hF n hn
      rw [thU_nod G W hJ hn ht, thU_nod G W hJ hm (ht.rho W e)]
  · obtain ⟨t, ht⟩ := hF _ (good_v G hf)
    rw [thU_eq ht, ht.val G W hσ (good_v G hf)]
    show σ _ (srt X _) = _
    rw [srt_of G.cons (s := f.2) hf]
  · obtain ⟨t, ht⟩ := hF _ (good_v G hf)
    rw [thU_eq ht] at hg
    exact (ht.vars G W (good_v G hf)).2 g hg
  · obtain ⟨t, ht⟩ := hF _ (good_v G hf)
    rw [thU_eq ht]
    exact (ht.vars G W (good_v G hf)).1
  · obtain ⟨t, ht⟩ := hF _ (good_v G hf)
    rw [thU_eq ht] at e
    rw [e] at ht
    generalize hu : vr g.1 g.2 = u at ht
    cases ht with
    | o _ _ _ =>
      injection hu with _ h2 _
      exact absurd h2 hg
    | v h1 =>
      injection hu with h2 _ _
      rw [h2]
      exact (W.Vmin f hf).2
theorem thU_mixed (G : Gr X tm kid Ok) {U : Uf} (W : Wf X tm Ok U) (hF : ∀ n, GoodU X tm Ok n → ∃ t, Fin' tm kid U n t) : (∃ f ∈ X, ∃ g : Vd, g.2 ≠ nul ∧ thU tm kid U f.1 f.2 = vr g.1 g.2 ∧ g.2 ≠ f.2) ↔ ∃ f ∈ X, U.T (.v f.1) = none ∧ U.M (.v f.1) = true := by
  constructor
  · rintro ⟨f, hf, g, hg, e, hne⟩
    obtain ⟨t, ht⟩ := hF _ (good_v G hf)
    rw [thU_eq ht] at e
    rw [e] at ht
    refine ⟨f, hf, ?_⟩
    have h2 : U.T (.v f.1) = none ∧ (U.V (.v f.1)).2 = g.2 := by
      generalize hu : vr g.1 g.2 = u at ht
      cases ht with
      | v h1 =>
        injection hu with _ h2 _
        exact ⟨h1, h2.symm⟩
      | o h1 _ _ =>
        injection hu with _ h2 _
        exact absurd h2 hg
    refine ⟨h2.1, ?_⟩
    cases hM : U.M (.v f.1) with
    | true => rfl
    | false => exact absurd (h2.2.symm.trans (W.Mf f hf hM).symm) hne
  · rintro ⟨f, hf, hT, hM⟩
    obtain ⟨a, ha, b, hb, ea, eb, hab⟩ := W.Mt _ (good_v G hf) hM
    have key : ∀ c ∈ X, U.ρ (.v c.1) = U.ρ (.v f.1) → thU tm kid U c.1 c.2 = vr (U.V (.v f.1)).1 (U.V (.v f.1)).2 := fun c hc ec => thU_eq ((Fin'.v hT).rho W ec.symm)
    have hne : (U.V (.v f.1)).2 ≠ nul := by
      obtain ⟨m1, _⟩ := W.Vsome _ (good_v G hf) (W.Vmin f hf).1
      exact (G.ne _ m1).2
    by_cases h : (U.V (.v f.1)).2 = a.2
    · exact ⟨b, hb, U.V (.v f.1), hne, key b hb eb, fun e => hab (h.symm.trans e)⟩
    · exact ⟨a, ha, U.V (.v f.1), hne, key a ha ea, h⟩
end
end Go.Hw

/- What a unification answers: pure. -/
namespace Go.Hw
open Tm
set_option linter.unusedVariables false
set_option linter.unusedSimpArgs false
theorem Mg.congr {X : List Vd} {P Q : Su → Prop} (h : ∀ σ, P σ ↔ Q σ) {θ : Su} (hm : Mg X P θ) : Mg X Q θ := ⟨(h _).1 hm.uni, fun σ hσ => hm.gen σ ((h σ).2 hσ), hm.inX, hm.nop, hm.least⟩
/-- both terms become the same -/
def Eqs (a b : Tm) (σ : Su) : Prop := sbT σ a = sbT σ b
/-- a variable becomes one of another sort -/
def MixT (X : List Vd) (θ : Su) : Prop := ∃ f ∈ X, ∃ g : Vd, g.2 ≠ nul ∧ θ f.1 f.2 = vr g.1 g.2 ∧ g.2 ≠ f.2
def BigT (X : List Vd) (θ : Su) : Prop := ∃ f ∈ X, 1000 < (θ f.1 f.2).size ∨ 60 < (θ f.1 f.2).depth
/-- the bindings of variables that become something else, in the order of a list -/
def bds (X : List Vd) (θ : Su) : List Bd := X.filterMap fun f => if θ f.1 f.2 = vr f.1 f.2 then none else some (f.1, f.2, θ f.1 f.2)
open Classical in
/-- what Unify answers to well-formed terms whose variables X, ascending, have one sort each -/
noncomputable def uniF (X : List Vd) (a b : Tm) : List Bd × Int :=
  if h : ∃ θ, Mg X (Eqs a b) θ then
    (if MixT X (Classical.choose h) then ([], 12) else if BigT X (Classical.choose h) then ([], 4) else (bds X (Classical.choose h), 0))
  else ([], 12)
theorem bds_congr {X : List Vd} {θ φ : Su} (h : ∀ f ∈ X, θ f.1 f.2 = φ f.1 f.2) : bds X θ = bds X φ := by
  unfold bds
  induction X with
  | nil => rfl
  | cons f X ih =>
    rw [List.filterMap_cons, List.filterMap_cons, h f (List.mem_cons_self ..), ih (fun g hg => h g (List.mem_cons_of_mem _ hg))]
theorem mixT_congr {X : List Vd} {θ φ : Su} (h : ∀ f ∈ X, θ f.1 f.2 = φ f.1 f.2) : MixT X θ ↔ MixT X φ := by
  constructor
  · rintro ⟨f, hf, g, h1, h2, h3⟩
    exact ⟨f, hf, g, h1, by rw [← h f hf]; exact h2, h3⟩
  · rintro ⟨f, hf, g, h1, h2, h3⟩
    exact ⟨f, hf, g, h1, by rw [h f hf]; exact h2, h3⟩
theorem bigT_congr {X : List Vd} {θ φ : Su} (h : ∀ f ∈ X, θ f.1 f.2 = φ f.1 f.2) : BigT X θ ↔ BigT X φ := by
  constructor
  · rintro ⟨f, hf, h1⟩
    exact ⟨f, hf, by rw [← h f hf]; exact h1⟩
  · rintro ⟨f, hf, h1⟩
    exact ⟨f, hf, by rw [h f hf]; exact h1⟩
theorem uniF_no {X : List Vd} {a b : Tm} (h : ¬ ∃ θ, Mg X (Eqs a b) θ) : uniF X a b = ([], 12) := by
  unfold uniF
  rw [dif_neg h]
theorem uniF_of {X : List Vd} (hX : Cons X) {a b : Tm} {θ : Su} (h : Mg X (Eqs a b) θ) :
    (MixT X θ → uniF X a b = ([], 12)) ∧ (¬ MixT X θ → BigT X θ → uniF X a b = ([], 4)) ∧ (¬ MixT X θ → ¬ BigT X θ → uniF X a b = (bds X θ, 0)) := by
  have hex : ∃ θ, Mg X (Eqs a b) θ := ⟨θ, h⟩
  have hu := (Classical.choose_spec hex).uniq hX h
  unfold uniF
  rw [dif_pos hex]
  have h1 := mixT_congr hu
  have h2 := bigT_congr hu
  refine ⟨fun hm => by rw [if_pos (h1.2 hm)], fun hm hb => by rw [if_neg (fun e => hm (h1.1 e)), if_pos (h2.2 hb)], fun hm hb => by rw [if_neg (fun e => hm (h1.1 e)), if_neg (fun e => hb (h2.1 e)), bds_congr hu]⟩
theorem no_mg {X : List Vd} {a b : Tm} (h : ∀ σ, ¬ Eqs a b σ) : ¬ ∃ θ, Mg X (Eqs a b) θ := fun ⟨θ, hm⟩ => h θ hm.uni
theorem mem_bds {X : List Vd} {θ : Su} {b : Bd} : b ∈ bds X θ ↔ (b.1, b.2.1) ∈ X ∧ b.2.2 = θ b.1 b.2.1 ∧ θ b.1 b.2.1 ≠ vr b.1 b.2.1 := by
  unfold bds
  rw [List.mem_filterMap]
  constructor
  · rintro ⟨f, hf, h⟩
    split at h
    · cases h
    · rename_i hne
      injection h with h
      subst h
      exact ⟨hf, rfl, hne⟩
  · rintro ⟨h1, h2, h3⟩
    refine ⟨(b.1, b.2.1), h1, ?_⟩
    rw [if_neg h3]
    congr 1
    rw [← h2]
theorem bds_asc {X : List Vd} (hX : AscK (Prod.fst : Vd → By) X) (θ : Su) : AscK (Prod.fst : Bd → By) (bds X θ) := by
  unfold AscK bds at *
  rw [List.pairwise_filterMap]
  refine hX.imp (fun {f g} hfg b hb c hc => ?_)
  split at hb
  · cases hb
  · injection hb with hb
    split at hc
    · cases hc
    · injection hc with hc
      rw [← hb, ← hc]
      exact hfg
/-- the ascending insertion of the reference -/
def addB (l : List Bd) (b : Bd) : List Bd := match l with
  | [] => [b]
  | c :: l => if blt b.1 c.1 = true then b :: c :: l else c :: addB l b
theorem mem_addB {b x : Bd} : ∀ {l : List Bd}, x ∈ addB l b ↔ x ∈ l ∨ x = b
  | [] => by simp [addB]
  | c :: l => by
    unfold addB
    split
    · simp only [List.mem_cons]
      constructor
      · rintro (h | h | h)
        · exact .inr h
        · exact .inl (.inl h)
        · exact .inl (.inr h)
      · rintro ((h | h) | h)
        · exact .inr (.inl h)
        · exact .inr (.inr h)
        · exact .inl h
    · rw [List.mem_cons, mem_addB, List.mem_cons, or_assoc]
theorem addB_asc {b : Bd} : ∀ {l : List Bd}, AscK (Prod.fst : Bd → By) l → (∀ c ∈ l, c.1 ≠ b.1) → AscK (Prod.fst : Bd → By) (addB l b)
  | [], _, _ => List.pairwise_singleton _ _
  | c :: l, h, hn => by
    obtain ⟨h1, h2⟩ := List.pairwise_cons.1 h
    unfold addB
    split
    · rename_i hb
      refine List.pairwise_cons.2 ⟨fun x hx => ?_, h⟩
      rcases List.mem_cons.1 hx with e | hx
      · rw [e]; exact hb
      · exact blt_trans hb (h1 x hx)
    · rename_i hb
      have hcb : blt c.1 b.1 = true := by
        rcases blt_tri c.1 b.1 (hn c (List.mem_cons_self ..)) with h3 | h3
        · exact h3
        · exact absurd h3 hb
      refine List.pairwise_cons.2 ⟨fun x hx => ?_, addB_asc h2 (fun x hx => hn x (List.mem_cons_of_mem _ hx))⟩
      rcases mem_addB.1 hx with hx | hx
      · exact h1 x hx
      · rw [hx]; exact hcb
end Go.Hw

/- Matching with bindings: pure. -/
namespace Go.Hw
open Tm
set_option linter.unusedVariables false
set_option linter.unusedSimpArgs false
mutual
def mtB : Tm → Tm → List Bd → Option (List Bd)
  | .mk n s L, t, B =>
    if s = nul then (if t.sort = nul ∧ t.name = n ∧ t.kids.length = L.length then mtBL L t.kids B else none)
    else if t.sort ≠ nul ∧ t.sort ≠ s then none
    else match bget B n with
      | some x => if x = t then some B else none
      | none => some (B ++ [(n, s, t)])
def mtBL : List Tm → List Tm → List Bd → Option (List Bd)
  | [], _, B => some B
  | _ :: _, [], _ => none
  | a :: L, b :: M, B => match mtB a b B with
    | none => none
    | some C => mtBL L M C
end
theorem mtB_op {n : By} {L : List Tm} {t : Tm} {B : List Bd} (h : t.sort = nul ∧ t.name = n ∧ t.kids.length = L.length) : mtB (.mk n nul L) t B = mtBL L t.kids B := by
  unfold mtB
  rw [if_pos rfl, if_pos h]
theorem mtB_no {n : By} {L : List Tm} {t : Tm} {B : List Bd} (h : ¬ (t.sort = nul ∧ t.name = n ∧ t.kids.length = L.length)) : mtB (.mk n nul L) t B = none := by
  unfold mtB
  rw [if_pos rfl, if_neg h]
theorem mtB_sort {n s : By} {L : List Tm} {t : Tm} {B : List Bd} (hs : s ≠ nul) (h : t.sort ≠ nul ∧ t.sort ≠ s) : mtB (.mk n s L) t B = none := by
  unfold mtB
  rw [if_neg hs, if_pos h]
theorem mtB_some {n s : By} {L : List Tm} {t x : Tm} {B : List Bd} (hs : s ≠ nul) (h : ¬ (t.sort ≠ nul ∧ t.sort ≠ s)) (hb : bget B n = some x) : mtB (.mk n s L) t B = if x = t then some B else none := by
  unfold mtB
  rw [if_neg hs, if_neg h, hb]
theorem mtB_new {n s : By} {L : List Tm} {t : Tm} {B : List Bd} (hs : s ≠ nul) (h : ¬ (t.sort ≠ nul ∧ t.sort ≠ s)) (hb : bget B n = none) : mtB (.mk n s L) t B = some (B ++ [(n, s, t)]) := by
  unfold mtB
  rw [if_neg hs, if_neg h, hb]
theorem tg_drop (L : List Tm) (k : Nat) (h : k < L.length) : L.drop k = tg L k :: L.drop (k + 1) := by
  rw [List.drop_eq_getElem_cons h]
  unfold tg
  rw [List.getD_eq_getElem?_getD, List.getElem?_eq_getElem h]
  rfl
theorem mtBL_at {L M : List Tm} {B : List Bd} {k : Nat} (hL : k < L.length) (hM : k < M.length) :
    mtBL (L.drop k) (M.drop k) B = match mtB (tg L k) (tg M k) B with | none => none | some C => mtBL (L.drop (k + 1)) (M.drop (k + 1)) C := by
  rw [tg_drop L k hL, tg_drop M k hM]
  conv => lhs; unfold mtBL
/-- what the bindings make of a variable -/
def bsu (B : List Bd) : Su := fun n s => (bget B n).getD (vr n s)
/-- what a matching keeps -/
structure MtI (X : List Vd) (Y : Tm → Prop) (B : List Bd) : Prop where
  inX : ∀ b ∈ B, (b.1, b.2.1) ∈ X
  dist : B.Pairwise fun a b => a.1 ≠ b.1
  val : ∀ b ∈ B, Y b.2.2
  srt : ∀ b ∈ B, b.2.2.sort ≠ nul → b.2.2.sort = b.2.1
theorem MtI.nil (X : List Vd) (Y : Tm → Prop) : MtI X Y [] := ⟨fun _ h => (by cases h), List.Pairwise.nil, fun _ h => (by cases h), fun _ h => (by cases h)⟩
theorem mtB_ok {X : List Vd} {Y : Tm → Prop} (hY : ∀ t x, Y t → x ∈ t.kids → Y x) : ∀ (p t : Tm) (B C : List Bd), mtB p t B = some C → NoP p → (∀ f ∈ vof p, f ∈ X) → Y t → MtI X Y B → MtI X Y C ∧ (∀ n x, bget B n = some x → bget C n = some x) ∧ (∀ f ∈ vof p, ∃ x, bget C f.1 = some x) ∧ ∀ D : List Bd, (∀ n x, bget C n = some x → bget D n = some x) → sbT (bsu D) p = t := by
  refine Tm.ind (fun n s L ih => ?_)
  intro t B C h hp hv ht hI
  by_cases hs : s = nul
  · subst hs
    by_cases hc : t.sort = nul ∧ t.name = n ∧ t.kids.length = L.length
    · rw [mtB_op hc] at h
      have key : ∀ (L M : List Tm), (∀ x ∈ L, ∀ (t : Tm) (B C : List Bd), mtB x t B = some C → NoP x → (∀ f ∈ vof x, f ∈ X) → Y t → MtI X Y B → MtI X Y C ∧ (∀ n x, bget B n = some x → bget C n = some x) ∧ (∀ f ∈ vof x, ∃ y, bget C f.1 = some y) ∧ ∀ D : List Bd, (∀ n x, bget C n = some x → bget D n = some x) → sbT (bsu D) x = t) →
          M.length = L.length → (∀ x ∈ L, NoP x) → (∀ x ∈ L, ∀ f ∈ vof x, f ∈ X) → (∀ y ∈ M, Y y) → ∀ B C, mtBL L M B = some C → MtI X Y B → MtI X Y C ∧ (∀ n x, bget B n = some x → bget C n = some x) ∧ (∀ x ∈ L, ∀ f ∈ vof x, ∃ y, bget C f.1 = some y) ∧ ∀ D : List Bd, (∀ n x, bget C n = some x → bget D n = some x) → L.map (sbT (bsu D)) = M := by
        intro L
        induction L with
        | nil =>
          intro M _ hl _ _ _ B C h hI
          have hM : M = [] := List.eq_nil_of_length_eq_zero hl
          subst hM
          unfold mtBL at h
          injection h with h
          subst h
          exact ⟨hI, fun _ _ e => e, fun x hx => (by cases hx), fun _ _ => rfl⟩
        | cons a L ihL =>
          intro M hx hl hn hvv hYM B C h hI
          match M, hl with
          | b :: M, hl =>
            unfold mtBL at h
            cases hm : mtB a b B with
            | none => rw [hm] at h; cases h
            | some E =>
              rw [hm] at h
              obtain ⟨h1, h2, h3, h4⟩ := hx a (List.mem_cons_self ..) b B E hm (hn a (List.mem_cons_self ..)) (hvv a (List.mem_cons_self ..)) (hYM b (List.mem_cons_self ..)) hI
              obtain ⟨g1, g2, g3, g4⟩ := ihL M (fun x hx' => hx x (List.mem_cons_of_mem _ hx')) (by simpa using hl) (fun x hx' => hn x (List.mem_cons_of_mem _ hx')) (fun x hx' => hvv x (List.mem_cons_of_mem _ hx')) (fun y hy => hYM y (List.mem_cons_of_mem _ hy)) E C h h1
              refine ⟨g1, fun n x e => g2 n x (h2 n x e), fun x hx' f hf => ?_, fun D hD => ?_⟩
              · rcases List.mem_cons.1 hx' with e | hx'
                · subst e
                  obtain ⟨y, hy⟩ := h3 f hf
                  exact ⟨y, g2 _ _ hy⟩
                · exact g3 x hx' f hf
              · rw [List.map_cons, h4 D (fun n x e => hD n x (g2 n x e)), g4 D hD]
      obtain ⟨h1, h2, h3, h4⟩ := key L t.kids ih hc.2.2 (fun x hx => hp.kid hx) (fun x hx f hf => hv f (by rw [vof_op]; exact List.mem_flatMap.2 ⟨x, hx, hf⟩)) (fun y hy => hY t y ht hy) B C h hI
      refine ⟨h1, h2, fun f hf => ?_, fun D hD => ?_⟩
      · rw [vof_op] at hf
        obtain ⟨x, hx, hf⟩ := List.mem_flatMap.1 hf
        exact h3 x hx f hf
      · rw [sbT_opn, h4 D hD, ← hc.2.1, ← hc.1]
        exact eta t
    · rw [mtB_no hc] at h
      cases h
  · have hL : L = [] := hp _ (mem_sbts_self _) hs
    subst hL
    have hnX := hv _ (vof_self hs [])
    by_cases hc : t.sort ≠ nul ∧ t.sort ≠ s
    · rw [mtB_sort hs hc] at h
      cases h
    · cases hx : bget B n with
      | some x =>
        rw [mtB_some hs hc hx] at h
        by_cases e : x = t
        · rw [if_pos e] at h
          injection h with h
          subst h
          refine ⟨hI, fun _ _ e => e, fun f hf => ?_, fun D hD => ?_⟩
          · rw [vof_vr hs, List.mem_singleton] at hf
            rw [hf]
            exact ⟨x, hx⟩
          · rw [sbT_var _ hs]
            show (bget D n).getD _ = t
            rw [hD n x hx, Option.getD_some, e]
        · rw [if_neg e] at h
          cases h
      | none =>
        rw [mtB_new hs hc hx] at h
        injection h with h
        subst h
        have hget : ∀ m x, bget B m = some x → bget (B ++ [(n, s, t)]) m = some x := fun m x e => by rw [bget_snoc, e]; rfl
        have hn2 : bget (B ++ [(n, s, t)]) n = some t := by rw [bget_snoc, hx]; show (if n = n then some t else none) = some t; rw [if_pos rfl]
        refine ⟨⟨fun b hb => ?_, ?_, fun b hb => ?_, fun b hb hsb => ?_⟩, hget, fun f hf => ?_, fun D hD => ?_⟩
        · rcases List.mem_append.1 hb with hb | hb
          · exact hI.inX b hb
          · rw [List.mem_singleton] at hb
            rw [hb]; exact hnX
        · rw [List.pairwise_append]
          refine ⟨hI.dist, List.pairwise_singleton _ _, fun a ha b hb => ?_⟩
          rw [List.mem_singleton] at hb
          rw [hb]
          exact bget_none hx a ha
        · rcases List.mem_append.1 hb with hb | hb
          · exact hI.val b hb
          · rw [List.mem_singleton] at hb
            rw [hb]; exact ht
        · rcases List.mem_append.1 hb with hb | hb
          · exact hI.srt b hb hsb
          · rw [List.mem_singleton] at hb
            subst hb
            by_cases e : t.sort = s
            · exact e
            · exact absurd ⟨hsb, e⟩ hc
        · rw [vof_vr hs, List.mem_singleton] at hf
          rw [hf]
          exact ⟨t, hn2⟩
        · rw [sbT_var _ hs]
          show (bget D n).getD _ = t
          rw [hD n t hn2, Option.getD_some]
/-- a binding of a variable to itself -/
def slfB (b : Bd) : Bool := decide (b.2.2 = vr b.1 b.2.1)
/-- the bindings that are none of a variable to itself, ascending -/
def srtB (B : List Bd) : List Bd := B.foldl (fun l b => if slfB b = true then l else addB l b) []
theorem srtB_snoc (B : List Bd) (b : Bd) : srtB (B ++ [b]) = if slfB b = true then srtB B else addB (srtB B) b := by
  unfold srtB
  rw [List.foldl_append]
  rfl
theorem srtB_spec (B : List Bd) (h : B.Pairwise fun a b => a.1 ≠ b.1) : AscK (Prod.fst : Bd → By) (srtB B) ∧ ∀ b, b ∈ srtB B ↔ b ∈ B ∧ slfB b = false := by
  have key : ∀ N (B : List Bd), B.length = N → B.Pairwise (fun a b => a.1 ≠ b.1) → AscK (Prod.fst : Bd → By) (srtB B) ∧ ∀ b, b ∈ srtB B ↔ b ∈ B ∧ slfB b = false := by
    intro N
    induction N with
    | zero =>
      intro B hN _
      have : B = [] := List.eq_nil_of_length_eq_zero hN
      subst this
      exact ⟨List.Pairwise.nil, fun b => by simp [srtB]⟩
    | succ N ih =>
      intro B hN hd
      have hne : B ≠ [] := fun e => by rw [e] at hN; simp at hN
      obtain ⟨A, x, rfl⟩ : ∃ A x, B = A ++ [x] := ⟨B.dropLast, B.getLast hne, (List.dropLast_concat_getLast hne).symm⟩
      have hl : A.length = N := by simpa using hN
      rw [List.pairwise_append] at hd
      obtain ⟨d1, _, d3⟩ := hd
      obtain ⟨i1, i2⟩ := ih A hl d1
      rw [srtB_snoc]
      cases hx : slfB x with
      | true =>
        rw [if_pos rfl]
        refine ⟨i1, fun b => ?_⟩
        rw [i2 b, List.mem_append, List.mem_singleton]
        constructor
        · rintro ⟨h1, h2⟩; exact ⟨.inl h1, h2⟩
        · rintro ⟨h1 | h1, h2⟩
          · exact ⟨h1, h2⟩
          · rw [h1, hx] at h2; cases h2
      | false =>
        rw [if_neg (by simp)]
        refine ⟨addB_asc i1 (fun c hc => ?_), fun b => ?_⟩
        · exact d3 c ((i2 c).1 hc).1 x (List.mem_singleton.2 rfl)
        · rw [mem_addB, i2 b, List.mem_append, List.mem_singleton]
          constructor
          · rintro (⟨h1, h2⟩ | h1)
            · exact ⟨.inl h1, h2⟩
            · rw [h1]; exact ⟨.inr rfl, hx⟩
          · rintro ⟨h1 | h1, h2⟩
            · exact .inl ⟨h1, h2⟩
            · exact .inr h1
  exact key B.length B rfl h
/-- variables of both with different sorts -/
def clashF (X Y : List Vd) : Bool := X.any fun f => Y.any fun g => decide (f.1 = g.1) && !decide (f.2 = g.2)
end Go.Hw

/- Substitutions applied and composed: pure. -/
namespace Go.Hw
open Tm
set_option linter.unusedVariables false
set_option linter.unusedSimpArgs false
section
variable (nm : By → Bool)
/-- the binding i is right -/
def okBd (s : List Bd) (i : Nat) : Bool :=
  nm (bg' s i).1 && nm (bg' s i).2.1 && (decide (i = 0) || blt (bg' s (i - 1)).1 (bg' s i).1) && wf nm (bg' s i).2.2 && (decide ((bg' s i).2.2.sort = nul) || (decide ((bg' s i).2.2.sort = (bg' s i).2.1) && !decide ((bg' s i).2.2.name = (bg' s i).1)))
where bg' (s : List Bd) (i : Nat) : Bd := s.getD i (nul, nul, default)
def vldB (s : List Bd) : Bool := decide (s.length ≤ 1000) && (List.range s.length).all (okBd nm s)
/-- the sort of a binding -/
def bsrt (s : List Bd) (n : By) : Option By := (s.find? fun b => decide (b.1 = n)).map (·.2.1)
def sbB (s : List Bd) (t : Tm) : Tm := sbT (bsu s) t
/-- a variable that is bound with another sort -/
def clsh (s : List Bd) (t : Tm) : Bool := (varsT t).any fun f => match bsrt s f.1 with | some so => !decide (so = f.2) | none => false
/-- what applying answers, if both are right -/
def app1 (s : List Bd) (t : Tm) : Tm × Int :=
  if clsh s t = true then (.mk nul nul [], 11) else if 1000 < (sbB s t).size ∨ 60 < (sbB s t).depth then (.mk nul nul [], 4) else if wf nm (sbB s t) = false then (.mk nul nul [], 11) else (sbB s t, 0)
def appF (s : List Bd) (t : Tm) : Tm × Int := if (vldB nm s && wf nm t) = true then app1 nm s t else (.mk nul nul [], 1)
/-- the terms of the first one, with the second one applied -/
def cmpA (b : List Bd) : List Bd → List Bd × Int
  | [] => ([], 0)
  | x :: l => if (app1 nm b x.2.2).2 = 0 then (if (cmpA b l).2 = 0 then ((x.1, x.2.1, (app1 nm b x.2.2).1) :: (cmpA b l).1, 0) else ([], (cmpA b l).2)) else ([], (app1 nm b x.2.2).2)
def cmpF (a b : List Bd) : List Bd × Int :=
  if (vldB nm a && vldB nm b) = false then ([], 1) else
  if (cmpA nm b a).2 = 0 then
    (if 1000 < (srtB ((cmpA nm b a).1 ++ b.filter fun x => (bget a x.1).isNone)).length then ([], 4) else (srtB ((cmpA nm b a).1 ++ b.filter fun x => (bget a x.1).isNone), 0))
  else ([], (cmpA nm b a).2)
end
theorem bsrt_iff {s : List Bd} {n : By} : (bsrt s n).isSome = (bget s n).isSome := by
  unfold bsrt bget
  cases s.find? _ <;> rfl
theorem bsrt_none {s : List Bd} {n : By} : bsrt s n = none ↔ bget s n = none := by
  unfold bsrt bget
  cases s.find? _ <;> simp
theorem bget_of {s : List Bd} (hd : s.Pairwise fun a b => a.1 ≠ b.1) {b : Bd} (hb : b ∈ s) : bget s b.1 = some b.2.2 ∧ bsrt s b.1 = some b.2.1 := by
  induction s with
  | nil => cases hb
  | cons a s ih =>
    obtain ⟨h1, h2⟩ := List.pairwise_cons.1 hd
    unfold bget bsrt
    rw [List.find?_cons]
    rcases List.mem_cons.1 hb with e | hb
    · subst e
      rw [decide_eq_true rfl]
      exact ⟨rfl, rfl⟩
    · rw [decide_eq_false (h1 b hb)]
      exact ih h2 hb
theorem bsrt_some {s : List Bd} {n so : By} (h : bsrt s n = some so) : ∃ b ∈ s, b.1 = n ∧ b.2.1 = so := by
  unfold bsrt at h
  cases hf : s.find? (fun b => decide (b.1 = n)) with
  | none => rw [hf] at h; cases h
  | some b =>
    rw [hf] at h
    injection h with h
    have h1 := List.find?_some hf
    exact ⟨b, List.mem_of_find?_eq_some hf, of_decide_eq_true h1, h⟩
theorem asc_dist {l : List Bd} (h : AscK (Prod.fst : Bd → By) l) : l.Pairwise fun a b => a.1 ≠ b.1 := h.imp (fun {a b} hab e => by rw [e, blt_irrefl] at hab; cases hab)
theorem okBd_at {nm : By → Bool} {s : List Bd} (h : vldB nm s = true) : s.length ≤ 1000 ∧ ∀ i, i < s.length → okBd nm s i = true := by
  unfold vldB at h
  rw [Bool.and_eq_true, decide_eq_true_eq, List.all_eq_true] at h
  exact ⟨h.1, fun i hi => h.2 i (List.mem_range.2 hi)⟩
theorem vldB_spec {nm : By → Bool} {s : List Bd} (h : vldB nm s = true) : s.length ≤ 1000 ∧ AscK (Prod.fst : Bd → By) s ∧ ∀ b ∈ s, nm b.1 = true ∧ nm b.2.1 = true ∧ wf nm b.2.2 = true ∧ (b.2.2.sort ≠ nul → b.2.2.sort = b.2.1 ∧ b.2.2.name ≠ b.1) := by
  obtain ⟨h1, h2⟩ := okBd_at h
  have hg : ∀ i (hi : i < s.length), okBd.bg' s i = s[i] := fun i hi => by unfold okBd.bg'; rw [List.getD_eq_getElem?_getD, List.getElem?_eq_getElem hi]; rfl
  have hp : ∀ i (hi : i < s.length), nm s[i].1 = true ∧ nm s[i].2.1 = true ∧ (i = 0 ∨ blt (okBd.bg' s (i - 1)).1 s[i].1 = true) ∧ wf nm s[i].2.2 = true ∧ (s[i].2.2.sort ≠ nul → s[i].2.2.sort = s[i].2.1 ∧ s[i].2.2.name ≠ s[i].1) := fun i hi => by
    have h3 := h2 i hi
    unfold okBd at h3
    rw [hg i hi] at h3
    simp only [Bool.and_eq_true, Bool.or_eq_true, decide_eq_true_eq, Bool.not_eq_true', decide_eq_false_iff_not] at h3
    obtain ⟨⟨⟨⟨a, b⟩, c⟩, d⟩, e⟩ := h3
    exact ⟨a, b, c, d, fun hs => e.resolve_left hs⟩
  refine ⟨h1, ?_, fun b hb => ?_⟩
  · have hstep : ∀ i, i + 1 < s.length → blt (okBd.bg' s i).1 (okBd.bg' s (i + 1)).1 = true := fun i hi => by
      have := (hp (i + 1) hi).2.2.1
      rw [hg (i + 1) hi]
      exact this.resolve_left (by omega)
    have hlt : ∀ d i, i + d + 1 < s.length → blt (okBd.bg' s i).1 (okBd.bg' s (i + d + 1)).1 = true := by
      intro d
      induction d with
      | zero => intro i hi; exact hstep i hi
      | succ d ih =>
        intro i hi
        exact blt_trans (ih i (by omega)) (hstep (i + d + 1) (by omega))
    unfold AscK
    rw [List.pairwise_iff_getElem]
    intro i j hi hj hij
    have := hlt (j - i - 1) i (by omega)
    rw [show i + (j - i - 1) + 1 = j by omega, hg i hi, hg j hj] at this
    exact this
  · obtain ⟨i, hi, rfl⟩ := List.getElem_of_mem hb
    obtain ⟨a, b, _, d, e⟩ := hp i hi
    exact ⟨a, b, d, e⟩
theorem vldB_mk {nm : By → Bool} {s : List Bd} (h1 : s.length ≤ 1000) (h2 : AscK (Prod.fst : Bd → By) s) (h3 : ∀ b ∈ s, nm b.1 = true ∧ nm b.2.1 = true ∧ wf nm b.2.2 = true ∧ (b.2.2.sort ≠ nul → b.2.2.sort = b.2.1 ∧ b.2.2.name ≠ b.1)) : vldB nm s = true := by
  unfold vldB
  rw [Bool.and_eq_true, decide_eq_true_eq, List.all_eq_true]
  refine ⟨h1, fun i hi => ?_⟩
  have hi := List.mem_range.1 hi
  have hg : ∀ i (hi : i < s.length), okBd.bg' s i = s[i] := fun i hi => by unfold okBd.bg'; rw [List.getD_eq_getElem?_getD, List.getElem?_eq_getElem hi]; rfl
  obtain ⟨a, b, c, d⟩ := h3 _ (List.getElem_mem hi)
  unfold okBd
  rw [hg i hi]
  simp only [Bool.and_eq_true, Bool.or_eq_true, decide_eq_true_eq, Bool.not_eq_true', decide_eq_false_iff_not]
  refine ⟨⟨⟨⟨a, b⟩, ?_⟩, c⟩, ?_⟩
  · by_cases h0 : i = 0
    · exact .inl h0
    · refine .inr ?_
      rw [hg (i - 1) (by omega)]
      unfold AscK at h2
      rw [List.pairwise_iff_getElem] at h2
      exact h2 (i - 1) i (by omega) hi (by omega)
  · by_cases hs : s[i].2.2.sort = nul
    · exact .inl hs
    · exact .inr (d hs)
end Go.Hw

/- A range over a map: the names that are done. -/
namespace Go.Hw
open Go.RowKit Go.ChangeMaps
set_option linter.unusedVariables false
set_option linter.unusedSimpArgs false
/-- the entries of a map with names as keys -/
def NmE (es : List MapEntry) (N : List ByteArray) : Prop := es.map (·.key) = N.map Value.string
theorem NmE.of {es : List MapEntry} {l : List (ByteArray × Value)} (h : es.map (fun e => (e.key, e.val)) = l.map (fun p => (Value.string p.1, p.2))) : NmE es (l.map (·.1)) := by
  have := congrArg (List.map Prod.fst) h
  unfold NmE
  rw [List.map_map, List.map_map] at this
  rw [List.map_map]
  exact this
theorem NmE.name {es : List MapEntry} {N : List ByteArray} (h : NmE es N) {e : MapEntry} (he : e ∈ es) : ∃ n ∈ N, e.key = .string n := by
  have h1 : e.key ∈ N.map Value.string := by rw [← h]; exact List.mem_map.2 ⟨e, he, rfl⟩
  obtain ⟨n, hn, h2⟩ := List.mem_map.1 h1
  exact ⟨n, hn, h2.symm⟩
theorem NmE.ent {es : List MapEntry} {N : List ByteArray} (h : NmE es N) {n : ByteArray} (hn : n ∈ N) : ∃ e ∈ es, e.key = .string n := by
  have h1 : Value.string n ∈ es.map (·.key) := by rw [h]; exact List.mem_map.2 ⟨n, hn, rfl⟩
  obtain ⟨e, he, h2⟩ := List.mem_map.1 h1
  exact ⟨e, he, h2⟩
theorem NmE.uniq {es : List MapEntry} {N : List ByteArray} (h : NmE es N) (hd : N.Nodup) {x y : MapEntry} (hx : x ∈ es) (hy : y ∈ es) (hk : x.key = y.key) : x = y := by
  have hnd : (es.map (·.key)).Nodup := by
    rw [h]
    exact List.Pairwise.map _ (fun a b hab e => hab (by injection e)) hd
  obtain ⟨i, hi, rfl⟩ := List.getElem_of_mem hx
  obtain ⟨j, hj, rfl⟩ := List.getElem_of_mem hy
  have hij := (List.pairwise_iff_getElem.1 hnd)
  rcases Nat.lt_trichotomy i j with h2 | h2 | h2
  · exact absurd (by rw [List.getElem_map, List.getElem_map]; exact hk) (hij i j (by simpa using hi) (by simpa using hj) h2)
  · subst h2; rfl
  · exact absurd (by rw [List.getElem_map, List.getElem_map]; exact hk.symm) (hij j i (by simpa using hj) (by simpa using hi) h2)
theorem contains_push' (s : Array Nat) (n k : Nat) : (s.push n).contains k = (s.contains k || (k == n)) := by
  rw [Array.contains_push]
  try (cases s.contains k <;> cases (k == n) <;> rfl)
/-- the names that are done -/
structure SnI (es : List MapEntry) (seen : Array Nat) (D : List ByteArray) : Prop where
  dn : D.Nodup
  sub : ∀ n ∈ D, ∃ e ∈ es, e.key = .string n ∧ seen.contains e.born = true
  all : ∀ e ∈ es, seen.contains e.born = true → ∃ n ∈ D, e.key = .string n
theorem SnI.start (es : List MapEntry) : SnI es #[] [] := ⟨List.nodup_nil, fun n h => (by cases h), fun e _ h => (by simp at h)⟩
theorem SnI.next {es : List MapEntry} {seen : Array Nat} {D N : List ByteArray} (hm : NmE es N) (hd : N.Nodup) (hn : (es.map (·.born)).Nodup) (h : SnI es seen D) {e : MapEntry} (he : e ∈ es) (hs : seen.contains e.born = false) {n : ByteArray} (hk : e.key = .string n) : SnI es (seen.push e.born) (D ++ [n]) := by
  refine ⟨?_, fun m hm2 => ?_, fun x hx hsx => ?_⟩
  · rw [List.nodup_append]
    refine ⟨h.dn, by simp, fun a ha b hb e2 => ?_⟩
    rw [List.mem_singleton] at hb
    subst hb
    subst e2
    obtain ⟨x, hx, hkx, c⟩ := h.sub a ha
    have hxe : x = e := hm.uniq hd hx he (by rw [hkx, hk])
    rw [hxe, hs] at c
    cases c
  · rcases List.mem_append.1 hm2 with hm2 | hm2
    · obtain ⟨x, hx, a, b⟩ := h.sub m hm2
      exact ⟨x, hx, a, by rw [contains_push', b]; rfl⟩
    · rw [List.mem_singleton] at hm2
      subst hm2
      exact ⟨e, he, hk, by rw [contains_push', beq_self_eq_true, Bool.or_true]⟩
  · rw [contains_push', Bool.or_eq_true, beq_iff_eq] at hsx
    rcases hsx with hsx | hsx
    · obtain ⟨m, h1, h2⟩ := h.all x hx hsx
      exact ⟨m, List.mem_append_left _ h1, h2⟩
    · have hxe : x = e := born_inj hn hx he hsx
      rw [hxe]
      exact ⟨n, List.mem_append_right _ (List.mem_singleton.2 rfl), hk⟩
theorem SnI.fin {es : Array MapEntry} {seen : Array Nat} {D N : List ByteArray} (hm : NmE es.toList N) (h : SnI es.toList seen D) (h0 : (leftOf es seen).size = 0) : ∀ n, n ∈ D ↔ n ∈ N := fun n =>
  ⟨fun hn => by
    obtain ⟨e, he, hk, _⟩ := h.sub n hn
    obtain ⟨m, hm2, hk2⟩ := hm.name he
    rw [hk] at hk2
    injection hk2 with hk2
    rw [hk2]; exact hm2, fun hn => by
    obtain ⟨e, he, hk⟩ := hm.ent hn
    obtain ⟨m, hm2, hk2⟩ := h.all e he (all_seen es seen h0 e he)
    rw [hk] at hk2
    injection hk2 with hk2
    rw [hk2]; exact hm2⟩
theorem SnI.sub' {es : List MapEntry} {seen : Array Nat} {D N : List ByteArray} (hm : NmE es N) (h : SnI es seen D) : ∀ n ∈ D, n ∈ N := fun n hn => by
  obtain ⟨e, he, hk, _⟩ := h.sub n hn
  obtain ⟨m, hm2, hk2⟩ := hm.name he
  rw [hk] at hk2
  injection hk2 with hk2
  rw [hk2]; exact hm2
/-- other values under the same keys -/
theorem SnI.alike {es es' : List MapEntry} {seen : Array Nat} {D : List ByteArray} (h : SnI es seen D) (he : es.map (fun e => (e.key, e.born)) = es'.map (fun e => (e.key, e.born))) : SnI es' seen D := by
  have h1 : ∀ e' ∈ es', ∃ e ∈ es, e.key = e'.key ∧ e.born = e'.born := fun e' h' => by
    have : (e'.key, e'.born) ∈ es.map (fun e => (e.key, e.born)) := by rw [he]; exact List.mem_map.2 ⟨e', h', rfl⟩
    obtain ⟨e, h2, h3⟩ := List.mem_map.1 this
    injection h3 with h4 h5
    exact ⟨e, h2, h4, h5⟩
  have h2 : ∀ e ∈ es, ∃ e' ∈ es', e'.key = e.key ∧ e'.born = e.born := fun e h' => by
    have : (e.key, e.born) ∈ es'.map (fun e => (e.key, e.born)) := by rw [← he]; exact List.mem_map.2 ⟨e, h', rfl⟩
    obtain ⟨e, h2, h3⟩ := List.mem_map.1 this
    injection h3 with h4 h5
    exact ⟨e, h2, h4, h5⟩
  refine ⟨h.dn, fun n hn => ?_, fun e' h' hs => ?_⟩
  · obtain ⟨e, h3, hk, hs⟩ := h.sub n hn
    obtain ⟨e', h4, h5, h6⟩ := h2 e h3
    exact ⟨e', h4, h5.trans hk, by rw [h6]; exact hs⟩
  · obtain ⟨e, h3, h4, h5⟩ := h1 e' h'
    obtain ⟨n, hn, hk⟩ := h.all e h3 (by rw [h5]; exact hs)
    exact ⟨n, hn, h4.symm.trans hk⟩
end Go.Hw

/- Bindings in memory. -/
namespace Go.Hw
open Go.RowKit Tm
set_option linter.unusedVariables false
set_option linter.unusedSimpArgs false
abbrev bg (l : List Bd) (i : Nat) : Bd := l.getD i (nul, nul, default)
/-- the cells of a list of bindings; us: the slices of the terms' parts -/
def bCells : List Bd → List Value → List Value
  | [], _ => []
  | b :: l, us => .string b.1 :: .string b.2.1 :: .string b.2.2.name :: .string b.2.2.sort :: us.headD nilS :: bCells l us.tail
theorem bCells_len : ∀ (l : List Bd) (us : List Value), (bCells l us).length = l.length * 5
  | [], _ => rfl
  | b :: l, us => by simp [bCells, bCells_len l us.tail]; omega
theorem bCells_at : ∀ (l : List Bd) (us : List Value) (i : Nat), i < l.length →
    (bCells l us)[i * 5]? = some (.string (bg l i).1) ∧ (bCells l us)[i * 5 + 1]? = some (.string (bg l i).2.1) ∧ (bCells l us)[i * 5 + 2]? = some (.string (bg l i).2.2.name) ∧ (bCells l us)[i * 5 + 3]? = some (.string (bg l i).2.2.sort) ∧ (bCells l us)[i * 5 + 4]? = some (ug us i)
  | b :: l, us, 0, _ => by
    refine ⟨rfl, rfl, rfl, rfl, ?_⟩
    cases us <;> rfl
  | b :: l, us, i + 1, h => by
    obtain ⟨h0, h1, h2, h3, h4⟩ := bCells_at l us.tail i (by simpa using h)
    have e : ∀ k, (bCells (b :: l) us)[(i + 1) * 5 + k]? = (bCells l us.tail)[i * 5 + k]? := fun k => by
      rw [show (i + 1) * 5 + k = i * 5 + k + 1 + 1 + 1 + 1 + 1 by omega]
      rfl
    refine ⟨by rw [← Nat.add_zero ((i + 1) * 5), e]; exact h0, by rw [e]; exact h1, by rw [e]; exact h2, by rw [e]; exact h3, ?_⟩
    rw [e, h4]
    cases us <;> rfl
theorem bCells_app : ∀ (l m : List Bd) (us vs : List Value), us.length = l.length → bCells (l ++ m) (us ++ vs) = bCells l us ++ bCells m vs
  | [], m, [], vs, _ => rfl
  | a :: l, m, b :: us, vs, h => by
    have := bCells_app l m us vs (by simpa using h)
    simp only [List.cons_append, bCells, List.headD_cons, List.tail_cons, this]
theorem bCells_one (l : List Bd) : ∀ (us : List Value), (∀ u ∈ us, u.oneCell' = true) → ∀ u ∈ bCells l us, u.oneCell' = true := by
  induction l with
  | nil => intro us _ u hu; cases hu
  | cons b l ih =>
    intro us hus u hu
    simp only [bCells, List.mem_cons] at hu
    rcases hu with h | h | h | h | h | h
    · subst h; rfl
    · subst h; rfl
    · subst h; rfl
    · subst h; rfl
    · subst h
      cases us with
      | nil => rfl
      | cons a us => exact hus a (List.mem_cons_self ..)
    · exact ih us.tail (fun v hv => hus v (List.mem_of_mem_tail hv)) u h
theorem bg_mem {l : List Bd} {i : Nat} (h : i < l.length) : bg l i ∈ l := by unfold bg; rw [List.getD_eq_getElem?_getD, List.getElem?_eq_getElem h]; exact List.getElem_mem h
theorem bg_take (l : List Bd) (k : Nat) (h : k < l.length) : l.take (k + 1) = l.take k ++ [bg l k] := by
  rw [List.take_add_one]
  congr 1
  unfold bg
  rw [List.getD_eq_getElem?_getD, List.getElem?_eq_getElem h]
  rfl
theorem bg_drop (l : List Bd) (k : Nat) (h : k < l.length) : l.drop k = bg l k :: l.drop (k + 1) := by
  rw [List.drop_eq_getElem_cons h]
  unfold bg
  rw [List.getD_eq_getElem?_getD, List.getElem?_eq_getElem h]
  rfl
theorem ug_take (us : List Value) (k : Nat) (h : k < us.length) : us.take (k + 1) = us.take k ++ [ug us k] := by
  rw [List.take_add_one]
  congr 1
  unfold ug
  rw [List.getD_eq_getElem?_getD, List.getElem?_eq_getElem h]
  rfl
/-- a list of bindings that is read: the row in R, the terms in S -/
def BnR (R S : Nat → Prop) (w : World) (v : Value) (l : List Bd) : Prop := ∃ us, us.length = l.length ∧ SlR R w 5 v l.length (bCells l us) ∧ ∀ i, i < l.length → TlR S w (bg l i).2.2.kids (ug us i)
section
variable {R S T Q F : Nat → Prop} {w w' : World} {l : List Bd} {v : Value}
theorem BnR.nil (R S : Nat → Prop) (w : World) : BnR R S w nilS [] := ⟨[], rfl, SlR.nil _ _ _, fun i h => by cases h⟩
theorem BnR.shape (h : BnR R S w v l) : ∃ a cap, v = .slice a l.length cap := by
  obtain ⟨us, _, h, _⟩ := h
  exact h.shape
theorem BnR.kept (h : BnR R S w v l) (hu : Upd F w w') (hR : ∀ k, R k → ¬ F k) (hS : ∀ k, S k → ¬ F k) : BnR R S w' v l := by
  obtain ⟨us, h1, h2, h3⟩ := h
  exact ⟨us, h1, h2.kept hu hR, fun i hi => (h3 i hi).kept hu hS⟩
theorem BnR.ext (h : BnR R S w v l) (hu : Ext w w') : BnR R S w' v l := h.kept hu (fun _ _ h => h) (fun _ _ h => h)
theorem BnR.weaken (h : BnR R S w v l) (hr : ∀ k, R k → Q k) (hs : ∀ k, S k → T k) : BnR Q T w v l := by
  obtain ⟨us, h1, h2, h3⟩ := h
  exact ⟨us, h1, h2.weaken hr, fun i hi => (h3 i hi).weaken hs⟩
theorem BnR.at_ {a : Option Addr} {n cap : Nat} (h : BnR R S w (.slice a n cap) l) (hl : 0 < l.length) :
    ∃ g off, a = some ⟨g, off, none⟩ ∧ R g ∧ ∀ i, i < l.length → ∃ ka kc, w.cell? ⟨g, off + i * 5, none⟩ = some (.string (bg l i).1) ∧ w.cell? ⟨g, off + i * 5 + 1, none⟩ = some (.string (bg l i).2.1) ∧
      w.cell? ⟨g, off + i * 5 + 2, none⟩ = some (.string (bg l i).2.2.name) ∧ w.cell? ⟨g, off + i * 5 + 3, none⟩ = some (.string (bg l i).2.2.sort) ∧ w.cell? ⟨g, off + i * 5 + 4, none⟩ = some (.slice ka (bg l i).2.2.kids.length kc) ∧ TlR S w (bg l i).2.2.kids (.slice ka (bg l i).2.2.kids.length kc) := by
  obtain ⟨us, hl2, h, hk⟩ := h
  obtain ⟨g, off, cap', e, hc, hS, hj⟩ := h.pos hl
  injection e with e1 e2 e3
  refine ⟨g, off, e1, hS, fun i hi => ?_⟩
  obtain ⟨h0, h1, h2, h3, h4⟩ := bCells_at l us i hi
  obtain ⟨ka, kc, e'⟩ := (hk i hi).shape
  have hk' := hk i hi
  rw [e'] at hk' h4
  exact ⟨ka, kc, by rw [hj _ (by omega), h0], by rw [Nat.add_assoc, hj _ (by omega), h1], by rw [Nat.add_assoc, hj _ (by omega), h2], by rw [Nat.add_assoc, hj _ (by omega), h3], by rw [Nat.add_assoc, hj _ (by omega), h4], hk'⟩
end
end Go.Hw
