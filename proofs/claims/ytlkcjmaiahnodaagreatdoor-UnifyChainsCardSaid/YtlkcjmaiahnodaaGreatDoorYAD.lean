/- The texts UC UD UE VB UF BN TX TQ MQ TR TS TI TU, one behind the other. -/
import Derived.Test.YtlkcjmaiahnodaaGreatDoorYAC
import Derived.Test.YtlkcjmaiahnodaaGreatDoorYAB
import Derived.Shelf.SlSortCmp.NoneTotal
import Derived.Lib.Bytealg
import Derived.Laws.IdiomCopy
/- What a term reaches through bindings: pure. -/
namespace Go.Hw
open Tm
set_option linter.unusedVariables false
set_option linter.unusedSimpArgs false
inductive Rch (s : List Bd) (A : By → Prop) : Tm → By → Prop where
  | here {n so : By} {L : List Tm} : so ≠ nul → ¬ A n → Rch s A (.mk n so L) n
  | step {n so m : By} {L : List Tm} {T : Tm} : so ≠ nul → ¬ A n → bget s n = some T → Rch s A T m → Rch s A (.mk n so L) m
  | kid {n m : By} {L : List Tm} {x : Tm} : x ∈ L → Rch s A x m → Rch s A (.mk n nul L) m
theorem Rch.mono {s : List Bd} {A B : By → Prop} (h : ∀ n, B n → A n) {t : Tm} {m : By} (hr : Rch s A t m) : Rch s B t m := by
  induction hr with
  | here h1 h2 => exact .here h1 (fun e => h2 (h _ e))
  | step h1 h2 h3 _ ih => exact .step h1 (fun e => h2 (h _ e)) h3 ih
  | kid h1 _ ih => exact .kid h1 ih
theorem Rch.trans {s : List Bd} {A : By → Prop} {t T : Tm} {n m : By} (hr : Rch s A t n) (hb : bget s n = some T) (h2 : Rch s A T m) : Rch s A t m := by
  induction hr with
  | here h3 h4 => exact .step h3 h4 hb h2
  | step h3 h4 h5 _ ih => exact .step h3 h4 h5 (ih hb)
  | kid h3 _ ih => exact .kid h3 (ih hb)
theorem Rch.wide {s : List Bd} {A B : By → Prop} (hcl : ∀ p T, B p → ¬ A p → bget s p = some T → ∀ m, Rch s A T m → B m) {t : Tm} {m : By} (hr : Rch s A t m) : B m ∨ Rch s B t m := by
  induction hr with
  | @here n so L h1 h2 =>
    by_cases e : B n
    · exact .inl e
    · exact .inr (.here h1 e)
  | @step n so m L T h1 h2 h3 h4 ih =>
    by_cases e : B n
    · exact .inl (hcl n T e h2 h3 m h4)
    · rcases ih with ih | ih
      · exact .inl ih
      · exact .inr (.step h1 e h3 ih)
  | kid h1 _ ih =>
    rcases ih with ih | ih
    · exact .inl ih
    · exact .inr (.kid h1 ih)
theorem Bi.mg {X : List Vd} (hX : Cons X) (hn : ∀ f ∈ X, f.2 ≠ nul) {s : List Bd} (h : Bi X s) : Mg X (Sol s) (sth s) := by
  have th := h.th hX hn
  refine ⟨fun b hb => ?_, th.gen, fun f hf g hg => (th.free f hf g hg).1, th.nop, th.least⟩
  obtain ⟨h1, _, _, h4⟩ := th.mem b hb
  exact th.sol _ h1 _ h4
end Go.Hw

/- Classes of nodes that become the same term: pure. -/
namespace Go.Hw
open Tm
set_option linter.unusedVariables false
set_option linter.unusedSimpArgs false
inductive Nod where
  | v (n : By)
  | o (p : Nat × Nat)
  deriving DecidableEq
def srt (X : List Vd) (n : By) : By := (fget X n).getD nul
theorem srt_of {X : List Vd} (hX : Cons X) {n s : By} (h : (n, s) ∈ X) : srt X n = s := by
  unfold srt
  cases hg : fget X n with
  | none => exact absurd rfl (fget_none hg _ h)
  | some r => exact hX _ (fget_some hg) _ h rfl
structure Gr (X : List Vd) (tm : Nat × Nat → Tm) (kid : Nat × Nat → Nat → Nat × Nat) (Ok : Nat × Nat → Prop) : Prop where
  kidOk : ∀ p i, Ok p → i < (tm p).kids.length → Ok (kid p i)
  kidTm : ∀ p i, Ok p → i < (tm p).kids.length → tm (kid p i) = tg (tm p).kids i
  nop : ∀ p, Ok p → NoP (tm p)
  vX : ∀ p, Ok p → ∀ f ∈ vof (tm p), f ∈ X
  cons : Cons X
  ne : ∀ f ∈ X, f.1 ≠ nul ∧ f.2 ≠ nul
section
variable {X : List Vd} {tm : Nat × Nat → Tm} {kid : Nat × Nat → Nat → Nat × Nat} {Ok : Nat × Nat → Prop}
def nod (tm : Nat × Nat → Tm) (p : Nat × Nat) : Nod := if (tm p).sort = nul then .o p else .v (tm p).name
def val (X : List Vd) (tm : Nat × Nat → Tm) (σ : Su) : Nod → Tm
  | .v n => σ n (srt X n)
  | .o p => sbT σ (tm p)
theorem val_nod (G : Gr X tm kid Ok) (σ : Su) {p : Nat × Nat} (h : Ok p) : val X tm σ (nod tm p) = sbT σ (tm p) := by
  unfold nod
  by_cases hs : (tm p).sort = nul
  · rw [if_pos hs]; rfl
  · rw [if_neg hs]
    show σ _ (srt X _) = _
    have hv := G.vX p h
    cases hp : tm p with
    | mk n s L =>
      rw [hp] at hs hv
      simp only [Tm.name, Tm.sort] at hs ⊢
      rw [sbT_var σ hs, srt_of G.cons (hv _ (vof_self hs L))]
def GoodU (X : List Vd) (tm : Nat × Nat → Tm) (Ok : Nat × Nat → Prop) : Nod → Prop
  | .v n => (n, srt X n) ∈ X
  | .o p => Ok p ∧ (tm p).sort = nul
theorem good_nod (G : Gr X tm kid Ok) {p : Nat × Nat} (h : Ok p) : GoodU X tm Ok (nod tm p) := by
  unfold nod
  by_cases hs : (tm p).sort = nul
  · rw [if_pos hs]; exact ⟨h, hs⟩
  · rw [if_neg hs]
    show (_, srt X _) ∈ X
    have hv := G.vX p h
    cases hp : tm p with
    | mk n s L =>
      rw [hp] at hs hv
      have h1 := hv _ (vof_self hs L)
      show (n, srt X n) ∈ X
      rw [srt_of G.cons h1]
      exact h1
structure Uf where
  ρ : Nod → Nod
  T : Nod → Option (Nat × Nat)
  V : Nod → Vd
  M : Nod → Bool
structure Wf (X : List Vd) (tm : Nat × Nat → Tm) (Ok : Nat × Nat → Prop) (U : Uf) : Prop where
  idem : ∀ n, U.ρ (U.ρ n) = U.ρ n
  rT : ∀ n m, U.ρ n = U.ρ m → U.T n = U.T m
  rV : ∀ n m, U.ρ n = U.ρ m → U.V n = U.V m
  rM : ∀ n m, U.ρ n = U.ρ m → U.M n = U.M m
  good : ∀ n m, U.ρ n = U.ρ m → n ≠ m → GoodU X tm Ok n
  Tok : ∀ n p, GoodU X tm Ok n → U.T n = some p → GoodU X tm Ok (.o p) ∧ U.ρ (.o p) = U.ρ n
  Tno : ∀ p, GoodU X tm Ok (.o p) → U.T (.o p) ≠ none
  Vsome : ∀ n, GoodU X tm Ok n → (U.V n).1 ≠ nul → U.V n ∈ X ∧ U.ρ (.v (U.V n).1) = U.ρ n
  Vz : ∀ n, GoodU X tm Ok n → (U.V n).1 = nul → (U.V n).2 = nul
  Vmin : ∀ f ∈ X, (U.V (.v f.1)).1 ≠ nul ∧ blt f.1 (U.V (.v f.1)).1 = false
  Mf : ∀ f ∈ X, U.M (.v f.1) = false → f.2 = (U.V (.v f.1)).2
  Mt : ∀ n, GoodU X tm Ok n → U.M n = true → ∃ f ∈ X, ∃ g ∈ X, U.ρ (.v f.1) = U.ρ n ∧ U.ρ (.v g.1) = U.ρ n ∧ f.2 ≠ g.2
end
end Go.Hw

/- Classes of nodes and solutions: pure. -/
namespace Go.Hw
open Tm
set_option linter.unusedVariables false
set_option linter.unusedSimpArgs false
section
variable {X : List Vd} {tm : Nat × Nat → Tm} {kid : Nat × Nat → Nat → Nat × Nat} {Ok : Nat × Nat → Prop}
def Snd (X : List Vd) (tm : Nat × Nat → Tm) (U : Uf) (σ : Su) : Prop := ∀ n m, U.ρ n = U.ρ m → val X tm σ n = val X tm σ m
def EP (tm : Nat × Nat → Tm) (kid : Nat × Nat → Nat → Nat × Nat) (U : Uf) (P : List ((Nat × Nat) × (Nat × Nat))) (n m : Nod) : Prop :=
  ∀ R : Nod → Nod → Prop, Equivalence R → (∀ n m, U.ρ n = U.ρ m → R n m) → (∀ q ∈ P, ∀ i, i < (tm q.1).kids.length → R (nod tm (kid q.1 i)) (nod tm (kid q.2 i))) → R n m
def Jc (X : List Vd) (tm : Nat × Nat → Tm) (kid : Nat × Nat → Nat → Nat × Nat) (Ok : Nat × Nat → Prop) (U : Uf) (P : List ((Nat × Nat) × (Nat × Nat))) : Prop :=
  ∀ p q, GoodU X tm Ok (.o p) → GoodU X tm Ok (.o q) → U.ρ (.o p) = U.ρ (.o q) → (tm p).name = (tm q).name ∧ (tm p).kids.length = (tm q).kids.length ∧ ∀ i, i < (tm p).kids.length → EP tm kid U P (nod tm (kid p i)) (nod tm (kid q i))
def Ule (U U' : Uf) : Prop := ∀ n m, U.ρ n = U.ρ m → U'.ρ n = U'.ρ m
theorem Ule.refl (U : Uf) : Ule U U := fun _ _ h => h
theorem Ule.trans {U V W : Uf} (h : Ule U V) (k : Ule V W) : Ule U W := fun n m e => k n m (h n m e)
theorem EP.up {U U' : Uf} {P P' : List ((Nat × Nat) × (Nat × Nat))} {n m : Nod} (h : EP tm kid U P n m) (hu : Ule U U') (hp : ∀ q ∈ P, q ∈ P') : EP tm kid U' P' n m :=
  fun R hR h1 h2 => h R hR (fun n m e => h1 n m (hu n m e)) (fun q hq => h2 q (hp q hq))
theorem EP.trans {U : Uf} {P : List ((Nat × Nat) × (Nat × Nat))} {n m k : Nod} (h : EP tm kid U P n m) (h' : EP tm kid U P m k) : EP tm kid U P n k := fun R hR h1 h2 => hR.trans (h R hR h1 h2) (h' R hR h1 h2)
theorem EP.symm {U : Uf} {P : List ((Nat × Nat) × (Nat × Nat))} {n m : Nod} (h : EP tm kid U P n m) : EP tm kid U P m n := fun R hR h1 h2 => hR.symm (h R hR h1 h2)
theorem Jc.nil {U : Uf} (h : Jc X tm kid Ok U []) {p q : Nat × Nat} (hp : GoodU X tm Ok (.o p)) (hq : GoodU X tm Ok (.o q)) (e : U.ρ (.o p) = U.ρ (.o q)) :
    (tm p).name = (tm q).name ∧ (tm p).kids.length = (tm q).kids.length ∧ ∀ i, i < (tm p).kids.length → U.ρ (nod tm (kid p i)) = U.ρ (nod tm (kid q i)) := by
  obtain ⟨h1, h2, h3⟩ := h p q hp hq e
  exact ⟨h1, h2, fun i hi => h3 i hi (fun n m => U.ρ n = U.ρ m) ⟨fun _ => rfl, fun h => h.symm, fun h k => h.trans k⟩ (fun _ _ h => h) (fun q hq => by cases hq)⟩
theorem Jc.done {U : Uf} {P : List ((Nat × Nat) × (Nat × Nat))} {x y : Nat × Nat} (h : Jc X tm kid Ok U ((x, y) :: P)) (hk : ∀ i, i < (tm x).kids.length → U.ρ (nod tm (kid x i)) = U.ρ (nod tm (kid y i))) : Jc X tm kid Ok U P := fun p q hp hq e => by
  obtain ⟨h1, h2, h3⟩ := h p q hp hq e
  refine ⟨h1, h2, fun i hi R hR r1 r2 => h3 i hi R hR r1 (fun z hz j hj => ?_)⟩
  rcases List.mem_cons.1 hz with e | hz
  · subst e
    exact r1 _ _ (hk j hj)
  · exact r2 z hz j hj
inductive Fin' (tm : Nat × Nat → Tm) (kid : Nat × Nat → Nat → Nat × Nat) (U : Uf) : Nod → Tm → Prop where
  | v {n : Nod} : U.T n = none → Fin' tm kid U n (vr (U.V n).1 (U.V n).2)
  | o {n : Nod} {p : Nat × Nat} {ts : List Tm} : U.T n = some p → ts.length = (tm p).kids.length → (∀ i, i < (tm p).kids.length → Fin' tm kid U (nod tm (kid p i)) (tg ts i)) → Fin' tm kid U n (.mk (tm p).name nul ts)
theorem tg_ext {L M : List Tm} (hl : L.length = M.length) (h : ∀ i, i < L.length → tg L i = tg M i) : L = M := by
  refine List.ext_getElem hl (fun i h1 h2 => ?_)
  have := h i h1
  unfold tg at this
  rw [List.getD_eq_getElem?_getD, List.getD_eq_getElem?_getD, List.getElem?_eq_getElem h1, List.getElem?_eq_getElem h2] at this
  exact this
theorem Fin'.val (G : Gr X tm kid Ok) {U : Uf} (W : Wf X tm Ok U) {σ : Su} (hσ : Snd X tm U σ) {n : Nod} {t : Tm} (h : Fin' tm kid U n t) : GoodU X tm Ok n → sbT σ t = Go.Hw.val X tm σ n := by
  induction h with
  | @v n h1 =>
    intro hn
    cases n with
    | o p => exact absurd h1 (W.Tno p hn)
    | v x =>
      have h0 : (U.V (.v x)).1 ≠ nul := (W.Vmin (x, srt X x) hn).1
      obtain ⟨m1, m2⟩ := W.Vsome _ hn h0
      rw [sbT_var σ (G.ne _ m1).2, ← hσ _ _ m2]
      show σ _ _ = σ _ (srt X _)
      rw [srt_of G.cons (s := (U.V (.v x)).2) m1]
  | @o n p ts h1 h2 h3 ih =>
    intro hn
    obtain ⟨gp, rp⟩ := W.Tok n p hn h1
    rw [← hσ _ _ rp, sbT_opn]
    show _ = sbT σ (tm p)
    rw [sbT_op σ gp.2]
    congr 1
    refine tg_ext (by simpa using h2) (fun i hi => ?_)
    have hi1 : i < ts.length := by simpa using hi
    have hi2 : i < (tm p).kids.length := by omega
    have h4 := ih i hi2 (good_nod G (G.kidOk p i gp.1 hi2))
    rw [val_nod G σ (G.kidOk p i gp.1 hi2), G.kidTm p i gp.1 hi2] at h4
    unfold tg at h4 ⊢
    rw [List.getD_eq_getElem?_getD, List.getElem?_eq_getElem hi1, List.getD_eq_getElem?_getD, List.getElem?_eq_getElem hi2] at h4
    rw [List.getD_eq_getElem?_getD, List.getD_eq_getElem?_getD, List.getElem?_map, List.getElem?_map, List.getElem?_eq_getElem hi1, List.getElem?_eq_getElem hi2]
    exact h4
end
end Go.Hw

/- Sorting rows by names: pure, and the worlds of the sort. -/
namespace Go.Hw
open Go.RowKit Go.Sort Go.Proofs Tm
set_option linter.unusedVariables false
set_option linter.unusedSimpArgs false
theorem cmpBytes_eq : ∀ a b : List UInt8, Go.Lib.compareBytes a b = if a < b then -1 else if b < a then 1 else 0
  | [], [] => by simp [Go.Lib.compareBytes]
  | [], _ :: _ => by simp [Go.Lib.compareBytes]
  | _ :: _, [] => by simp [Go.Lib.compareBytes]
  | a :: al, b :: bl => by
    have ih := cmpBytes_eq al bl
    unfold Go.Lib.compareBytes
    rw [ih]
    have e1 : (a :: al < b :: bl) ↔ (a < b ∨ a = b ∧ al < bl) := List.cons_lt_cons_iff
    have e2 : (b :: bl < a :: al) ↔ (b < a ∨ b = a ∧ bl < al) := List.cons_lt_cons_iff
    simp only [e1, e2]
    by_cases h1 : a < b
    · rw [if_pos h1, if_pos (.inl h1)]
    · rw [if_neg h1]
      by_cases h2 : b < a
      · rw [if_pos h2]
        have hne : ¬ a = b := fun e => h1 (by rw [e] at h2 ⊢; exact h2)
        rw [if_neg (fun h => h.elim h1 (fun h => hne h.1)), if_pos (.inl h2)]
      · rw [if_neg h2]
        have he : a = b := by
          rcases Nat.lt_trichotomy a.toNat b.toNat with h | h | h
          · exact absurd h h1
          · exact UInt8.toNat_inj.1 h
          · exact absurd h h2
        subst he
        by_cases h3 : al < bl
        · simp [h1, h3]
        · by_cases h4 : bl < al
          · simp [h1, h3, h4]
          · simp [h1, h3, h4]
theorem cmpS_eq (a b : By) : Go.Lib.compareBytes a.data.toList b.data.toList = bcmp a b := by
  rw [cmpBytes_eq]
  unfold bcmp blt
  simp only [decide_eq_true_eq]
theorem cmpS_lt (a b : By) : decide (Go.Lib.compareBytes a.data.toList b.data.toList < 0) = blt a b := by
  rw [cmpS_eq]
  unfold bcmp
  cases h : blt a b with
  | true => rfl
  | false =>
    rw [if_neg (by simp)]
    split <;> rfl
def AscK {β : Type} (key : β → By) (l : List β) : Prop := l.Pairwise fun p q => blt (key p) (key q) = true
theorem asc_uniq {β : Type} (key : β → By) : ∀ {l m : List β}, AscK key l → AscK key m → (∀ f, f ∈ l ↔ f ∈ m) → l = m
  | [], [], _, _, _ => rfl
  | [], y :: m, _, _, h => absurd ((h y).2 (List.mem_cons_self ..)) (by simp)
  | x :: l, [], _, _, h => absurd ((h x).1 (List.mem_cons_self ..)) (by simp)
  | x :: l, y :: m, hl, hm, h => by
    obtain ⟨l1, l2⟩ := List.pairwise_cons.1 hl
    obtain ⟨m1, m2⟩ := List.pairwise_cons.1 hm
    have hxy : x = y := by
      rcases List.mem_cons.1 ((h x).1 (List.mem_cons_self ..)) with e | e
      · exact e
      · rcases List.mem_cons.1 ((h y).2 (List.mem_cons_self ..)) with e2 | e2
        · exact e2.symm
        · have h3 := blt_trans (m1 x e) (l1 y e2)
          rw [blt_irrefl] at h3; cases h3
    subst hxy
    congr 1
    refine asc_uniq key l2 m2 (fun f => ⟨fun hf => ?_, fun hf => ?_⟩)
    · rcases List.mem_cons.1 ((h f).1 (List.mem_cons_of_mem _ hf)) with e | e
      · subst e
        have := l1 f hf
        rw [blt_irrefl] at this; cases this
      · exact e
    · rcases List.mem_cons.1 ((h f).2 (List.mem_cons_of_mem _ hf)) with e | e
      · subst e
        have := m1 f hf
        rw [blt_irrefl] at this; cases this
      · exact e
section
variable {β : Type} [Inhabited β] (key : β → By)
def cfN (x y : β) : Int := Go.Lib.compareBytes (key x).data.toList (key y).data.toList
omit [Inhabited β] in
theorem ltOf_cfN (x y : β) : ltOf (cfN key) x y = blt (key x) (key y) := cmpS_lt _ _
omit [Inhabited β] in
theorem swo_cfN : SWO (ltOf (cfN key)) where
  irrefl x := by rw [ltOf_cfN, blt_irrefl]
  trans x y z h1 h2 := by rw [ltOf_cfN] at *; exact blt_trans h1 h2
  ntrans x y z h1 h2 := by
    rw [ltOf_cfN] at *
    cases h : blt (key x) (key z) with
    | false => rfl
    | true =>
      by_cases e : key x = key y
      · rw [e, h2] at h; cases h
      · rcases blt_tri _ _ e with h3 | h3
        · rw [h1] at h3; cases h3
        · have := blt_trans h3 h
          rw [h2] at this; cases this
theorem sort_asc {d d' : Array β} (hp : PermIn 0 d.size d d') (hs : SortedIn (ltOf (cfN key)) 0 d.size d') (hd : d.toList.Pairwise fun x y => key x ≠ key y) : AscK key d'.toList ∧ d'.toList.Perm d.toList := by
  obtain ⟨hsz, _, hperm⟩ := hp
  have e1 : d'.extract 0 d.size = d' := by rw [← hsz]; exact Array.extract_size
  rw [e1, Array.extract_size] at hperm
  refine ⟨?_, hperm⟩
  have hd' : d'.toList.Pairwise fun x y => key x ≠ key y := hperm.symm.pairwise hd (fun {x y} h e => h e.symm)
  unfold AscK
  rw [List.pairwise_iff_getElem] at hd' ⊢
  intro i j hi hj hij
  have h1 := hd' i j hi hj hij
  have hi' : i < d'.size := by simpa using hi
  have hj' : j < d'.size := by simpa using hj
  have h2 := hs i j (Nat.zero_le _) hij (by omega)
  rw [ltOf_cfN, getElem!_pos d' j hj', getElem!_pos d' i hi'] at h2
  rw [Array.getElem_toList, Array.getElem_toList] at h1 ⊢
  rcases blt_tri _ _ h1 with h3 | h3
  · exact h3
  · rw [h2] at h3; cases h3
theorem flat_get (enc : β → List Value) (k : Nat) (hk : ∀ x, (enc x).length = k) : ∀ (L : List β) (j : Nat), j < L.length * k → (L.flatMap enc)[j]? = some ((enc (L.getD (j / k) default))[j % k]!)
  | [], j, h => by simp at h
  | a :: L, j, h => by
    have hk0 : 0 < k := by
      rcases Nat.eq_zero_or_pos k with h0 | h0
      · rw [h0] at h; simp at h
      · exact h0
    rw [List.flatMap_cons]
    rcases Nat.lt_or_ge j k with hlt | hge
    · rw [List.getElem?_append_left (by rw [hk]; exact hlt), Nat.div_eq_of_lt hlt, Nat.mod_eq_of_lt hlt]
      have hl : j < (enc a).length := by rw [hk]; exact hlt
      rw [List.getElem?_eq_getElem hl]
      show _ = some ((enc a)[j]!)
      rw [getElem!_pos (enc a) j hl]
    · rw [List.getElem?_append_right (by rw [hk]; exact hge), hk]
      have h1 : j - k < L.length * k := by
        simp only [List.length_cons, Nat.add_mul, Nat.one_mul] at h
        omega
      rw [flat_get enc k hk L (j - k) h1]
      have e1 : j / k = (j - k) / k + 1 := by
        rw [Nat.div_eq j k, if_pos ⟨hk0, hge⟩]
      have e2 : j % k = (j - k) % k := by rw [Nat.mod_eq j k, if_pos ⟨hk0, hge⟩]
      rw [e1, e2]
      rfl
theorem holdsK_of (enc : β → List Value) (k : Nat) (hk : ∀ x, (enc x).length = k) {w : World} {b off : Nat} {L : List β} (h : ∀ j, j < L.length * k → w.cell? ⟨b, off + j, none⟩ = (L.flatMap enc)[j]? ∧ w.frozen? ⟨b, off + j, none⟩ = false) : HoldsK enc k w b off L.toArray := by
  intro j hj
  have hj2 : j < L.length * k := by simpa using hj
  obtain ⟨h1, h2⟩ := h j hj2
  refine ⟨?_, h2⟩
  rw [h1, flat_get enc k hk L j hj2, get_flatK _ _ _ _ (by simpa using hj2)]
  congr 1
  have hk0 : 0 < k := by
    rcases Nat.eq_zero_or_pos k with h0 | h0
    · rw [h0] at hj2; simp at hj2
    · exact h0
  have hq : j / k < L.length := Nat.div_lt_of_lt_mul (by rw [Nat.mul_comm]; exact hj2)
  show _ = (enc (L.toArray[j / k]!))[j % k]!
  rw [getElem!_pos L.toArray (j / k) (by simpa using hq)]
  rw [List.getD_eq_getElem?_getD, List.getElem?_eq_getElem hq]
  rfl
theorem cells_holdsK (enc : β → List Value) (k : Nat) (hk : ∀ x, (enc x).length = k) {w : World} {b off : Nat} {d : Array β} (h : HoldsK enc k w b off d) (j : Nat) (hj : j < d.size * k) : w.cell? ⟨b, off + j, none⟩ = (d.toList.flatMap enc)[j]? ∧ w.frozen? ⟨b, off + j, none⟩ = false := by
  obtain ⟨h1, h2⟩ := h j (by simpa using hj)
  refine ⟨?_, h2⟩
  rw [flat_get enc k hk d.toList j (by simpa using hj)]
  rw [h1, get_flatK _ _ _ _ hj]
  have hk0 : 0 < k := by
    rcases Nat.eq_zero_or_pos k with h0 | h0
    · rw [h0] at hj; simp at hj
    · exact h0
  have hq : j / k < d.size := Nat.div_lt_of_lt_mul (by rw [Nat.mul_comm]; exact hj)
  show some (enc d[j / k]!)[j % k]! = _
  rw [getElem!_pos d (j / k) hq, List.getD_eq_getElem?_getD, List.getElem?_eq_getElem (by simpa using hq)]
  rfl
theorem upd_sortK (enc : β → List Value) (k : Nat) (w : World) (blk off n : Nat) (d : Array β) (os : Array Obj) : Upd (fun j => j = blk) w (sortWorldK enc k w blk off n d os) := by
  unfold sortWorldK
  refine ⟨rfl, rfl, rfl, ?_, fun j hj hf => ?_⟩
  · show w.heap.size ≤ ((putRowK enc k (Sort.ahead w n) blk off d).heap ++ os).size
    rw [Array.size_append, size_putRowK]
    exact Nat.le_add_right _ _
  · show ((putRowK enc k (Sort.ahead w n) blk off d).heap ++ os)[j]? = _
    rw [Array.getElem?_append_left (by rw [size_putRowK]; exact hj)]
    show ((Sort.ahead w n).heap.modify blk _)[j]? = _
    rw [Array.getElem?_modify, if_neg (fun e => hf e.symm)]
    rfl
end
end Go.Hw

/- What a unification answers: pure. -/
namespace Go.Hw
open Tm
set_option linter.unusedVariables false
set_option linter.unusedSimpArgs false
theorem Mg.congr {X : List Vd} {P Q : Su → Prop} (h : ∀ σ, P σ ↔ Q σ) {θ : Su} (hm : Mg X P θ) : Mg X Q θ := ⟨(h _).1 hm.uni, fun σ hσ => hm.gen σ ((h σ).2 hσ), hm.inX, hm.nop, hm.least⟩
def Eqs (a b : Tm) (σ : Su) : Prop := sbT σ a = sbT σ b
def MixT (X : List Vd) (θ : Su) : Prop := ∃ f ∈ X, ∃ g : Vd, g.2 ≠ nul ∧ θ f.1 f.2 = vr g.1 g.2 ∧ g.2 ≠ f.2
def BigT (X : List Vd) (θ : Su) : Prop := ∃ f ∈ X, 1000 < (θ f.1 f.2).size ∨ 60 < (θ f.1 f.2).depth
def bds (X : List Vd) (θ : Su) : List Bd := X.filterMap fun f => if θ f.1 f.2 = vr f.1 f.2 then none else some (f.1, f.2, θ f.1 f.2)
theorem mem_bds {X : List Vd} {θ : Su} {b : Bd} : b ∈ bds X θ ↔ (b.1, b.2.1) ∈ X ∧ b.2.2 = θ b.1 b.2.1 ∧ θ b.1 b.2.1 ≠ vr b.1 b.2.1 := by
  unfold bds
  rw [List.mem_filterMap]
  constructor
  · rintro ⟨f, hf, h⟩
    split at h
    · cases h
    · rename_i hne
      injection h with h
      subst h
      exact ⟨hf, rfl, hne⟩
  · rintro ⟨h1, h2, h3⟩
    refine ⟨(b.1, b.2.1), h1, ?_⟩
    rw [if_neg h3]
    congr 1
    rw [← h2]
theorem bds_asc {X : List Vd} (hX : AscK (Prod.fst : Vd → By) X) (θ : Su) : AscK (Prod.fst : Bd → By) (bds X θ) := by
  unfold AscK bds at *
  rw [List.pairwise_filterMap]
  refine hX.imp (fun {f g} hfg b hb c hc => ?_)
  split at hb
  · cases hb
  · injection hb with hb
    split at hc
    · cases hc
    · injection hc with hc
      rw [← hb, ← hc]
      exact hfg
def addB (l : List Bd) (b : Bd) : List Bd := match l with
  | [] => [b]
  | c :: l => if blt b.1 c.1 = true then b :: c :: l else c :: addB l b
theorem mem_addB {b x : Bd} : ∀ {l : List Bd}, x ∈ addB l b ↔ x ∈ l ∨ x = b
  | [] => by simp [addB]
  | c :: l => by
    unfold addB
    split
    · simp only [List.mem_cons]
      constructor
      · rintro (h | h | h)
        · exact .inr h
        · exact .inl (.inl h)
        · exact .inl (.inr h)
      · rintro ((h | h) | h)
        · exact .inr (.inl h)
        · exact .inr (.inr h)
        · exact .inl h
    · rw [List.mem_cons, mem_addB, List.mem_cons, or_assoc]
theorem addB_asc {b : Bd} : ∀ {l : List Bd}, AscK (Prod.fst : Bd → By) l → (∀ c ∈ l, c.1 ≠ b.1) → AscK (Prod.fst : Bd → By) (addB l b)
  | [], _, _ => List.pairwise_singleton _ _
  | c :: l, h, hn => by
    obtain ⟨h1, h2⟩ := List.pairwise_cons.1 h
    unfold addB
    split
    · rename_i hb
      refine List.pairwise_cons.2 ⟨fun x hx => ?_, h⟩
      rcases List.mem_cons.1 hx with e | hx
      · rw [e]; exact hb
      · exact blt_trans hb (h1 x hx)
    · rename_i hb
      have hcb : blt c.1 b.1 = true := by
        rcases blt_tri c.1 b.1 (hn c (List.mem_cons_self ..)) with h3 | h3
        · exact h3
        · exact absurd h3 hb
      refine List.pairwise_cons.2 ⟨fun x hx => ?_, addB_asc h2 (fun x hx => hn x (List.mem_cons_of_mem _ hx))⟩
      rcases mem_addB.1 hx with hx | hx
      · exact h1 x hx
      · rw [hx]; exact hcb
end Go.Hw

/- Bindings in memory. -/
namespace Go.Hw
open Go.RowKit Tm
set_option linter.unusedVariables false
set_option linter.unusedSimpArgs false
abbrev bg (l : List Bd) (i : Nat) : Bd := l.getD i (nul, nul, default)
def bCells : List Bd → List Value → List Value
  | [], _ => []
  | b :: l, us => .string b.1 :: .string b.2.1 :: .string b.2.2.name :: .string b.2.2.sort :: us.headD nilS :: bCells l us.tail
theorem bCells_at : ∀ (l : List Bd) (us : List Value) (i : Nat), i < l.length →
    (bCells l us)[i * 5]? = some (.string (bg l i).1) ∧ (bCells l us)[i * 5 + 1]? = some (.string (bg l i).2.1) ∧ (bCells l us)[i * 5 + 2]? = some (.string (bg l i).2.2.name) ∧ (bCells l us)[i * 5 + 3]? = some (.string (bg l i).2.2.sort) ∧ (bCells l us)[i * 5 + 4]? = some (ug us i)
  | b :: l, us, 0, _ => by
    refine ⟨rfl, rfl, rfl, rfl, ?_⟩
    cases us <;> rfl
  | b :: l, us, i + 1, h => by
    obtain ⟨h0, h1, h2, h3, h4⟩ := bCells_at l us.tail i (by simpa using h)
    have e : ∀ k, (bCells (b :: l) us)[(i + 1) * 5 + k]? = (bCells l us.tail)[i * 5 + k]? := fun k => by
      rw [show (i + 1) * 5 + k = i * 5 + k + 1 + 1 + 1 + 1 + 1 by omega]
      rfl
    refine ⟨by rw [← Nat.add_zero ((i + 1) * 5), e]; exact h0, by rw [e]; exact h1, by rw [e]; exact h2, by rw [e]; exact h3, ?_⟩
    rw [e, h4]
    cases us <;> rfl
theorem bg_mem {l : List Bd} {i : Nat} (h : i < l.length) : bg l i ∈ l := by unfold bg; rw [List.getD_eq_getElem?_getD, List.getElem?_eq_getElem h]; exact List.getElem_mem h
theorem bg_take (l : List Bd) (k : Nat) (h : k < l.length) : l.take (k + 1) = l.take k ++ [bg l k] := by
  rw [List.take_add_one]
  congr 1
  unfold bg
  rw [List.getD_eq_getElem?_getD, List.getElem?_eq_getElem h]
  rfl
theorem bg_drop (l : List Bd) (k : Nat) (h : k < l.length) : l.drop k = bg l k :: l.drop (k + 1) := by
  rw [List.drop_eq_getElem_cons h]
  unfold bg
  rw [List.getD_eq_getElem?_getD, List.getElem?_eq_getElem h]
  rfl
def BnR (R S : Nat → Prop) (w : World) (v : Value) (l : List Bd) : Prop := ∃ us, us.length = l.length ∧ SlR R w 5 v l.length (bCells l us) ∧ ∀ i, i < l.length → TlR S w (bg l i).2.2.kids (ug us i)
section
variable {R S T Q F : Nat → Prop} {w w' : World} {l : List Bd} {v : Value}
theorem BnR.nil (R S : Nat → Prop) (w : World) : BnR R S w nilS [] := ⟨[], rfl, SlR.nil _ _ _, fun i h => by cases h⟩
theorem BnR.shape (h : BnR R S w v l) : ∃ a cap, v = .slice a l.length cap := by
  obtain ⟨us, _, h, _⟩ := h
  exact h.shape
theorem BnR.kept (h : BnR R S w v l) (hu : Upd F w w') (hR : ∀ k, R k → ¬ F k) (hS : ∀ k, S k → ¬ F k) : BnR R S w' v l := by
  obtain ⟨us, h1, h2, h3⟩ := h
  exact ⟨us, h1, h2.kept hu hR, fun i hi => (h3 i hi).kept hu hS⟩
theorem BnR.ext (h : BnR R S w v l) (hu : Ext w w') : BnR R S w' v l := h.kept hu (fun _ _ h => h) (fun _ _ h => h)
theorem BnR.weaken (h : BnR R S w v l) (hr : ∀ k, R k → Q k) (hs : ∀ k, S k → T k) : BnR Q T w v l := by
  obtain ⟨us, h1, h2, h3⟩ := h
  exact ⟨us, h1, h2.weaken hr, fun i hi => (h3 i hi).weaken hs⟩
theorem BnR.at_ {a : Option Addr} {n cap : Nat} (h : BnR R S w (.slice a n cap) l) (hl : 0 < l.length) :
    ∃ g off, a = some ⟨g, off, none⟩ ∧ R g ∧ ∀ i, i < l.length → ∃ ka kc, w.cell? ⟨g, off + i * 5, none⟩ = some (.string (bg l i).1) ∧ w.cell? ⟨g, off + i * 5 + 1, none⟩ = some (.string (bg l i).2.1) ∧
      w.cell? ⟨g, off + i * 5 + 2, none⟩ = some (.string (bg l i).2.2.name) ∧ w.cell? ⟨g, off + i * 5 + 3, none⟩ = some (.string (bg l i).2.2.sort) ∧ w.cell? ⟨g, off + i * 5 + 4, none⟩ = some (.slice ka (bg l i).2.2.kids.length kc) ∧ TlR S w (bg l i).2.2.kids (.slice ka (bg l i).2.2.kids.length kc) := by
  obtain ⟨us, hl2, h, hk⟩ := h
  obtain ⟨g, off, cap', e, hc, hS, hj⟩ := h.pos hl
  injection e with e1 e2 e3
  refine ⟨g, off, e1, hS, fun i hi => ?_⟩
  obtain ⟨h0, h1, h2, h3, h4⟩ := bCells_at l us i hi
  obtain ⟨ka, kc, e'⟩ := (hk i hi).shape
  have hk' := hk i hi
  rw [e'] at hk' h4
  exact ⟨ka, kc, by rw [hj _ (by omega), h0], by rw [Nat.add_assoc, hj _ (by omega), h1], by rw [Nat.add_assoc, hj _ (by omega), h2], by rw [Nat.add_assoc, hj _ (by omega), h3], by rw [Nat.add_assoc, hj _ (by omega), h4], hk'⟩
end
end Go.Hw

/- Lists of lists in memory. -/
namespace Go.Hw
open Go.RowKit Tm
set_option linter.unusedVariables false
set_option linter.unusedSimpArgs false
abbrev natV (k : Nat) : Value := .int .i64 (k : Int)
def LlR {β : Type} (enc : β → Value) (S : Nat → Prop) (w : World) (v : Value) (LL : List (List β)) : Prop :=
  ∃ us : List Value, us.length = LL.length ∧ SlR S w 1 v LL.length us ∧ ∀ i, i < LL.length → SlR S w 1 (ug us i) (LL.getD i []).length ((LL.getD i []).map enc)
section
variable {β : Type} {enc : β → Value} {S T F : Nat → Prop} {w w' : World} {v : Value} {LL : List (List β)}
theorem LlR.shape (h : LlR enc S w v LL) : ∃ a cap, v = .slice a LL.length cap := by
  obtain ⟨us, _, h, _⟩ := h
  exact h.shape
theorem LlR.kept (h : LlR enc S w v LL) (hu : Upd F w w') (hF : ∀ k, S k → ¬ F k) : LlR enc S w' v LL := by
  obtain ⟨us, h1, h2, h3⟩ := h
  exact ⟨us, h1, h2.kept hu hF, fun i hi => (h3 i hi).kept hu hF⟩
theorem LlR.ext (h : LlR enc S w v LL) (hu : Ext w w') : LlR enc S w' v LL := h.kept hu (fun _ _ h => h)
theorem LlR.weaken (h : LlR enc S w v LL) (hs : ∀ k, S k → T k) : LlR enc T w v LL := by
  obtain ⟨us, h1, h2, h3⟩ := h
  exact ⟨us, h1, h2.weaken hs, fun i hi => (h3 i hi).weaken hs⟩
theorem LlR.at_ {a : Option Addr} {n cap : Nat} (h : LlR enc S w (.slice a n cap) LL) (hl : 0 < LL.length) :
    ∃ g off, a = some ⟨g, off, none⟩ ∧ S g ∧ ∀ i, i < LL.length → ∃ a' cap', w.cell? ⟨g, off + i, none⟩ = some (.slice a' (LL.getD i []).length cap') ∧ SlR S w 1 (.slice a' (LL.getD i []).length cap') (LL.getD i []).length ((LL.getD i []).map enc) := by
  obtain ⟨us, h1, h2, h3⟩ := h
  obtain ⟨g, off, c, e, _, hS, hj⟩ := h2.pos hl
  injection e with e1 e2 e3
  refine ⟨g, off, e1, hS, fun i hi => ?_⟩
  have h4 := h3 i hi
  obtain ⟨a', cap', e'⟩ := h4.shape
  rw [e'] at h4
  refine ⟨a', cap', ?_, h4⟩
  rw [hj i (by omega), ← e']
  unfold ug
  rw [List.getD_eq_getElem?_getD, List.getElem?_eq_getElem (by omega)]
  rfl
end
theorem ng_map1 (N : List Nt) (i : Nat) (h : i < N.length) : tg (N.map (·.1)) i = (ng N i).1 := by
  unfold tg ng
  rw [List.getD_eq_getElem?_getD, List.getD_eq_getElem?_getD, List.getElem?_map, List.getElem?_eq_getElem h]
  rfl
theorem ng_map2 (N : List Nt) (i : Nat) (h : i < N.length) : (N.map (·.2)).getD i [] = (ng N i).2 := by
  unfold ng
  rw [List.getD_eq_getElem?_getD, List.getD_eq_getElem?_getD, List.getElem?_map, List.getElem?_eq_getElem h]
  rfl
theorem Num.len {N : List Nt} (h : Num N) {i : Nat} (hi : i < N.length) : (ng N i).2.length = (ng N i).1.kids.length := by rw [← h.map i hi, List.length_map]
end Go.Hw

/- Terms in memory of one's own: no block stands twice in one. What a store at a path leaves. -/
namespace Go.Hw
open Go.RowKit Tm
set_option linter.unusedVariables false
set_option linter.unusedSimpArgs false
inductive TlO (te : TypeId) (w : World) : (Nat → Prop) → List Tm → Value → Prop
  | mk (B : Nat → Prop) (L : List Tm) (us : List Value) (v : Value) (Bk : Nat → Nat → Prop)
      (hl : us.length = L.length) (hown : w.ownsRow 0 te 3 v L.length (tCells L us))
      (hb : ∀ k, v.ownBlock = some k → B k) (hkb : ∀ i k, i < L.length → Bk i k → B k)
      (hrow : ∀ i k, i < L.length → Bk i k → v.ownBlock ≠ some k)
      (hdis : ∀ i j k, i < L.length → j < L.length → i ≠ j → Bk i k → ¬ Bk j k)
      (hk : ∀ i, i < L.length → TlO te w (Bk i) (tg L i).kids (ug us i)) : TlO te w B L v
section
variable {te : TypeId} {w w' : World} {B B' F S : Nat → Prop} {L : List Tm} {v : Value}
theorem TlO.nil (te : TypeId) (w : World) (B : Nat → Prop) : TlO te w B [] nilS :=
  ⟨B, [], [], nilS, fun _ _ => False, rfl, ⟨rfl, .inl ⟨rfl, rfl⟩⟩, fun k h => by simp [Value.ownBlock] at h, fun i k h => absurd h (Nat.not_lt_zero _), fun i k h => absurd h (Nat.not_lt_zero _), fun i j k h => absurd h (Nat.not_lt_zero _), fun i h => absurd h (Nat.not_lt_zero _)⟩
theorem TlO.weaken (h : TlO te w B L v) (hB : ∀ k, B k → B' k) : TlO te w B' L v := by
  cases h with
  | mk _ _ us _ Bk hl hown hb hkb hrow hdis hk => exact ⟨B', L, us, v, Bk, hl, hown, fun k h => hB k (hb k h), fun i k hi h => hB k (hkb i k hi h), hrow, hdis, hk⟩
theorem TlO.kept (h : TlO te w B L v) (hu : Upd F w w') (hF : ∀ k, B k → ¬ F k) : TlO te w' B L v := by
  induction h with
  | mk B L us v Bk hl hown hb hkb hrow hdis hk ih =>
    exact ⟨B, L, us, v, Bk, hl, own_kept hown hu (fun k hk => hF k (hb k hk)), hb, hkb, hrow, hdis, fun i hi => ih i hi (fun k hk2 => hF k (hkb i k hi hk2))⟩
theorem TlO.read (h : TlO te w B L v) : TlR B w L v := by
  induction h with
  | mk B L us v Bk hl hown hb hkb hrow hdis hk ih =>
    exact .mk L us v hl ((SlR.of_own hown).weaken hb) (fun i hi => (ih i hi).weaken (fun k hk2 => hkb i k hi hk2))
end
def AdrP (w : World) : List Nat → Nat × Nat → Nat × Nat → Prop
  | [], a, a' => a' = a
  | i :: p, a, a' => ∃ g off n c, w.cell? ⟨a.1, a.2 + 2, none⟩ = some (.slice (some ⟨g, off, none⟩) n c) ∧ AdrP w p (g, off + i * 3) a'
def st3 (w : World) (a : Nat × Nat) (n s : By) (u : Value) : World := ((w.setCell ⟨a.1, a.2, none⟩ (.string n)).setCell ⟨a.1, a.2 + 1, none⟩ (.string s)).setCell ⟨a.1, a.2 + 2, none⟩ u
end Go.Hw

/- Pairs of numbers as keys of a map. -/
namespace Go.Hw
open Go.RowKit
set_option linter.unusedVariables false
set_option linter.unusedSimpArgs false
abbrev pairV (p : Nat × Nat) : Value := .agg #[natV p.1, natV p.2]
section
variable {P : Program} {kt et : TypeId} {i : TypeInfo}
end
end Go.Hw

/- The order in memory: numbered nodes, and the maps of names, keys and answers. -/
namespace Go.Hw
open Go.RowKit Tm
set_option linter.unusedVariables false
set_option linter.unusedSimpArgs false
abbrev strV (s : By) : Value := .string s
abbrev keyN (x : Nt) : By := keyK x.1.name x.1.sort x.2
def nCells : List Nt → List Value → List Value
  | [], _ => []
  | x :: N, us => .string x.1.name :: .bool (!decide (x.1.sort = nul)) :: us.headD nilS :: nCells N us.tail
theorem nCells_at : ∀ (N : List Nt) (us : List Value) (i : Nat), i < N.length →
    (nCells N us)[i * 3]? = some (.string (ng N i).1.name) ∧ (nCells N us)[i * 3 + 1]? = some (.bool (!decide ((ng N i).1.sort = nul))) ∧ (nCells N us)[i * 3 + 2]? = some (ug us i)
  | x :: N, us, 0, _ => by
    refine ⟨rfl, rfl, ?_⟩
    cases us <;> rfl
  | x :: N, us, i + 1, h => by
    obtain ⟨h0, h1, h2⟩ := nCells_at N us.tail i (by simpa using h)
    have e : ∀ k, (nCells (x :: N) us)[(i + 1) * 3 + k]? = (nCells N us.tail)[i * 3 + k]? := fun k => by
      rw [show (i + 1) * 3 + k = i * 3 + k + 1 + 1 + 1 by omega]
      rfl
    refine ⟨by rw [← Nat.add_zero ((i + 1) * 3), e]; exact h0, by rw [e]; exact h1, ?_⟩
    rw [e, h2]
    cases us <;> rfl
theorem nCells_snoc : ∀ (N : List Nt) (us : List Value) (x : Nt) (u : Value), us.length = N.length → nCells (N ++ [x]) (us ++ [u]) = nCells N us ++ [.string x.1.name, .bool (!decide (x.1.sort = nul)), u]
  | [], [], x, u, _ => rfl
  | a :: N, b :: us, x, u, h => by
    have := nCells_snoc N us x u (by simpa using h)
    simp only [List.cons_append, nCells, List.headD_cons, List.tail_cons, this]
structure OrdX (tn to : TypeId) (ops : List By) (R B : Nat → Prop) (base : Nat) (w : World) (b : Nat) (N : List Nt) (nv : Value) (br bk bd : Nat) (us : List Value) (G : Nat → Prop) (rl kl : List (By × Value)) (dl : List ((Nat × Nat) × Value)) : Prop where
  box : w.heap[b]? = some (.cells #[.map (some br), nv, .map (some bk), .map (some bd)] to (0, 0))
  rank : MpR strV w br rl
  ranks : ∀ s ∈ ops, afind rl s = some (natV (ixF ops s))
  len : us.length = N.length
  own : w.ownsRow base tn 3 nv N.length (nCells N us)
  kid : ∀ i, i < N.length → SlR G w 1 (ug us i) (ng N i).2.length ((ng N i).2.map natV)
  gs : ∀ k, G k → base ≤ k ∧ k < w.heap.size ∧ ¬ B k ∧ ¬ R k
  known : MpR strV w bk kl
  key : ∀ k v, afind kl k = some v ↔ ∃ i, i < N.length ∧ k = keyN (ng N i) ∧ v = natV i
  done : MpR pairV w bd dl
  ans : ∀ p v, afind dl p = some v → p.1 < N.length ∧ p.2 < N.length ∧ v = .bool (gt (ixF ops) (ng N p.1).1 (ng N p.2).1)
  num : Num N
  uniq : Uniq N
  ncs : ∀ i, i < N.length → NoCS (ng N i).1.name ∧ NoCS (ng N i).1.sort
  nin : ∀ i, i < N.length → (ng N i).1.sort = nul → (ng N i).1.name ∈ ops
  kb : ∀ i, i < N.length → (ng N i).2.length ≤ 1000000
  bb : B b ∧ B br ∧ B bk ∧ B bd
  bn : ∀ k, nv.ownBlock = some k → B k
  dis : b ≠ br ∧ b ≠ bk ∧ b ≠ bd ∧ br ≠ bk ∧ br ≠ bd ∧ bk ≠ bd
  dn : nv.ownBlock ≠ some b ∧ nv.ownBlock ≠ some br ∧ nv.ownBlock ≠ some bk ∧ nv.ownBlock ≠ some bd
  lt : ∀ k, B k → base ≤ k ∧ k < w.heap.size ∧ ¬ R k
def OrdR (tn to : TypeId) (ops : List By) (R B : Nat → Prop) (base : Nat) (w : World) (b : Nat) (N : List Nt) : Prop := ∃ nv br bk bd us G rl kl dl, OrdX tn to ops R B base w b N nv br bk bd us G rl kl dl
section
variable {tn to : TypeId} {ops : List By} {R R' B F : Nat → Prop} {base b : Nat} {w w' : World} {N : List Nt} {nv nv' : Value} {br bk bd : Nat} {us : List Value} {G : Nat → Prop} {rl kl : List (By × Value)} {dl : List ((Nat × Nat) × Value)}
theorem OrdX.upd (h : OrdX tn to ops R B base w b N nv br bk bd us G rl kl dl) (hu : Upd F w w') (hF : ∀ k, F k → R k) : OrdX tn to ops R B base w' b N nv br bk bd us G rl kl dl := by
  have hB : ∀ k, B k → ¬ F k := fun k hk hf => (h.lt k hk).2.2 (hF k hf)
  exact ⟨hu.heap h.box (hB _ h.bb.1), h.rank.kept hu (hB _ h.bb.2.1), h.ranks, h.len, own_kept h.own hu (fun k hk => hB _ (h.bn k hk)), fun i hi => (h.kid i hi).kept hu (fun k hk hf => (h.gs k hk).2.2.2 (hF k hf)),
    fun k hk => ⟨(h.gs k hk).1, Nat.lt_of_lt_of_le (h.gs k hk).2.1 hu.size, (h.gs k hk).2.2⟩, h.known.kept hu (hB _ h.bb.2.2.1), h.key, h.done.kept hu (hB _ h.bb.2.2.2), h.ans, h.num, h.uniq, h.ncs, h.nin, h.kb, h.bb, h.bn, h.dis, h.dn,
    fun k hk => ⟨(h.lt k hk).1, Nat.lt_of_lt_of_le (h.lt k hk).2.1 hu.size, (h.lt k hk).2.2⟩⟩
theorem OrdR.upd (h : OrdR tn to ops R B base w b N) (hu : Upd F w w') (hF : ∀ k, F k → R k) : OrdR tn to ops R B base w' b N := by
  obtain ⟨nv, br, bk, bd, us, G, rl, kl, dl, h⟩ := h
  exact ⟨nv, br, bk, bd, us, G, rl, kl, dl, h.upd hu hF⟩
theorem OrdX.ext (h : OrdX tn to ops R B base w b N nv br bk bd us G rl kl dl) (hu : Ext w w') : OrdX tn to ops R B base w' b N nv br bk bd us G rl kl dl := h.upd hu (fun _ hf => hf.elim)
theorem OrdR.ext (h : OrdR tn to ops R B base w b N) (hu : Ext w w') : OrdR tn to ops R B base w' b N := h.upd hu (fun _ hf => hf.elim)
theorem OrdX.reserve (h : OrdX tn to ops R B base w b N nv br bk bd us G rl kl dl) : OrdX tn to ops (fun k => R k ∨ w.heap.size ≤ k) B base w b N nv br bk bd us G rl kl dl :=
  ⟨h.box, h.rank, h.ranks, h.len, h.own, h.kid, fun k hk => ⟨(h.gs k hk).1, (h.gs k hk).2.1, (h.gs k hk).2.2.1, fun hr => hr.elim (h.gs k hk).2.2.2 (fun hr => by have := (h.gs k hk).2.1; omega)⟩, h.known, h.key, h.done, h.ans, h.num, h.uniq, h.ncs, h.nin, h.kb, h.bb, h.bn, h.dis, h.dn,
    fun k hk => ⟨(h.lt k hk).1, (h.lt k hk).2.1, fun hr => hr.elim (h.lt k hk).2.2 (fun hr => by have := (h.lt k hk).2.1; omega)⟩⟩
theorem OrdX.weaken (h : OrdX tn to ops R B base w b N nv br bk bd us G rl kl dl) (hr : ∀ k, R' k → R k) : OrdX tn to ops R' B base w b N nv br bk bd us G rl kl dl :=
  ⟨h.box, h.rank, h.ranks, h.len, h.own, h.kid, fun k hk => ⟨(h.gs k hk).1, (h.gs k hk).2.1, (h.gs k hk).2.2.1, fun hx => (h.gs k hk).2.2.2 (hr k hx)⟩, h.known, h.key, h.done, h.ans, h.num, h.uniq, h.ncs, h.nin, h.kb, h.bb, h.bn, h.dis, h.dn,
    fun k hk => ⟨(h.lt k hk).1, (h.lt k hk).2.1, fun hx => (h.lt k hk).2.2 (hr k hx)⟩⟩
theorem OrdR.reserve (h : OrdR tn to ops R B base w b N) : OrdR tn to ops (fun k => R k ∨ w.heap.size ≤ k) B base w b N := by
  obtain ⟨nv, br, bk, bd, us, G, rl, kl, dl, h⟩ := h
  exact ⟨nv, br, bk, bd, us, G, rl, kl, dl, h.reserve⟩
theorem OrdR.weaken (h : OrdR tn to ops R B base w b N) (hr : ∀ k, R' k → R k) : OrdR tn to ops R' B base w b N := by
  obtain ⟨nv, br, bk, bd, us, G, rl, kl, dl, h⟩ := h
  exact ⟨nv, br, bk, bd, us, G, rl, kl, dl, h.weaken hr⟩
theorem OrdX.put (h : OrdX tn to ops R B base w b N nv br bk bd us G rl kl dl) {i j : Nat} (hi : i < N.length) (hj : j < N.length) {v : Value} (hv : v = .bool (gt (ixF ops) (ng N i).1 (ng N j).1)) (hu : Upd (fun k => k = bd) w w') (hm : MpR pairV w' bd (aput dl (i, j) v)) :
    OrdX tn to ops R B base w' b N nv br bk bd us G rl kl (aput dl (i, j) v) := by
  refine ⟨hu.heap h.box h.dis.2.2.1, h.rank.kept hu h.dis.2.2.2.2.1, h.ranks, h.len, own_kept h.own hu (fun k hk e => h.dn.2.2.2 (by rw [hk, e])), fun i hi => (h.kid i hi).kept hu (fun k hk e => (h.gs k hk).2.2.1 (by rw [e]; exact h.bb.2.2.2)),
    fun k hk => ⟨(h.gs k hk).1, Nat.lt_of_lt_of_le (h.gs k hk).2.1 hu.size, (h.gs k hk).2.2⟩, h.known.kept hu h.dis.2.2.2.2.2, h.key, hm, fun p u hp => ?_, h.num, h.uniq, h.ncs, h.nin, h.kb, h.bb, h.bn, h.dis, h.dn,
    fun k hk => ⟨(h.lt k hk).1, Nat.lt_of_lt_of_le (h.lt k hk).2.1 hu.size, (h.lt k hk).2.2⟩⟩
  rw [afind_put] at hp
  split at hp
  · rename_i e
    injection hp with hp
    subst e
    exact ⟨hi, hj, by rw [← hp, hv]⟩
  · exact h.ans p u hp
theorem OrdX.fresh (h : OrdX tn to ops R B base w b N nv br bk bd us G rl kl dl) {t : Tm} {ks : List Nat} (hl : ∀ k ∈ ks, k < N.length) (hm : ks.map (fun k => (ng N k).1) = t.kids) (hf : afind kl (keyN (t, ks)) = none) : ∀ i, i < N.length → (ng N i).1 ≠ t := by
  intro i hi e
  have h1 : (ng N i).2 = ks := by
    have h2 : (ng N i).2.map (fun k => (ng N k).1) = ks.map (fun k => (ng N k).1) := by rw [h.num.map i hi, e, hm]
    have hkl := h.num.kid i hi
    generalize (ng N i).2 = js at *
    refine List.ext_getElem (by have := congrArg List.length h2; simpa using this) (fun j h3 h4 => ?_)
    have h5 : (js.map (fun k => (ng N k).1))[j]'(by simpa using h3) = (ks.map (fun k => (ng N k).1))[j]'(by simpa using h4) := by simp only [h2]
    rw [List.getElem_map, List.getElem_map] at h5
    exact h.uniq _ _ (by have := hkl _ (List.getElem_mem h3); omega) (hl _ (List.getElem_mem h4)) h5
  have h2 := (h.key (keyN (t, ks)) (natV i)).2 ⟨i, hi, by unfold keyN; rw [e, h1], rfl⟩
  rw [hf] at h2
  cases h2
theorem OrdX.push (h : OrdX tn to ops R B base w b N nv br bk bd us G rl kl dl) {t : Tm} {ks : List Nat} {u : Value} {V R0 : Nat → Prop} (hl : ∀ k ∈ ks, k < N.length) (hm : ks.map (fun k => (ng N k).1) = t.kids) (hf : afind kl (keyN (t, ks)) = none)
    (hn : NoCS t.name ∧ NoCS t.sort) (hin : t.sort = nul → t.name ∈ ops) (hkb : ks.length ≤ 1000000)
    (hw : Upd (fun k => B k ∨ R k ∧ base ≤ k ∧ ¬ V k) w w') (hbox : w'.heap[b]? = some (.cells #[.map (some br), nv', .map (some bk), .map (some bd)] to (0, 0)))
    (hrank : MpR strV w' br rl) (hdone : MpR pairV w' bd dl) (hknown : MpR strV w' bk (aput kl (keyN (t, ks)) (natV N.length)))
    (hown : w'.ownsRow base tn 3 nv' (N.length + 1) (nCells N us ++ [.string t.name, .bool (!decide (t.sort = nul)), u])) (hbn : ∀ k, nv'.ownBlock = some k → nv.ownBlock = some k ∨ w.heap.size ≤ k ∧ k < w'.heap.size)
    (hb : base ≤ w.heap.size) (hv : SlR V w 1 u ks.length (ks.map natV)) (hV : ∀ k, V k → R k ∧ base ≤ k ∧ k < w.heap.size) (hR0 : ∀ k, R0 k → R k ∧ k < w.heap.size ∧ ¬ V k) :
    OrdX tn to ops R0 (fun k => B k ∨ w.heap.size ≤ k ∧ nv'.ownBlock = some k) base w' b (N ++ [(t, ks)]) nv' br bk bd (us ++ [u]) (fun k => G k ∨ V k) rl (aput kl (keyN (t, ks)) (natV N.length)) dl := by
  have hlen : (N ++ [(t, ks)]).length = N.length + 1 := by simp
  have hne : ∀ i, i < (N ++ [(t, ks)]).length → i < N.length ∨ i = N.length := fun i hi => by rw [hlen] at hi; omega
  have hul : ∀ {i : Nat}, i < us.length → ug (us ++ [u]) i = ug us i := fun {i} hi => by
    unfold ug
    rw [List.getD_eq_getElem?_getD, List.getD_eq_getElem?_getD, List.getElem?_append_left hi]
  have hue : ug (us ++ [u]) us.length = u := by
    unfold ug
    rw [List.getD_eq_getElem?_getD, List.getElem?_concat_length]
    rfl
  have hlt : ∀ k, B k → k < w.heap.size := fun k hk => (h.lt k hk).2.1
  have hbl := h.bb
  refine ⟨hbox, hrank, h.ranks, by simp [h.len], ?_, fun i hi => ?_, fun k hk => ?_, hknown, fun k v => ?_, hdone, fun p v hp => ?_, h.num.snoc t ks hl hm, h.uniq.snoc t ks (h.fresh hl hm hf), fun i hi => ?_, fun i hi hs => ?_, fun i hi => ?_, ⟨.inl hbl.1, .inl hbl.2.1, .inl hbl.2.2.1, .inl hbl.2.2.2⟩, fun k hk => ?_, h.dis, ?_, fun k hk => ?_⟩
  · rw [hlen, nCells_snoc N us (t, ks) u h.len]
    exact hown
  · rcases hne i hi with hi | rfl
    · rw [ng_left _ hi, hul (by rw [h.len]; exact hi)]
      exact ((h.kid i hi).kept hw (fun k hk hx => by
        rcases hx with hx | hx
        · exact (h.gs k hk).2.2.1 hx
        · exact (h.gs k hk).2.2.2 hx.1)).weaken (fun k hk => .inl hk)
    · rw [ng_last, ← h.len, hue]
      exact (hv.kept hw (fun k hk hx => by
        rcases hx with hx | hx
        · exact (h.lt k hx).2.2 (hV k hk).1
        · exact hx.2.2 hk)).weaken (fun k hk => .inr hk)
  · have hlt2 : base ≤ k ∧ k < w.heap.size ∧ ¬ B k ∧ (R k → V k) := by
      rcases hk with hk | hk
      · exact ⟨(h.gs k hk).1, (h.gs k hk).2.1, (h.gs k hk).2.2.1, fun hr => absurd hr (h.gs k hk).2.2.2⟩
      · exact ⟨(hV k hk).2.1, (hV k hk).2.2, fun hx => (h.lt k hx).2.2 (hV k hk).1, fun _ => hk⟩
    refine ⟨hlt2.1, Nat.lt_of_lt_of_le hlt2.2.1 hw.size, fun hx => ?_, fun hx => (hR0 k hx).2.2 (hlt2.2.2.2 (hR0 k hx).1)⟩
    rcases hx with hx | hx
    · exact hlt2.2.2.1 hx
    · omega
  · rw [afind_put]
    split
    · rename_i e
      subst e
      constructor
      · intro e
        injection e with e
        exact ⟨N.length, by rw [hlen]; omega, by rw [ng_last], e.symm⟩
      · rintro ⟨i, hi, e1, e2⟩
        rcases hne i hi with hi | rfl
        · rw [ng_left _ hi] at e1
          have h9 := (h.key _ (natV i)).2 ⟨i, hi, e1, rfl⟩
          rw [hf] at h9
          cases h9
        · rw [e2]
    · rename_i e
      rw [h.key]
      constructor
      · rintro ⟨i, hi, e1, e2⟩
        exact ⟨i, by rw [hlen]; omega, by rw [ng_left _ hi]; exact e1, e2⟩
      · rintro ⟨i, hi, e1, e2⟩
        rcases hne i hi with hi | rfl
        · exact ⟨i, hi, by rw [ng_left _ hi] at e1; exact e1, e2⟩
        · rw [ng_last] at e1
          exact absurd e1 e
  · obtain ⟨h1, h2, h3⟩ := h.ans p v hp
    exact ⟨by rw [hlen]; omega, by rw [hlen]; omega, by rw [ng_left _ h1, ng_left _ h2]; exact h3⟩
  · rcases hne i hi with hi | rfl
    · rw [ng_left _ hi]; exact h.ncs i hi
    · rw [ng_last]; exact hn
  · rcases hne i hi with hi | rfl
    · rw [ng_left _ hi] at hs ⊢; exact h.nin i hi hs
    · rw [ng_last] at hs ⊢; exact hin hs
  · rcases hne i hi with hi | rfl
    · rw [ng_left _ hi]; exact h.kb i hi
    · rw [ng_last]; exact hkb
  · rcases hbn k hk with h8 | h8
    · exact .inl (h.bn k h8)
    · exact .inr ⟨h8.1, hk⟩
  · have hx : ∀ c, B c → nv.ownBlock ≠ some c → nv'.ownBlock ≠ some c := fun c hc h1 e => by
      rcases hbn c e with h8 | h8
      · exact h1 h8
      · have := hlt c hc; omega
    exact ⟨hx _ hbl.1 h.dn.1, hx _ hbl.2.1 h.dn.2.1, hx _ hbl.2.2.1 h.dn.2.2.1, hx _ hbl.2.2.2 h.dn.2.2.2⟩
  · rcases hk with hk | ⟨hk, hk2⟩
    · exact ⟨(h.lt k hk).1, Nat.lt_of_lt_of_le (h.lt k hk).2.1 hw.size, fun hx => (h.lt k hk).2.2 (hR0 k hx).1⟩
    · refine ⟨by omega, ?_, fun hx => by have := (hR0 k hx).2.1; omega⟩
      rcases hbn k hk2 with h8 | h8
      · have := hlt k (h.bn k h8); omega
      · exact h8.2
theorem OrdX.at_ (h : OrdX tn to ops R B base w b N nv br bk bd us G rl kl dl) (hN : 0 < N.length) : ∃ g cap, nv = .slice (some ⟨g, 0, none⟩) N.length cap ∧ g ≠ bd ∧ B g ∧ ∀ i, i < N.length → ∃ a c,
    w.cell? ⟨g, 0 + i * 3, none⟩ = some (.string (ng N i).1.name) ∧ w.cell? ⟨g, 0 + (i * 3 + 1), none⟩ = some (.bool (!decide ((ng N i).1.sort = nul))) ∧ w.cell? ⟨g, 0 + (i * 3 + 2), none⟩ = some (.slice a (ng N i).2.length c) ∧ SlR G w 1 (.slice a (ng N i).2.length c) (ng N i).2.length ((ng N i).2.map natV) := by
  obtain ⟨g, cap, rfl⟩ := own_some h.own hN
  have hs := SlR.of_own h.own
  obtain ⟨g', off, c, e, _, hS, hj⟩ := hs.pos hN
  injection e with e1 e2 e3
  injection e1 with e1
  injection e1 with e1 e4
  subst e1; subst e4
  refine ⟨g, cap, rfl, fun e => h.dn.2.2.2 (by rw [← e]; rfl), h.bn g rfl, fun i hi => ?_⟩
  obtain ⟨h0, h1, h2⟩ := nCells_at N us i hi
  have hk := h.kid i hi
  obtain ⟨a, c', e'⟩ := hk.shape
  rw [e'] at hk h2
  exact ⟨a, c', by rw [hj _ (by omega), h0], by rw [hj _ (by omega), h1], by rw [hj _ (by omega), h2], hk⟩
end
end Go.Hw

/- The order by numbers: what its parts ask. -/
namespace Go.Hw
open Go.RowKit Tm
set_option linter.unusedVariables false
set_option linter.unusedSimpArgs false
theorem OrdX.new {tn to : TypeId} {ops : List By} {base b br bk bd : Nat} {w : World} {rl : List (By × Value)} (R : Nat → Prop) (hb : w.heap[b]? = some (.cells #[.map (some br), nilS, .map (some bk), .map (some bd)] to (0, 0))) (hr : MpR strV w br rl) (hrs : ∀ s ∈ ops, afind rl s = some (natV (ixF ops s)))
    (hk : MpR strV w bk []) (hd : MpR pairV w bd []) (h1 : base ≤ b ∧ base ≤ br ∧ base ≤ bk ∧ base ≤ bd) (h2 : b ≠ br ∧ b ≠ bk ∧ b ≠ bd ∧ br ≠ bk ∧ br ≠ bd ∧ bk ≠ bd) (h3 : ¬ R b ∧ ¬ R br ∧ ¬ R bk ∧ ¬ R bd) :
    OrdX tn to ops R (fun k => k = b ∨ k = br ∨ k = bk ∨ k = bd) base w b [] nilS br bk bd [] (fun _ => False) rl [] [] := by
  refine ⟨hb, hr, hrs, rfl, ⟨rfl, .inl ⟨rfl, rfl⟩⟩, fun i hi => absurd hi (Nat.not_lt_zero _), fun k hk => hk.elim, hk, fun k v => ⟨fun h => by simp [afind] at h, fun ⟨i, hi, _⟩ => absurd hi (Nat.not_lt_zero _)⟩, hd, fun p v h => by simp [afind] at h, Num.nil, Uniq.nil, fun i hi => absurd hi (Nat.not_lt_zero _), fun i hi => absurd hi (Nat.not_lt_zero _), fun i hi => absurd hi (Nat.not_lt_zero _),
    ⟨.inl rfl, .inr (.inl rfl), .inr (.inr (.inl rfl)), .inr (.inr (.inr rfl))⟩, fun k hk => by simp [Value.ownBlock] at hk, h2, ⟨by simp [Value.ownBlock], by simp [Value.ownBlock], by simp [Value.ownBlock], by simp [Value.ownBlock]⟩, fun k hx => ?_⟩
  have hb' := (Array.getElem?_eq_some_iff.1 hb).1
  have hr' := hr.lt
  have hk' := hk.lt
  have hd' := hd.lt
  rcases hx with rfl | rfl | rfl | rfl
  · exact ⟨h1.1, hb', h3.1⟩
  · exact ⟨h1.2.1, hr', h3.2.1⟩
  · exact ⟨h1.2.2.1, hk', h3.2.2.1⟩
  · exact ⟨h1.2.2.2, hd', h3.2.2.2⟩
end Go.Hw

/- Insertion into a row of one's own: what the cells become. -/
namespace Go.Hw
open Go.RowKit
set_option linter.unusedVariables false
set_option linter.unusedSimpArgs false
end Go.Hw

/- Rules in memory: as lists of their terms. -/
namespace Go.Hw
open Go.RowKit Tm
set_option linter.unusedVariables false
set_option linter.unusedSimpArgs false
abbrev rg (L : List Rl) (i : Nat) : Rl := L.getD i (default, default)
def flR (L : List Rl) : List Tm := L.flatMap fun r => [r.1, r.2]
theorem flR_len (L : List Rl) : (flR L).length = 2 * L.length := by
  induction L with
  | nil => rfl
  | cons a L ih => unfold flR at ih ⊢; rw [List.flatMap_cons, List.length_append, ih]; simp; omega
theorem flR_at : ∀ (L : List Rl) (i : Nat), i < L.length → tg (flR L) (2 * i) = (rg L i).1 ∧ tg (flR L) (2 * i + 1) = (rg L i).2
  | r :: L, 0, _ => ⟨rfl, rfl⟩
  | r :: L, i + 1, h => by
    have ih := flR_at L i (by simpa using h)
    have e : flR (r :: L) = r.1 :: r.2 :: flR L := rfl
    rw [e, show 2 * (i + 1) = 2 * i + 1 + 1 by omega]
    exact ih
def RuR (S : Nat → Prop) (w : World) (L : List Rl) (v : Value) : Prop := ∃ a cap, v = .slice a L.length cap ∧ TlR S w (flR L) (.slice a (2 * L.length) (2 * cap))
section
variable {S T F : Nat → Prop} {w w' : World} {L : List Rl} {v : Value}
theorem RuR.shape (h : RuR S w L v) : ∃ a cap, v = .slice a L.length cap := by
  obtain ⟨a, cap, e, _⟩ := h
  exact ⟨a, cap, e⟩
theorem RuR.kept (h : RuR S w L v) (hu : Upd F w w') (hF : ∀ k, S k → ¬ F k) : RuR S w' L v := by
  obtain ⟨a, cap, e, h⟩ := h
  exact ⟨a, cap, e, h.kept hu hF⟩
theorem RuR.ext (h : RuR S w L v) (hu : Ext w w') : RuR S w' L v := h.kept hu (fun _ _ h => h)
theorem RuR.weaken (h : RuR S w L v) (hs : ∀ k, S k → T k) : RuR T w L v := by
  obtain ⟨a, cap, e, h⟩ := h
  exact ⟨a, cap, e, h.weaken hs⟩
theorem RuR.at_ {a : Option Addr} {n cap : Nat} (h : RuR S w L (.slice a n cap)) (hL : 0 < L.length) :
    ∃ g off, a = some ⟨g, off, none⟩ ∧ S g ∧ ∀ i, i < L.length → ∃ xa xc ya yc, w.cell? ⟨g, off + i * 6, none⟩ = some (.string (rg L i).1.name) ∧ w.cell? ⟨g, off + i * 6 + 1, none⟩ = some (.string (rg L i).1.sort) ∧ w.cell? ⟨g, off + i * 6 + 2, none⟩ = some (.slice xa (rg L i).1.kids.length xc) ∧
      w.cell? ⟨g, off + i * 6 + 3, none⟩ = some (.string (rg L i).2.name) ∧ w.cell? ⟨g, off + i * 6 + 4, none⟩ = some (.string (rg L i).2.sort) ∧ w.cell? ⟨g, off + i * 6 + 5, none⟩ = some (.slice ya (rg L i).2.kids.length yc) ∧
      TlR S w (rg L i).1.kids (.slice xa (rg L i).1.kids.length xc) ∧ TlR S w (rg L i).2.kids (.slice ya (rg L i).2.kids.length yc) := by
  obtain ⟨a', cap', e, h⟩ := h
  injection e with e1 e2 e3
  subst e1
  have hf := flR_len L
  obtain ⟨g, off, e, hS, hat⟩ := h.at_ (by omega)
  refine ⟨g, off, e, hS, fun i hi => ?_⟩
  obtain ⟨f1, f2⟩ := flR_at L i hi
  obtain ⟨xa, xc, h0, h1, h2, h3⟩ := hat (2 * i) (by omega)
  obtain ⟨ya, yc, k0, k1, k2, k3⟩ := hat (2 * i + 1) (by omega)
  rw [f1] at h0 h1 h2 h3
  rw [f2] at k0 k1 k2 k3
  refine ⟨xa, xc, ya, yc, ?_, ?_, ?_, ?_, ?_, ?_, h3, k3⟩
  · rw [show off + i * 6 = off + 2 * i * 3 by omega]; exact h0
  · rw [show off + i * 6 + 1 = off + (2 * i * 3 + 1) by omega]; exact h1
  · rw [show off + i * 6 + 2 = off + (2 * i * 3 + 2) by omega]; exact h2
  · rw [show off + i * 6 + 3 = off + (2 * i + 1) * 3 by omega]; exact k0
  · rw [show off + i * 6 + 4 = off + ((2 * i + 1) * 3 + 1) by omega]; exact k1
  · rw [show off + i * 6 + 5 = off + ((2 * i + 1) * 3 + 2) by omega]; exact k2
end
end Go.Hw
