/- The texts TQ TZ TG I70 I71 I72 I73, one behind the other. -/
import Derived.Test.YtiimccogojkldaaGreatDoorZB
import Derived.Test.YtiimccogojkldaaGreatDoorZA
import Derived.Test.YtiimccogojkldaaGreatDoorZE
import Derived.Deep.RegionHeld3
import Derived.Test.YtiimccogojkldaaGreatDoorZC
import Derived.Deep.DeepCutAuto
/- Terms in memory of one's own: no block stands twice in one. What a store at a path leaves. -/
namespace Go.Hw
open Go.RowKit Tm
set_option linter.unusedVariables false
set_option linter.unusedSimpArgs false
/-- a list of terms in blocks of its own -/
inductive TlO (te : TypeId) (w : World) : (Nat → Prop) → List Tm → Value → Prop
  | mk (B : Nat → Prop) (L : List Tm) (us : List Value) (v : Value) (Bk : Nat → Nat → Prop)
      (hl : us.length = L.length) (hown : w.ownsRow 0 te 3 v L.length (tCells L us))
      (hb : ∀ k, v.ownBlock = some k → B k) (hkb : ∀ i k, i < L.length → Bk i k → B k)
      (hrow : ∀ i k, i < L.length → Bk i k → v.ownBlock ≠ some k)
      (hdis : ∀ i j k, i < L.length → j < L.length → i ≠ j → Bk i k → ¬ Bk j k)
      (hk : ∀ i, i < L.length → TlO te w (Bk i) (tg L i).kids (ug us i)) : TlO te w B L v
section
variable {te : TypeId} {w w' : World} {B B' F S : Nat → Prop} {L : List Tm} {v : Value}
theorem TlO.nil (te : TypeId) (w : World) (B : Nat → Prop) : TlO te w B [] nilS :=
  ⟨B, [], [], nilS, fun _ _ => False, rfl, ⟨rfl, .inl ⟨rfl, rfl⟩⟩, fun k h => by simp [Value.ownBlock] at h, fun i k h => absurd h (Nat.not_lt_zero _), fun i k h => absurd h (Nat.not_lt_zero _), fun i j k h => absurd h (Nat.not_lt_zero _), fun i h => absurd h (Nat.not_lt_zero _)⟩
theorem TlO.weaken (h : TlO te w B L v) (hB : ∀ k, B k → B' k) : TlO te w B' L v := by
  cases h with
  | mk _ _ us _ Bk hl hown hb hkb hrow hdis hk => exact ⟨B', L, us, v, Bk, hl, hown, fun k h => hB k (hb k h), fun i k hi h => hB k (hkb i k hi h), hrow, hdis, hk⟩
theorem TlO.kept (h : TlO te w B L v) (hu : Upd F w w') (hF : ∀ k, B k → ¬ F k) : TlO te w' B L v := by
  induction h with
  | mk B L us v Bk hl hown hb hkb hrow hdis hk ih =>
    exact ⟨B, L, us, v, Bk, hl, own_kept hown hu (fun k hk => hF k (hb k hk)), hb, hkb, hrow, hdis, fun i hi => ih i hi (fun k hk2 => hF k (hkb i k hi hk2))⟩
theorem TlO.read (h : TlO te w B L v) : TlR B w L v := by
  induction h with
  | mk B L us v Bk hl hown hb hkb hrow hdis hk ih =>
    exact .mk L us v hl ((SlR.of_own hown).weaken hb) (fun i hi => (ih i hi).weaken (fun k hk2 => hkb i k hi hk2))
end
/-- where a path leads -/
def okP : Tm → List Nat → Prop
  | _, [] => True
  | t, i :: p => i < t.kids.length ∧ okP (tg t.kids i) p
def tmAt : Tm → List Nat → Tm
  | t, [] => t
  | t, i :: p => tmAt (tg t.kids i) p
theorem sub_of : ∀ (p : List Nat) (t : Tm), okP t p → subAt t p = some (tmAt t p)
  | [], t, _ => rfl
  | i :: p, t, h => by
    unfold subAt tmAt
    have e : t.kids[i]? = some (tg t.kids i) := by
      unfold tg
      rw [List.getD_eq_getElem?_getD, List.getElem?_eq_getElem h.1]
      rfl
    rw [e, Option.bind_some]
    exact sub_of p _ h.2
/-- the address at a path, from the address of a term -/
def AdrP (w : World) : List Nat → Nat × Nat → Nat × Nat → Prop
  | [], a, a' => a' = a
  | i :: p, a, a' => ∃ g off n c, w.cell? ⟨a.1, a.2 + 2, none⟩ = some (.slice (some ⟨g, off, none⟩) n c) ∧ AdrP w p (g, off + i * 3) a'
/-- a term stored at an address -/
def st3 (w : World) (a : Nat × Nat) (n s : By) (u : Value) : World := ((w.setCell ⟨a.1, a.2, none⟩ (.string n)).setCell ⟨a.1, a.2 + 1, none⟩ (.string s)).setCell ⟨a.1, a.2 + 2, none⟩ u
theorem st3_upd (w : World) (a : Nat × Nat) (n s : By) (u : Value) : Upd (fun k => k = a.1) w (st3 w a n s u) :=
  (((Upd.refl (fun k => k = a.1) w).setCell (p := ⟨a.1, a.2, none⟩) (.inl rfl) _).setCell (p := ⟨a.1, a.2 + 1, none⟩) (.inl rfl) _).setCell (p := ⟨a.1, a.2 + 2, none⟩) (.inl rfl) _
theorem own_setN {w : World} {b : Nat} {e : TypeId} {g cap n size : Nat} {xs : List Value} (h : w.ownsRow b e size (.slice (some ⟨g, 0, none⟩) n cap) n xs) (j : Nat) (u : Value) :
    (w.setCell ⟨g, j, none⟩ u).ownsRow b e size (.slice (some ⟨g, 0, none⟩) n cap) n (xs.set j u) := by
  obtain ⟨h1, ⟨e0, _⟩ | ⟨g', cap', cur, e0, h3, h4, h5, h6, h7, h8⟩⟩ := h
  · cases e0
  · injection e0 with e1 e2 e3
    injection e1 with e1
    injection e1 with e1
    subst e1; subst e3
    refine ⟨by rw [List.length_set]; exact h1, .inr ⟨g, cap, _, rfl, h3, setBlock h4 j u, h5, h6, by rw [Array.size_setIfInBounds]; exact h7, ?_⟩⟩
    rw [← h8, Array.toList_setIfInBounds, List.take_set]
theorem tCells_set : ∀ (L : List Tm) (us : List Value) (i : Nat) (y : Tm) (u : Value), us.length = L.length → i < L.length → (((tCells L us).set (i * 3) (.string y.name)).set (i * 3 + 1) (.string y.sort)).set (i * 3 + 2) u = tCells (L.set i y) (us.set i u)
  | t :: L, a :: us, 0, y, u, _, _ => rfl
  | t :: L, a :: us, i + 1, y, u, hl, hi => by
    have ih := tCells_set L us i y u (by simpa using hl) (by simpa using hi)
    rw [show (i + 1) * 3 = i * 3 + 1 + 1 + 1 by omega]
    simp only [tCells, List.headD_cons, List.tail_cons, List.set_cons_succ, ← ih]
theorem tCells_same : ∀ (L : List Tm) (us : List Value) (i : Nat) (y : Tm), y.name = (tg L i).name → y.sort = (tg L i).sort → tCells (L.set i y) us = tCells L us
  | [], _, _, _, _, _ => rfl
  | t :: L, us, 0, y, h1, h2 => by
    simp only [List.set_cons_zero, tCells]
    rw [show y.name = t.name from h1, show y.sort = t.sort from h2]
  | t :: L, us, i + 1, y, h1, h2 => by
    simp only [List.set_cons_succ, tCells]
    rw [tCells_same L us.tail i y h1 h2]
theorem tg_set (L : List Tm) (i j : Nat) (y : Tm) (hi : i < L.length) : tg (L.set i y) j = if i = j then y else tg L j := by
  unfold tg
  rw [List.getD_eq_getElem?_getD, List.getElem?_set]
  by_cases h : i = j
  · subst h
    rw [if_pos rfl, if_pos rfl, if_pos hi]; rfl
  · rw [if_neg h, if_neg h, List.getD_eq_getElem?_getD]
theorem ug_set (us : List Value) (i j : Nat) (u : Value) (hi : i < us.length) : ug (us.set i u) j = if i = j then u else ug us j := by
  unfold ug
  rw [List.getD_eq_getElem?_getD, List.getElem?_set]
  by_cases h : i = j
  · subst h
    rw [if_pos rfl, if_pos rfl, if_pos hi]; rfl
  · rw [if_neg h, if_neg h, List.getD_eq_getElem?_getD]
theorem own_row0 {w : World} {b : Nat} {e : TypeId} {size n : Nat} {v : Value} {xs : List Value} (h : w.ownsRow b e size v n xs) (hn : 0 < n) : ∃ g cap cur, v = .slice (some ⟨g, 0, none⟩) n cap ∧ w.heap[g]? = some (.cells cur e (0, 0)) ∧ n * size ≤ cur.size := by
  rcases h.2 with ⟨_, h2⟩ | ⟨g, cap, cur, rfl, hb, hg, hc, hm, hs, ht⟩
  · omega
  · exact ⟨g, cap, cur, rfl, hg, by rw [hs]; exact Nat.mul_le_mul_right _ hc⟩
theorem put_list {te : TypeId} {w : World} (y : Tm) (u : Value) (S : Nat → Prop) (hy : TlR S w y.kids u) : ∀ (p : List Nat) (i : Nat) (L : List Tm) (v : Value) (B : Nat → Prop) (g n c : Nat) (a : Nat × Nat), TlO te w B L v → (∀ k, S k → ¬ B k) → v = .slice (some ⟨g, 0, none⟩) n c → i < L.length → okP (tg L i) p → AdrP w p (g, i * 3) a →
    B a.1 ∧ (∃ cur, w.heap[a.1]? = some (.cells cur te (0, 0)) ∧ a.2 + 2 < cur.size) ∧ TlR (fun k => B k ∨ S k) (st3 w a y.name y.sort u) (L.set i (putAt (tg L i) p y)) v
  | [], i, L, v, B, g, n, c, a, h, hS, hv, hi, hp, ha => by
    have ha : a = (g, i * 3) := ha
    subst ha
    cases h with
    | mk _ _ us _ Bk hl hown hb hkb hrow hdis hk =>
      obtain ⟨g', cap, cur, hv', hg, hsz⟩ := own_row0 hown (by omega)
      rw [hv] at hv'
      injection hv' with e1 e2 e3
      injection e1 with e1
      injection e1 with e1
      subst e1
      have hBg : B g := hb g (by rw [hv]; rfl)
      refine ⟨hBg, ⟨cur, hg, by show i * 3 + 2 < _; omega⟩, ?_⟩
      have hU := st3_upd w (g, i * 3) y.name y.sort u
      have hown2 : (st3 w (g, i * 3) y.name y.sort u).ownsRow 0 te 3 v L.length (tCells (L.set i y) (us.set i u)) := by
        rw [← tCells_set L us i y u hl hi]
        rw [hv, e2] at hown ⊢
        exact own_setN (own_setN (own_setN hown _ _) _ _) _ _
      have e4 : putAt (tg L i) [] y = y := by cases tg L i; rfl
      rw [e4]
      refine .mk _ (us.set i u) v (by simp [hl]) (by rw [List.length_set]; exact (SlR.of_own hown2).weaken (fun k hk => .inl (hb k hk))) (fun j hj => ?_)
      rw [List.length_set] at hj
      rw [tg_set L i j y hi, ug_set us i j u (by omega)]
      by_cases hij : i = j
      · rw [if_pos hij, if_pos hij]
        exact (hy.kept hU (fun k hk e => hS k hk (by rw [show k = g from e]; exact hBg))).weaken (fun k hk => .inr hk)
      · rw [if_neg hij, if_neg hij]
        exact ((hk j hj).kept hU (fun k hk e => hrow j k hj hk (by rw [hv, show k = g from e]; rfl))).read.weaken (fun k hk => .inl (hkb j k hj hk))
  | i' :: p, i, L, v, B, g, n, c, a, h, hS, hv, hi, hp, ha => by
    cases h with
    | mk _ _ us _ Bk hl hown hb hkb hrow hdis hk =>
      obtain ⟨g', cap, cur, hv', hg, hsz⟩ := own_row0 hown (by omega)
      have hv2 := hv
      rw [hv] at hv'
      injection hv' with e1 e2 e3
      injection e1 with e1
      injection e1 with e1
      subst e1
      obtain ⟨g2, off2, n2, c2, hc2, ha2⟩ := ha
      have hcell : w.cell? ⟨g, i * 3 + 2, none⟩ = some (ug us i) := by
        have h1 := SlR.cellAt (SlR.of_own hown) (g := g) (off := 0) (by rw [hv]) (j := i * 3 + 2) (by omega)
        rw [Nat.zero_add] at h1
        rw [h1]
        exact (tCells_at L us i hi).2.2
      rw [hcell] at hc2
      injection hc2 with hc2
      have hki := hk i hi
      have hoff : off2 = 0 := by
        have h0 : 0 < (tg L i).kids.length := by have := hp.1; omega
        cases hki with
        | mk _ _ us2 _ _ _ hown2 _ _ _ _ _ =>
          obtain ⟨g3, c3, cur3, hv3, _, _⟩ := own_row0 hown2 h0
          rw [hc2] at hv3
          injection hv3 with e4 _ _
          injection e4 with e4
          injection e4
      subst hoff
      obtain ⟨h1, h2, h3⟩ := put_list y u S hy p i' (tg L i).kids (ug us i) (Bk i) g2 n2 c2 a hki (fun k hk hb2 => hS k hk (hkb i k hi hb2)) hc2 hp.1 hp.2 (by rw [Nat.zero_add] at ha2; exact ha2)
      have hU := st3_upd w a y.name y.sort u
      refine ⟨hkb i _ hi h1, h2, ?_⟩
      obtain ⟨nm, so, K, hK⟩ : ∃ nm so K, tg L i = .mk nm so K := ⟨_, _, _, (eta _).symm⟩
      have e5 : putAt (tg L i) (i' :: p) y = .mk nm so (K.set i' (putAt (tg K i') p y)) := by rw [hK]; rfl
      rw [hK] at h3
      simp only [Tm.kids] at h3
      rw [e5]
      refine .mk _ us v (by simp [hl]) ?_ (fun j hj => ?_)
      · rw [List.length_set, tCells_same L us i _ (by rw [hK]; rfl) (by rw [hK]; rfl)]
        exact (SlR.kept (SlR.of_own hown) hU (fun k hk e => hrow i k hi (by rw [show k = a.1 from e]; exact h1) hk)).weaken (fun k hk => .inl (hb k hk))
      · rw [List.length_set] at hj
        rw [tg_set L i j _ hi]
        by_cases hij : i = j
        · subst hij
          rw [if_pos rfl]
          simp only [Tm.kids]
          exact h3.weaken (fun k hk => hk.elim (fun hk => .inl (hkb i k hi hk)) .inr)
        · rw [if_neg hij]
          exact ((hk j hj).kept hU (fun k hk2 e => hdis i j k hi hj hij (by rw [show k = a.1 from e]; exact h1) hk2)).read.weaken (fun k hk2 => .inl (hkb j k hj hk2))
/-- a term in a box, of one's own: what a store at a path leaves -/
theorem put_box {te : TypeId} {w : World} {b : Nat} {B S : Nat → Prop} {t y : Tm} {u0 u : Value} {p : List Nat} {a : Nat × Nat} (hb : w.heap[b]? = some (.cells #[.string t.name, .string t.sort, u0] te (0, 0))) (h : TlO te w B t.kids u0) (hbb : ¬ B b) (hy : TlR S w y.kids u) (hS : ∀ k, S k → ¬ B k ∧ k ≠ b) (hp : okP t p) (ha : AdrP w p (b, 0) a) :
    (a.1 = b ∨ B a.1) ∧ (∃ cur, w.heap[a.1]? = some (.cells cur te (0, 0)) ∧ a.2 + 2 < cur.size) ∧ ∃ u', (st3 w a y.name y.sort u).heap[b]? = some (.cells #[.string (putAt t p y).name, .string (putAt t p y).sort, u'] te (0, 0)) ∧ TlR (fun k => B k ∨ S k) (st3 w a y.name y.sort u) (putAt t p y).kids u' := by
  cases p with
  | nil =>
    have ha : a = (b, 0) := ha
    subst ha
    have e4 : putAt t [] y = y := by cases t; rfl
    rw [e4]
    refine ⟨.inl rfl, ⟨_, hb, by simp⟩, u, ?_, (hy.kept (st3_upd w (b, 0) y.name y.sort u) (fun k hk e => (hS k hk).2 e)).weaken (fun k hk => .inr hk)⟩
    have := setBlock (setBlock (setBlock hb 0 (.string y.name)) 1 (.string y.sort)) 2 u
    simpa [st3] using this
  | cons i p =>
    obtain ⟨g, off, n, c, hc, ha⟩ := ha
    have hcell : w.cell? ⟨b, 0 + 2, none⟩ = some u0 := cellRow hb 2 u0 rfl
    rw [hcell] at hc
    injection hc with hc
    have hoff : off = 0 := by
      have h0 : 0 < t.kids.length := by have := hp.1; omega
      cases h with
      | mk _ _ us2 _ _ _ hown2 _ _ _ _ _ =>
        obtain ⟨g3, c3, cur3, hv3, _, _⟩ := own_row0 hown2 h0
        rw [hc] at hv3
        injection hv3 with e4 _ _
        injection e4 with e4
        injection e4
    subst hoff
    obtain ⟨h1, h2, h3⟩ := put_list y u S hy p i t.kids u0 B g n c a h (fun k hk => (hS k hk).1) hc hp.1 hp.2 (by rw [Nat.zero_add] at ha; exact ha)
    refine ⟨.inr h1, h2, u0, ?_, ?_⟩
    · have e : (putAt t (i :: p) y).name = t.name ∧ (putAt t (i :: p) y).sort = t.sort := by cases t; exact ⟨rfl, rfl⟩
      rw [e.1, e.2]
      exact (st3_upd w a y.name y.sort u).heap hb (fun e => hbb (by rw [show b = a.1 from e]; exact h1))
    · have e : (putAt t (i :: p) y).kids = t.kids.set i (putAt (tg t.kids i) p y) := by cases t; rfl
      rw [e]
      exact h3
end Go.Hw

/- Subterms at paths are well-formed, and known: pure. -/
namespace Go.Hw
open Tm
set_option linter.unusedVariables false
set_option linter.unusedSimpArgs false
theorem nodesD_up (k : Nat) : ∀ (t : Tm) (d : Nat), nodesD (d + k) t = (nodesD d t).map fun p => (p.1, p.2 + k) := by
  refine ind (fun n s L ih d => ?_)
  rw [nodesD_eq, nodesD_eq, nodesDs_flat, nodesDs_flat]
  simp only [kids, List.map_cons, List.map_flatMap]
  congr 1
  induction L with
  | nil => rfl
  | cons a L ihL =>
    simp only [List.flatMap_cons]
    rw [show d + k + 1 = d + 1 + k by omega, ih a (List.mem_cons_self ..) (d + 1)]
    rw [show d + 1 + k = d + k + 1 by omega, ihL (fun x hx => ih x (List.mem_cons_of_mem _ hx))]
theorem nodes_tmAt : ∀ (p : List Nat) (t : Tm) (d : Nat), okP t p → ∃ k, ∀ q ∈ nodesD d (tmAt t p), (q.1, q.2 + k) ∈ nodesD d t
  | [], t, d, _ => ⟨0, fun q hq => hq⟩
  | i :: p, t, d, h => by
    obtain ⟨k, hk⟩ := nodes_tmAt p (tg t.kids i) d h.2
    refine ⟨k + 1, fun q hq => ?_⟩
    have h1 := hk q hq
    have hm : tg t.kids i ∈ t.kids := tg_in h.1
    rw [nodesD_eq, nodesDs_flat]
    refine List.mem_cons_of_mem _ (List.mem_flatMap.2 ⟨_, hm, ?_⟩)
    rw [nodesD_up 1 _ d]
    exact List.mem_map.2 ⟨_, h1, rfl⟩
theorem sbts_tmAt : ∀ (p : List Nat) (t : Tm), okP t p → ∀ y ∈ sbts (tmAt t p), y ∈ sbts t
  | [], t, _ => fun y hy => hy
  | i :: p, t, h => fun y hy => mem_sbts_kid (tg_in h.1) (sbts_tmAt p _ h.2 y hy)
theorem size_tmAt : ∀ (p : List Nat) (t : Tm), okP t p → (tmAt t p).size ≤ t.size
  | [], t, _ => Nat.le_refl _
  | i :: p, t, h => by
    have h1 := size_tmAt p _ h.2
    have h2 := size_kid (tg_in h.1)
    show (tmAt (tg t.kids i) p).size ≤ _
    omega
theorem okN_less {nm : By → Bool} {x : Tm} {d k : Nat} (h : okN nm (x, d + k) = true) : okN nm (x, d) = true := by
  unfold okN at h ⊢
  rw [Bool.and_eq_true, decide_eq_true_eq] at h ⊢
  exact ⟨by have := h.1; simp only at this ⊢; omega, h.2⟩
theorem vl_sub {l m : List Tm} (h : ∀ x ∈ l, x ∈ m) : ∀ f ∈ vl l, f ∈ vl m := by
  intro f hf
  unfold vl at hf ⊢
  obtain ⟨x, hx, h2⟩ := List.mem_filterMap.1 hf
  exact List.mem_filterMap.2 ⟨x, h x hx, h2⟩
theorem wf_tmAt {nm : By → Bool} {t : Tm} {p : List Nat} (h : wf nm t = true) (hp : okP t p) : wf nm (tmAt t p) = true := by
  unfold wf at h ⊢
  rw [Bool.and_eq_true] at h ⊢
  obtain ⟨h1, h2⟩ := (formed_iff nm t).1 h.1
  refine ⟨(formed_iff nm _).2 ⟨Nat.le_trans (size_tmAt p t hp) h1, fun q hq => ?_⟩, ?_⟩
  · obtain ⟨k, hk⟩ := nodes_tmAt p t 1 hp
    exact okN_less (h2 _ (hk q hq))
  · rw [sortsT_iff] at h ⊢
    have hs := vl_sub (sbts_tmAt p t hp)
    exact fun f hf g hg e => h.2 f (hs f hf) g (hs g hg) e
theorem knows_tmAt {ops : List By} {t : Tm} {p : List Nat} (h : knowsP ops t = true) (hp : okP t p) : knowsP ops (tmAt t p) = true := by
  rw [knowsP_iff] at h ⊢
  intro s hs
  obtain ⟨x, hx, h1, h2⟩ := mem_opN.1 hs
  exact h s (mem_opN.2 ⟨x, sbts_tmAt p t hp x hx, h1, h2⟩)
end Go.Hw

/- Signatures: what the reference says of them, and how they lie in memory. -/
namespace Go.Hw
open Go.RowKit Tm
set_option linter.unusedVariables false
set_option linter.unusedSimpArgs false
/-- a declaration: name, sorts of the parts, sort of the result -/
abbrev Dc := By × List By × By
abbrev Sg := List By × List Dc
abbrev dg (l : List Dc) (i : Nat) : Dc := l.getD i (nul, [], nul)
/-- the index of a declaration -/
def dixN (l : List Dc) (s : By) : Nat := l.findIdx fun d => decide (d.1 = s)
def dixI (l : List Dc) (s : By) : Int := if dixN l s < l.length then (dixN l s : Int) else -1
theorem dg_at {l : List Dc} {i : Nat} (h : i < l.length) : dg l i = l[i] := by unfold dg; rw [List.getD_eq_getElem?_getD, List.getElem?_eq_getElem h]; rfl
theorem dixN_of {l : List Dc} {s : By} {k : Nat} (hk : k < l.length) (h1 : ∀ j, j < k → (dg l j).1 ≠ s) (h2 : (dg l k).1 = s) : dixN l s = k := by
  unfold dixN
  rcases Nat.lt_trichotomy (l.findIdx fun d => decide (d.1 = s)) k with h | h | h
  · have h3 : (l.findIdx fun d => decide (d.1 = s)) < l.length := by omega
    have h4 := List.findIdx_getElem (w := h3)
    rw [decide_eq_true_eq, ← dg_at h3] at h4
    exact absurd h4 (h1 _ h)
  · exact h
  · have h4 := List.not_of_lt_findIdx h
    rw [← dg_at hk, decide_eq_false_iff_not] at h4
    exact absurd h2 h4
theorem dixN_none {l : List Dc} {s : By} (h : ∀ j, j < l.length → (dg l j).1 ≠ s) : ¬ dixN l s < l.length := by
  intro h1
  have h3 : (l.findIdx fun d => decide (d.1 = s)) < l.length := h1
  have h2 := List.findIdx_getElem (w := h3)
  rw [decide_eq_true_eq, ← dg_at h3] at h2
  exact h _ h3 h2
theorem dixN_at {l : List Dc} {s : By} (h : dixN l s < l.length) : (dg l (dixN l s)).1 = s := by
  have h3 : (l.findIdx fun d => decide (d.1 = s)) < l.length := h
  have h2 := List.findIdx_getElem (w := h3)
  rw [decide_eq_true_eq, ← dg_at h3] at h2
  exact h2
/-- a declaration that is right -/
def okD (nm : By → Bool) (g : Sg) (i : Nat) : Bool := nm (dg g.2 i).1 && (decide (dixN g.2 (dg g.2 i).1 = i) && (decide ((dg g.2 i).2.1.length ≤ 6) && (decide ((dg g.2 i).2.2 ∈ g.1) && (dg g.2 i).2.1.all fun s => decide (s ∈ g.1))))
/-- a signature that is valid -/
def vsgB (nm : By → Bool) (g : Sg) : Bool := decide (g.1.length ≤ 40) && (decide (g.2.length ≤ 100) && (precP nm g.1 && (List.range g.2.length).all (okD nm g)))
/-- the own sort of a node; nul if it has none -/
def ownF (g : Sg) (t : Tm) : By := if t.sort ≠ nul then t.sort else if dixN g.2 t.name < g.2.length then (dg g.2 (dixN g.2 t.name)).2.2 else nul
/-- the first part whose own sort is not what is asked -/
def badK (g : Sg) (L : List Tm) (A : List By) : Bool := (List.range L.length).any fun k => !decide (ownF g (tg L k) = nul) && !decide (ownF g (tg L k) = A.getD k nul)
mutual
def wrongF (g : Sg) : Tm → Int
  | .mk n s L => if s ≠ nul then (if s ∈ g.1 then 0 else 9) else if ¬ dixN g.2 n < g.2.length then 9 else if L.length ≠ (dg g.2 (dixN g.2 n)).2.1.length then 3 else if badK g L (dg g.2 (dixN g.2 n)).2.1 = true then 11 else wrongsF g L
def wrongsF (g : Sg) : List Tm → Int
  | [] => 0
  | a :: L => if wrongF g a ≠ 0 then wrongF g a else wrongsF g L
end
theorem wrongF_mk (g : Sg) (n s : By) (L : List Tm) : wrongF g (.mk n s L) = if s ≠ nul then (if s ∈ g.1 then 0 else 9) else if ¬ dixN g.2 n < g.2.length then 9 else if L.length ≠ (dg g.2 (dixN g.2 n)).2.1.length then 3 else if badK g L (dg g.2 (dixN g.2 n)).2.1 = true then 11 else wrongsF g L := by rw [wrongF]
theorem wrongsF_zero (g : Sg) : ∀ L : List Tm, wrongsF g L = 0 ↔ ∀ x ∈ L, wrongF g x = 0
  | [] => by simp [wrongsF]
  | a :: L => by
    have ih := wrongsF_zero g L
    rw [wrongsF]
    by_cases h : wrongF g a = 0
    · rw [if_neg (by simp [h]), ih]
      simp [h]
    · rw [if_pos h]
      simp [h]
theorem wrongsF_hit (g : Sg) : ∀ (L : List Tm) (k : Nat), k < L.length → (∀ j, j < k → wrongF g (tg L j) = 0) → wrongF g (tg L k) ≠ 0 → wrongsF g L = wrongF g (tg L k)
  | a :: L, 0, _, _, h => by rw [wrongsF, if_pos (show wrongF g a ≠ 0 from h)]; rfl
  | a :: L, k + 1, hk, h1, h => by
    rw [wrongsF, if_neg (by rw [show wrongF g a = 0 from h1 0 (by omega)]; simp)]
    exact wrongsF_hit g L k (by simpa using hk) (fun j hj => h1 (j + 1) (by omega)) h
/-- where nothing is wrong each operation has the number of parts of its declaration -/
theorem wrong_ar (g : Sg) : ∀ t : Tm, NoP t → wrongF g t = 0 → ∀ x ∈ sbts t, x.sort = nul → x.kids.length = (dg g.2 (dixN g.2 x.name)).2.1.length ∧ dixN g.2 x.name < g.2.length := by
  refine Tm.ind (fun n s L ih hn h x hx hs => ?_)
  rw [wrongF_mk] at h
  rw [sbts_eq] at hx
  by_cases h1 : s ≠ nul
  · have hL : L = [] := hn (.mk n s L) (mem_sbts_self _) h1
    subst hL
    rcases List.mem_cons.1 hx with rfl | hx
    · exact absurd hs h1
    · simp [Tm.kids] at hx
  · rw [if_neg h1] at h
    by_cases h2 : ¬ dixN g.2 n < g.2.length
    · rw [if_pos h2] at h; simp at h
    rw [if_neg h2] at h
    by_cases h3 : L.length ≠ (dg g.2 (dixN g.2 n)).2.1.length
    · rw [if_pos h3] at h; simp at h
    rw [if_neg h3] at h
    by_cases h4 : badK g L (dg g.2 (dixN g.2 n)).2.1 = true
    · rw [if_pos h4] at h; simp at h
    rw [if_neg h4] at h
    rcases List.mem_cons.1 hx with rfl | hx
    · exact ⟨Classical.not_not.1 h3, Classical.not_not.1 h2⟩
    · obtain ⟨y, hy, hx⟩ := List.mem_flatMap.1 hx
      exact ih y hy (hn.kid hy) ((wrongsF_zero g L).1 h y hy) x hx hs
/-! ### in memory -/
def dCells : List Dc → List Value → List Value
  | [], _ => []
  | d :: l, us => .string d.1 :: us.headD nilS :: .string d.2.2 :: dCells l us.tail
theorem dCells_len : ∀ (l : List Dc) (us : List Value), (dCells l us).length = l.length * 3
  | [], _ => rfl
  | d :: l, us => by simp [dCells, dCells_len l us.tail]; omega
theorem dCells_at : ∀ (l : List Dc) (us : List Value) (i : Nat), i < l.length →
    (dCells l us)[i * 3]? = some (.string (dg l i).1) ∧ (dCells l us)[i * 3 + 1]? = some (ug us i) ∧ (dCells l us)[i * 3 + 2]? = some (.string (dg l i).2.2)
  | d :: l, us, 0, _ => by
    refine ⟨rfl, ?_, rfl⟩
    cases us <;> rfl
  | d :: l, us, i + 1, h => by
    obtain ⟨h0, h1, h2⟩ := dCells_at l us.tail i (by simpa using h)
    have e : ∀ k, (dCells (d :: l) us)[(i + 1) * 3 + k]? = (dCells l us.tail)[i * 3 + k]? := fun k => by
      rw [show (i + 1) * 3 + k = i * 3 + k + 1 + 1 + 1 by omega]
      rfl
    refine ⟨by rw [← Nat.add_zero ((i + 1) * 3), e]; exact h0, ?_, by rw [e]; exact h2⟩
    rw [e, h1]
    cases us <;> rfl
abbrev StrR (S : Nat → Prop) (w : World) (v : Value) (l : List By) : Prop := SlR S w 1 v l.length (l.map Value.string)
/-- declarations that are read -/
def DcR (S : Nat → Prop) (w : World) (v : Value) (l : List Dc) : Prop := ∃ us, SlR S w 3 v l.length (dCells l us) ∧ ∀ i, i < l.length → StrR S w (ug us i) (dg l i).2.1
section
variable {S T F : Nat → Prop} {w w' : World} {v : Value} {l : List Dc}
theorem DcR.shape (h : DcR S w v l) : ∃ a cap, v = .slice a l.length cap := by
  obtain ⟨us, h, _⟩ := h
  exact h.shape
theorem DcR.kept (h : DcR S w v l) (hu : Upd F w w') (hF : ∀ k, S k → ¬ F k) : DcR S w' v l := by
  obtain ⟨us, h, h2⟩ := h
  exact ⟨us, h.kept hu hF, fun i hi => SlR.kept (h2 i hi) hu hF⟩
theorem DcR.ext (h : DcR S w v l) (hu : Ext w w') : DcR S w' v l := h.kept hu (fun _ _ h => h)
theorem DcR.weaken (h : DcR S w v l) (hs : ∀ k, S k → T k) : DcR T w v l := by
  obtain ⟨us, h, h2⟩ := h
  exact ⟨us, h.weaken hs, fun i hi => SlR.weaken (h2 i hi) hs⟩
theorem DcR.at_ {a : Option Addr} {n cap : Nat} (h : DcR S w (.slice a n cap) l) (hl : 0 < l.length) : ∃ g off, a = some ⟨g, off, none⟩ ∧ S g ∧ ∀ i, i < l.length → ∃ xa xc, w.cell? ⟨g, off + i * 3, none⟩ = some (.string (dg l i).1) ∧
    w.cell? ⟨g, off + i * 3 + 1, none⟩ = some (.slice xa (dg l i).2.1.length xc) ∧ w.cell? ⟨g, off + i * 3 + 2, none⟩ = some (.string (dg l i).2.2) ∧ StrR S w (.slice xa (dg l i).2.1.length xc) (dg l i).2.1 := by
  obtain ⟨us, h, h2⟩ := h
  obtain ⟨g, off, cap', e, hc, hS, hj⟩ := h.pos hl
  injection e with e1 e2 e3
  refine ⟨g, off, e1, hS, fun i hi => ?_⟩
  obtain ⟨k0, k1, k2⟩ := dCells_at l us i hi
  obtain ⟨xa, xc, hx⟩ := SlR.shape (h2 i hi)
  have h3 := h2 i hi
  rw [hx] at k1 h3
  exact ⟨xa, xc, by rw [hj _ (by omega), k0], by rw [Nat.add_assoc, hj _ (by omega), k1], by rw [Nat.add_assoc, hj _ (by omega), k2], h3⟩
end
/-- a signature that is read -/
def SgR (S : Nat → Prop) (w : World) (g : Sg) (v : Value) : Prop := ∃ sa sc oa oc, v = .agg #[.slice sa g.1.length sc, .slice oa g.2.length oc] ∧ StrR S w (.slice sa g.1.length sc) g.1 ∧ DcR S w (.slice oa g.2.length oc) g.2
theorem SgR.ext {S : Nat → Prop} {w w' : World} {g : Sg} {v : Value} (h : SgR S w g v) (hu : Ext w w') : SgR S w' g v := by
  obtain ⟨sa, sc, oa, oc, e, h1, h2⟩ := h
  exact ⟨sa, sc, oa, oc, e, SlR.kept h1 hu (fun _ _ h => h), h2.ext hu⟩
end Go.Hw

/- copied. -/
namespace Go.Proofs.YtiimccogojkldaaGreatDoor
open Go.RowKit Go.Hw Go
set_option linter.unusedVariables false
set_option linter.unusedSimpArgs false

open Tm
theorem TlO.shape {te : TypeId} {w : World} {B : Nat → Prop} {L : List Tm} {v : Value} (h : TlO te w B L v) : ∃ a cap, v = .slice a L.length cap := h.read.shape
theorem new3 (w : World) (u0 u1 u2 : Value) (t : TypeId) : ∀ (j : Nat) (u : Value), [u0, u1, u2][j]? = some u → (w.alloc (.cells #[u0, u1, u2] t)).cell? ((⟨w.heap.size, 0, none⟩ : Addr).add j) = some u := fun j u hj => by
  match j, hj with
  | 0, hj => simp only [List.getElem?_cons_zero, Option.some.injEq] at hj; subst hj; simp only [Addr.add]; exact cellRow (alloc0 _ _) 0 _ rfl
  | 1, hj => simp at hj; subst hj; simp only [Addr.add]; exact cellRow (alloc0 _ _) 1 _ rfl
  | 2, hj => simp at hj; subst hj; simp only [Addr.add]; exact cellRow (alloc0 _ _) 2 _ rfl
/-- what stands copied -/
structure CpJ (te : TypeId) (n0 : Nat) (wr : World) (L : List Tm) (lv : Value) (us : List Value) (Bk : Nat → Nat → Prop) (k : Nat) : Prop where
  len : us.length = k
  own : wr.ownsRow n0 te 3 lv k (tCells (L.take k) us)
  kid : ∀ i, i < k → TlO te wr (Bk i) (tg L i).kids (ug us i)
  blk : ∀ i j, i < k → Bk i j → n0 ≤ j ∧ j < wr.heap.size ∧ lv.ownBlock ≠ some j
  dis : ∀ i i' j, i < k → i' < k → i ≠ i' → Bk i j → ¬ Bk i' j
theorem CpJ.grow {te : TypeId} {n0 n3 k : Nat} {wr wq w5 wA w7 w8 : World} {L : List Tm} {lv lv' u : Value} {us : List Value} {Bk : Nat → Nat → Prop} {Bx : Nat → Prop} {x : Tm} (h : CpJ te n0 wr L lv us Bk k) (hk : k < L.length) (hx : tg L k = x) (hn : n3 < n0) (h0 : n0 ≤ wr.heap.size) (hq : Ext wr wq) (h5 : Ext wq w5)
    (hT : TlO te w5 Bx x.kids u) (hB : ∀ j, Bx j → wq.heap.size ≤ j ∧ j < w5.heap.size) (hA : Ext w5 wA) (hG : Grew n0 te 3 lv (k + 1) (tCells (L.take k) us ++ [.string x.name, .string x.sort, u]) wA w7 lv') (h8 : Upd (fun j => j = n3) w7 w8) :
    CpJ te n0 w8 L lv' (us ++ [u]) (fun i => if i = k then Bx else Bk i) (k + 1) := by
  have hU1 : Upd (fun j => lv.ownBlock = some j) wr w7 := (((hq.trans h5).trans hA).mono (fun _ _ x => x.elim)).trans hG.upd
  have hlt := fun j hj => h.own.lt j hj
  have hF : ∀ (P : Nat → Prop) (Lx : List Tm) (vx : Value), TlO te w7 P Lx vx → (∀ j, P j → n0 ≤ j) → TlO te w8 P Lx vx := fun P Lx vx ht hp => ht.kept h8 (fun j hj e => by have := hp j hj; omega)
  refine ⟨by rw [List.length_append, h.len]; rfl, ?_, fun i hi => ?_, fun i j hi hj => ?_, fun i i' j hi hi' hne hj => ?_⟩
  · rw [tk_snoc L k hk, tCells_snoc _ _ _ _ (by rw [h.len, List.length_take]; omega), hx]
    exact own_kept hG.own h8 (fun j hj e => by have := (hG.own.lt j hj).1; omega)
  · by_cases e : i = k
    · subst e
      rw [if_pos rfl, hx]
      have e2 : ug (us ++ [u]) i = u := by unfold ug; rw [List.getD_eq_getElem?_getD, List.getElem?_append_right (by rw [h.len]; exact Nat.le_refl _), h.len, Nat.sub_self]; rfl
      rw [e2]
      refine hF _ _ _ ((hT.kept hA (fun _ _ x => x)).kept hG.upd (fun j hj e => ?_)) (fun j hj => by have h1 := hB j hj; have := hq.size; omega)
      have h1 := (hB j hj).1
      have h2 := (hlt j e).2
      have := hq.size
      omega
    · rw [if_neg e]
      have e2 : ug (us ++ [u]) i = ug us i := by unfold ug; rw [List.getD_eq_getElem?_getD, List.getD_eq_getElem?_getD, List.getElem?_append_left (by rw [h.len]; omega)]
      rw [e2]
      exact hF _ _ _ ((h.kid i (by omega)).kept hU1 (fun j hj e => (h.blk i j (by omega) hj).2.2 e)) (fun j hj => (h.blk i j (by omega) hj).1)
  · have hs8 := h8.size
    have hs7 := hG.upd.size
    have hsA := hA.size
    have hs5 := h5.size
    have hsq := hq.size
    have hbn : ∀ j, lv'.ownBlock = some j → lv.ownBlock = some j ∨ w5.heap.size ≤ j := fun j e => by
      rcases hG.where_ with h | h
      · rw [h] at e; exact .inl e
      · rw [h] at e; injection e with e; exact .inr (by omega)
    by_cases e : i = k
    · subst e
      rw [if_pos rfl] at hj
      have h1 := hB j hj
      refine ⟨by omega, by omega, fun e => ?_⟩
      rcases hbn j e with h2 | h2
      · have := (hlt j h2).2; omega
      · omega
    · rw [if_neg e] at hj
      obtain ⟨h1, h2, h3⟩ := h.blk i j (by omega) hj
      refine ⟨h1, by omega, fun e => ?_⟩
      rcases hbn j e with h4 | h4
      · exact h3 h4
      · omega
  · have hsq := hq.size
    by_cases e : i = k
    · subst e
      rw [if_pos rfl] at hj
      have h1 := hB j hj
      rw [if_neg (fun e => hne e.symm)]
      intro h2
      have := (h.blk i' j (by omega) h2).2.1
      omega
    · rw [if_neg e] at hj
      by_cases e' : i' = k
      · subst e'
        rw [if_pos rfl]
        intro h2
        have h3 := hB j h2
        have := (h.blk i j (by omega) hj).2.1
        omega
      · rw [if_neg e']
        exact h.dis i i' j (by omega) (by omega) hne hj
theorem CpJ.fin {te : TypeId} {n0 : Nat} {wr : World} {L : List Tm} {lv : Value} {us : List Value} {Bk : Nat → Nat → Prop} (h : CpJ te n0 wr L lv us Bk L.length) : TlO te wr (fun j => n0 ≤ j ∧ j < wr.heap.size) L lv := by
  have ho := h.own
  rw [List.take_length] at ho
  exact ⟨_, L, us, lv, Bk, h.len, ⟨ho.1, ho.2.imp id (fun ⟨g, c, cur, e, _, h2⟩ => ⟨g, c, cur, e, Nat.zero_le _, h2⟩)⟩, fun k hk => ⟨(ho.lt k hk).1, (ho.lt k hk).2⟩, fun i k hi hk => ⟨(h.blk i k hi hk).1, (h.blk i k hi hk).2.1⟩, fun i k hi hk => (h.blk i k hi hk).2.2, fun i j k hi hj => h.dis i j k hi hj, h.kid⟩
theorem st3_heap {W : World} {z : Nat} {t : TypeId} {v0 v1 v2 : Value} (h : W.heap[z]? = some (.cells #[v0, v1, v2] t (0, 0))) (u0 u1 u2 : Value) : (((W.setCell ⟨z, 0, none⟩ u0).setCell ⟨z, 1, none⟩ u1).setCell ⟨z, 2, none⟩ u2).heap[z]? = some (.cells #[u0, u1, u2] t (0, 0)) := by
  have := setBlock (setBlock (setBlock h 0 u0) 1 u1) 2 u2
  simpa using this
theorem st3_upd' (W : World) (z : Nat) (u0 u1 u2 : Value) : Upd (fun k => k = z) W (((W.setCell ⟨z, 0, none⟩ u0).setCell ⟨z, 1, none⟩ u1).setCell ⟨z, 2, none⟩ u2) :=
  (((Upd.refl (fun k => k = z) W).setCell (p := ⟨z, 0, none⟩) (.inl rfl) u0).setCell (p := ⟨z, 1, none⟩) (.inl rfl) u1).setCell (p := ⟨z, 2, none⟩) (.inl rfl) u2
set_option maxRecDepth 100000 in
set_option maxHeartbeats 2000000 in
theorem copied_x : ∀ (t : Tm) (v : Value) (S : Nat → Prop) (w : World), TmR S w t v → (∀ k, S k → k < w.heap.size) → t.size ≤ 100000 →
    Calls Tryz.prog 61 #[v] w fun e w' => ∃ r B, e = .returned (tV t r) ∧ TlO 25 w' B t.kids r ∧ (∀ j, B j → w.heap.size ≤ j ∧ j < w'.heap.size) ∧ Ext w w' := by
  refine Tm.ind (fun nm so L ih => ?_)
  intro v S w hT hS hsz
  obtain ⟨a, cap, rfl, hT⟩ := hT
  dsimp only [tV, Tm.name, Tm.sort, Tm.kids] at hT ⊢
  have HTL := Lib.hid hT
  have HIH := Lib.hid ih
  have HSS := Lib.hid hS
  have hszL : sizes L + 1 ≤ 100000 := by rw [size_eq] at hsz; simp only [Tm.kids] at hsz; omega
  have HSL := Lib.hid hszL
  have hlL : L.length ≤ 100000 := by have h1 := length_le_sizes L; omega
  have hx3 := (((Upd.refl (fun _ => False) w).alloc (.cells #[.string nm, .string so, .slice a L.length cap] 25)).alloc (.cells #[.string ⟨#[]⟩, .string ⟨#[]⟩, .slice none 0 0] 25)).alloc (.cells #[.string nm, .string so, .slice none 0 0] 25)
  have hb2 := allocOld (alloc_at (w.alloc (.cells #[.string nm, .string so, .slice a L.length cap] 25)) (.cells #[.string ⟨#[]⟩, .string ⟨#[]⟩, .slice none 0 0] 25) (n := w.heap.size + 1) (by simp)) (.cells #[.string nm, .string so, .slice none 0 0] 25)
  have hb3 := alloc_at ((w.alloc (.cells #[.string nm, .string so, .slice a L.length cap] 25)).alloc (.cells #[.string ⟨#[]⟩, .string ⟨#[]⟩, .slice none 0 0] 25)) (.cells #[.string nm, .string so, .slice none 0 0] 25) (n := w.heap.size + 1 + 1) (by simp)
  have hz0 : (((w.alloc (.cells #[.string nm, .string so, .slice a L.length cap] 25)).alloc (.cells #[.string ⟨#[]⟩, .string ⟨#[]⟩, .slice none 0 0] 25)).alloc (.cells #[.string nm, .string so, .slice none 0 0] 25)).heap.size = w.heap.size + 3 := by simp
  have HB2 := Lib.hid hb2
  have HB3 := Lib.hid hb3
  have HE0 := Lib.hid hx3
  have HZ0 := Lib.hid hz0
  clear ih hT hS hsz hszL
  clear hb2 hb3 hx3 hz0
  go_enter Tryz.func61, Tryz.ntmps61
  go_wp2_with fail
  generalize (((w.alloc (.cells #[.string nm, .string so, .slice a L.length cap] 25)).alloc (.cells #[.string ⟨#[]⟩, .string ⟨#[]⟩, .slice none 0 0] 25)).alloc (.cells #[.string nm, .string so, .slice none 0 0] 25)) = W0 at *
  obtain ⟨n3, hn3⟩ : ∃ n3, w.heap.size + 1 + 1 = n3 := ⟨_, rfl⟩
  rw [hn3] at HB3 ⊢
  have HN3 := Lib.hid hn3
  clear hn3
  have HJ0 : Hid (CpJ 25 (w.heap.size + 3) W0 L (.slice none 0 0) [] (fun _ _ => False) 0) := Lib.hid ⟨rfl, ⟨rfl, .inl ⟨rfl, rfl⟩⟩, fun i hi => absurd hi (Nat.not_lt_zero _), fun i j hi => absurd hi (Nat.not_lt_zero _), fun i i' j hi => absurd hi (Nat.not_lt_zero _)⟩
  have HSW0 : Hid (w.heap.size + 3 ≤ W0.heap.size) := Lib.hid (by rw [HZ0.out]; exact Nat.le_refl _)
  clear HZ0
  go_loopg [11] L.length (fun gk iv wr => ∃ (k : Nat) (lv : Value) (us : List Value) (Bk : Nat → Nat → Prop), iv = .int .i64 (k : Int) ∧ gk = L.length - k ∧ k ≤ L.length ∧ Hid (CpJ 25 (w.heap.size + 3) wr L lv us Bk k) ∧ Hid (wr.heap[w.heap.size + 1]? = some (.cells #[.string ⟨#[]⟩, .string ⟨#[]⟩, .slice none 0 0] 25 (0, 0))) ∧ Hid (wr.heap[n3]? = some (.cells #[.string nm, .string so, lv] 25 (0, 0))) ∧ Hid (Ext w wr) ∧ Hid (w.heap.size + 3 ≤ wr.heap.size))
  case atStart => exact ⟨0, _, _, _, rfl, rfl, Nat.zero_le _, HJ0, HB2, HB3, HE0, HSW0⟩
  case round =>
    clear HJ0 HB2 HB3 HE0 HSW0
    obtain ⟨k, lv, us, Bk, rfl, rfl, hk, HJ, HB2, HB3, HE, HSZ⟩ := hrel
    obtain ⟨la, lc, hlv⟩ := own_shape HJ.out.own
    subst hlv
    by_cases hlt : k < L.length
    · obtain ⟨g, off, hga, _, hat⟩ := (HTL.out.ext HE.out).at_ (by omega)
      subst hga
      obtain ⟨xa, xc, q0, q1, q2, hkid⟩ := hat k hlt
      rw [← Nat.add_assoc] at q1 q2
      have z0 : (0 : Int) ≤ (k : Int) := by omega
      have z1 : (k : Int) < (L.length : Int) := by omega
      have z2 : decide ((k : Int) < (L.length : Int)) = true := decide_eq_true z1
      have z2' : decide (k < L.length) = true := decide_eq_true hlt
      have HIX := Lib.hid (fun W (hW : Ext (wr.alloc (.cells #[.string (tg L k).name, .string (tg L k).sort, .slice xa (tg L k).kids.length xc] 25)) W) => HIH.out (tg L k) (tg_mem L k hlt) _ S W ⟨xa, xc, rfl, (hkid.ext ((Upd.refl (fun _ => False) wr).alloc _)).ext hW⟩ (fun j hj => Nat.lt_of_lt_of_le (HSS.out j hj) (Nat.le_trans HE.out.size (Nat.le_trans ((Upd.refl (fun _ => False) wr).alloc (.cells #[.string (tg L k).name, .string (tg L k).sort, .slice xa (tg L k).kids.length xc] 25)).size hW.size))) (by have h1 := HSL.out; have h2 := sizes_take L k hlt; have h3 := sizes_take_le L (k + 1); omega))
      dsimp only [tV] at HIX
      obtain ⟨x, hx⟩ : ∃ x, tg L k = x := ⟨_, rfl⟩
      have HX := Lib.hid hx
      rw [hx] at q0 q1 q2 HIX
      have hQ := (Upd.refl (fun _ => False) wr).alloc (.cells #[.string x.name, .string x.sort, .slice xa x.kids.length xc] 25)
      have hB5 := alloc0 wr (.cells #[.string x.name, .string x.sort, .slice xa x.kids.length xc] 25)
      have b0 := cellRow hB5 0 (.string x.name) rfl
      have b1 := cellRow hB5 1 (.string x.sort) rfl
      have b2 := cellRow hB5 2 (.slice xa x.kids.length xc) rfl
      have hB3q := allocOld HB3.out (.cells #[.string x.name, .string x.sort, .slice xa x.kids.length xc] 25)
      have c2 := cellRow hB3q 2 (.slice la k lc) rfl
      have HBQ := Lib.hid hB3q
      have HQ := Lib.hid hQ
      have HB2Q := Lib.hid (allocOld HB2.out (.cells #[.string x.name, .string x.sort, .slice xa x.kids.length xc] 25))
      have HOQ := Lib.hid (HJ.out.own.alloc (.cells #[.string x.name, .string x.sort, .slice xa x.kids.length xc] 25))
      have HRN : Hid (¬ (Value.slice la k lc).ownBlock = some n3) := Lib.hid (fun e => by have h1 := (HJ.out.own.lt n3 e).1; have := HN3.out; omega)
      have HK : Hid (k ≤ 100000) := Lib.hid (by omega)
      obtain ⟨iT, hi, hz0, hz1, hz2⟩ := info_parts infoT
      clear hat hkid hx hQ hB5 hB3q
      go_wp2_with fail
      generalize wr.alloc (.cells #[.string x.name, .string x.sort, .slice xa x.kids.length xc] 25) = wq at *
      have HWQ : Hid (Ext wq wq) := Lib.hid (Upd.refl _ _)
      have HSQ : Hid (w.heap.size + 3 ≤ wq.heap.size) := Lib.hid (Nat.le_trans HSZ.out HQ.out.size)
      clear q0 q1 q2
      go_region_law (first
  | (refine step_append_at _ (.tmp 16) (.tmp 19) 23 rfl (w.heap.size + 3) 25 iT (.agg #[.string ⟨#[]⟩, .string ⟨#[]⟩, .slice none 0 0]) 3 56 Tryz.underlying23 hi hz0 hz1 hz2 rfl (by decide) _ _ _ rfl HOW5.out _ 1 1 [.string x.name, .string x.sort, .slice ya x.kids.length yc] rfl rfl HNEW.out HONE.out HLM.out.1 HLM.out.2.1 HLM.out.2.2 ?_; intro v7 w7 hG7; obtain ⟨a7, c7, hv7⟩ := own_shape hG7.own; subst hv7; have hB7 := hG7.upd.heap (allocOld HB5.out (.cells #[.string x.name, .string x.sort, .slice ya x.kids.length yc] 25)) HRN.out; have f7 := fun i => frozenRow hB7 i; have c2 := cellRow hB7 2 (.slice la k lc) rfl; have HB7 := Lib.hid hB7; have HG7 := Lib.hid hG7; clear hG7 hB7)
  | (go_simp; refine (HIX.out wq.drew HWQ.out.drew).mono ?_; rintro e w5 ⟨r, Bx, rfl, hT5, hb5, hw5⟩; obtain ⟨ya, yc, hry⟩ := TlO.shape hT5; subst hry; have HW5 : Hid (Ext wq w5) := Lib.hid (((Upd.refl (fun _ => False) wq).drewN' 1).trans hw5); have HT5 := Lib.hid hT5; have HBX5 : Hid (∀ j, Bx j → wq.heap.size ≤ j ∧ j < w5.heap.size) := Lib.hid hb5; have HB5 := Lib.hid (HW5.out.heap HBQ.out (fun h => h)); have HOW5 : Hid ((w5.alloc (.cells #[.string x.name, .string x.sort, .slice ya x.kids.length yc] 25)).ownsRow (w.heap.size + 3) 25 3 (.slice la k lc) k (tCells (L.take k) us)) := Lib.hid ((own_kept HOQ.out HW5.out (fun _ _ h => h)).alloc _); have HNEW : Hid (∀ (j : Nat) (u : Value), [Value.string x.name, .string x.sort, .slice ya x.kids.length yc][j]? = some u → (w5.alloc (.cells #[.string x.name, .string x.sort, .slice ya x.kids.length yc] 25)).cell? ((⟨w5.heap.size, 0, none⟩ : Addr).add j) = some u) := Lib.hid (new3 w5 _ _ _ 25); have HONE : Hid (∀ u ∈ [Value.string x.name, .string x.sort, .slice ya x.kids.length yc], u.oneCell' = true) := Lib.hid (fun u hu => by simp at hu; rcases hu with h | h | h <;> (subst h; rfl)); have HLM : Hid (k + 1 ≤ maxLen ∧ (k + 1) * 56 ≤ 140737488355328 ∧ w.heap.size + 3 ≤ (w5.alloc (.cells #[.string x.name, .string x.sort, .slice ya x.kids.length yc] 25)).heap.size) := Lib.hid ⟨by unfold maxLen; have := HK.out; omega, by have := HK.out; omega, by have h1 := HW5.out.size; have h2 := HSQ.out; simp; omega⟩; have c5 := HW5.out.cell c2 (fun h => h); have c6 := ((Upd.refl (fun _ => False) w5).alloc (.cells #[.string x.name, .string x.sort, .slice ya x.kids.length yc] 25)).cell c5 (fun h => h); clear hT5 hb5 hw5))
      all_goals
        go_wp2_with fail
        have HS8 := Lib.hid ((Upd.refl (fun j => j = n3) w7).setCell (p := ⟨n3, 2, none⟩) (.inl rfl) (.slice a7 (k + 1) c7))
        have HU8 : Hid (Upd (fun j => (Value.slice la k lc).ownBlock = some j ∨ j = n3) wq (w7.setCell ⟨n3, 2, none⟩ (.slice a7 (k + 1) c7))) := Lib.hid (((((HW5.out.alloc (.cells #[.string x.name, .string x.sort, .slice ya x.kids.length yc] 25)).mono (fun _ _ x => x.elim)).trans (HG7.out.upd.mono (fun _ _ e => .inl e)))).trans (HS8.out.mono (fun _ _ e => .inr e)))
        have HJ8 := Lib.hid (HJ.out.grow hlt HX.out (by have := HN3.out; omega) HSZ.out HQ.out HW5.out HT5.out HBX5.out ((Upd.refl (fun _ => False) w5).alloc (.cells #[.string x.name, .string x.sort, .slice ya x.kids.length yc] 25)) HG7.out HS8.out)
        have HE8 : Hid (Ext w (w7.setCell ⟨n3, 2, none⟩ (.slice a7 (k + 1) c7))) := Lib.hid ((HE.out.trans HQ.out).trans' HU8.out (fun j hj e => by
          rcases e with e | e
          · have h1 := (HJ.out.own.lt j e).1; omega
          · have := HN3.out; omega))
        have HB28 := Lib.hid (HU8.out.heap HB2Q.out (fun e => by
          rcases e with e | e
          · have h1 := (HJ.out.own.lt _ e).1; omega
          · have := HN3.out; omega))
        have hb38 := setBlock HB7.out 2 (.slice a7 (k + 1) c7)
        have HB38 : Hid ((w7.setCell ⟨n3, 2, none⟩ (.slice a7 (k + 1) c7)).heap[n3]? = some (.cells #[.string nm, .string so, .slice a7 (k + 1) c7] 25 (0, 0))) := Lib.hid (by simpa using hb38)
        have HS9 : Hid (w.heap.size + 3 ≤ (w7.setCell ⟨n3, 2, none⟩ (.slice a7 (k + 1) c7)).heap.size) := Lib.hid (Nat.le_trans HSQ.out HU8.out.size)
        clear hb38 c2 f7
        go_roundg (L.length - (k + 1))
        case measure => omega
        case rel => exact ⟨k + 1, _, _, _, by go_num, rfl, by omega, HJ8, HB28, HB38, HE8, HS9⟩
    · obtain rfl : k = L.length := by omega
      have z2 : decide ((L.length : Int) < (L.length : Int)) = false := decide_eq_false (by omega)
      have c0 := cellRow HB3.out 0 (.string nm) rfl
      have c1 := cellRow HB3.out 1 (.string so) rfl
      have c2 := cellRow HB3.out 2 (.slice la L.length lc) rfl
      have f2 := fun i => frozenRow HB2.out i
      have d0 := cellRow HB2.out 0 (.string ⟨#[]⟩) rfl
      have d1 := cellRow HB2.out 1 (.string ⟨#[]⟩) rfl
      have d2 := cellRow HB2.out 2 (.slice none 0 0) rfl
      go_wp2_with fail
      have hr := st3_heap HB2.out (.string nm) (.string so) (.slice la L.length lc)
      have hu := st3_upd' wr (w.heap.size + 1) (.string nm) (.string so) (.slice la L.length lc)
      have e0 := cellRow hr 0 _ rfl
      have e1 := cellRow hr 1 _ rfl
      have e2 := cellRow hr 2 _ rfl
      refine bodyPost_ret (v := .agg #[.string nm, .string so, .slice la L.length lc]) (by simp [results, Tryz.results61, go_sem, e0, e1, e2]) rfl ⟨.slice la L.length lc, _, rfl, HJ.out.fin.kept hu (fun j hj e => by have h1 := hj.1; omega), fun j hj => ⟨by have h1 := hj.1; omega, Nat.lt_of_lt_of_le hj.2 hu.size⟩, HE.out.trans' hu (fun j hj e => by omega)⟩

end Go.Proofs.YtiimccogojkldaaGreatDoor

/- at. -/
namespace Go.Proofs.YtiimccogojkldaaGreatDoor
open Go.RowKit Go.Hw Go
set_option linter.unusedVariables false
set_option linter.unusedSimpArgs false

open Tm
/-- the subterm at a path of integers -/
def subI : Tm → List Int → Option Tm
  | t, [] => some t
  | t, i :: p => if i < 0 ∨ (t.kids.length : Int) ≤ i then none else subI (tg t.kids i.toNat) p
theorem subI_cons (t : Tm) (i : Int) (p : List Int) : subI t (i :: p) = if i < 0 ∨ (t.kids.length : Int) ≤ i then none else subI (tg t.kids i.toNat) p := by rw [subI]
theorem AdrP.snoc {w : World} {i : Nat} : ∀ {p : List Nat} {a a' a'' : Nat × Nat}, AdrP w p a a' → AdrP w [i] a' a'' → AdrP w (p ++ [i]) a a''
  | [], a, a', a'', h, h2 => by
    have h : a' = a := h
    rw [← h]; exact h2
  | j :: p, a, a', a'', h, h2 => by
    obtain ⟨g, off, n, c, h3, h4⟩ := h
    exact ⟨g, off, n, c, h3, AdrP.snoc h4 h2⟩
theorem subI_ok : ∀ {p : List Int} {t x : Tm}, subI t p = some x → okP t (p.map Int.toNat) ∧ tmAt t (p.map Int.toNat) = x
  | [], t, x, h => by
    injection h with h
    exact ⟨trivial, h⟩
  | i :: p, t, x, h => by
    rw [subI_cons] at h
    by_cases h1 : i < 0 ∨ (t.kids.length : Int) ≤ i
    · rw [if_pos h1] at h; cases h
    · rw [if_neg h1] at h
      obtain ⟨h2, h3⟩ := subI_ok h
      exact ⟨⟨by omega, h2⟩, h3⟩
/-- a term at an address -/
def TmA (S : Nat → Prop) (w : World) (a : Nat × Nat) (t : Tm) : Prop := ∃ xa xc, w.cell? ⟨a.1, a.2, none⟩ = some (.string t.name) ∧ w.cell? ⟨a.1, a.2 + 1, none⟩ = some (.string t.sort) ∧ w.cell? ⟨a.1, a.2 + 2, none⟩ = some (.slice xa t.kids.length xc) ∧ TlR S w t.kids (.slice xa t.kids.length xc)
/-- what at answers -/
def AtP (S : Nat → Prop) (w : World) (t : Tm) (p : List Int) (a : Nat × Nat) (e : Ending) : Prop :=
  (subI t p = none ∧ e = .returned (.pointer none)) ∨ ∃ x a', subI t p = some x ∧ e = .returned (.pointer (some ⟨a'.1, a'.2, none⟩)) ∧ AdrP w (p.map Int.toNat) a a' ∧ TmA S w a' x
theorem AtP.no {S : Nat → Prop} {w : World} {t : Tm} {p : List Int} {a : Nat × Nat} (h : subI t p = none) : AtP S w t p a (.returned (.pointer none)) := .inl ⟨h, rfl⟩
theorem AtP.yes {S : Nat → Prop} {w : World} {t x : Tm} {p : List Int} {a a' : Nat × Nat} (h : subI t p = some x) (h2 : AdrP w (p.map Int.toNat) a a') (h3 : TmA S w a' x) : AtP S w t p a (.returned (.pointer (some ⟨a'.1, a'.2, none⟩))) := .inr ⟨x, a', h, rfl, h2, h3⟩
set_option maxRecDepth 100000 in
set_option maxHeartbeats 2000000 in
theorem at_x (t : Tm) (p : List Int) (pv : Value) (a : Nat × Nat) (S T : Nat → Prop) (w : World) (hA : TmA S w a t) (hP : SlR T w 1 pv p.length (p.map (Value.int .i64))) (hl : p.length ≤ 1000000) :
    Calls Tryz.prog 60 #[.pointer (some ⟨a.1, a.2, none⟩), pv] w fun e w' => AtP S w t p a e ∧ w = w' := by
  obtain ⟨pa, pc, rfl⟩ := SlR.shape hP
  have HP := Lib.hid hP
  have HA := Lib.hid hA
  obtain ⟨b, o⟩ := a
  clear hP hA
  go_enter Tryz.func60, Tryz.ntmps60
  go_wp2_with fail
  go_loopg [0, 9] p.length (fun gk qv iv wr => ∃ (k : Nat) (c : Nat × Nat) (x : Tm), qv = .pointer (some ⟨c.1, c.2, none⟩) ∧ iv = .int .i64 (k : Int) ∧ gk = p.length - k ∧ k ≤ p.length ∧ Hid (subI t p = subI x (p.drop k)) ∧ Hid (AdrP w ((p.take k).map Int.toNat) (b, o) c) ∧ Hid (TmA S w c x) ∧ w = wr)
  case atStart => exact ⟨0, (b, o), t, rfl, rfl, rfl, Nat.zero_le _, Lib.hid rfl, Lib.hid rfl, HA, rfl⟩
  case round =>
    clear HA
    obtain ⟨k, ⟨cb, co⟩, x, rfl, rfl, rfl, hk, HS, HD, HX, rfl⟩ := hrel
    by_cases hlt : k < p.length
    · obtain ⟨g, off, hga, _, hat⟩ := SlR.one_at (d := (0 : Int)) HP.out (by omega)
      subst hga
      have q0 := hat k hlt
      have z0 : (0 : Int) ≤ (k : Int) := by omega
      have z1 : (k : Int) < (p.length : Int) := by omega
      have z2 : decide ((k : Int) < (p.length : Int)) = true := decide_eq_true z1
      have z2' : decide (k < p.length) = true := decide_eq_true hlt
      have hd : p.drop k = p.getD k 0 :: p.drop (k + 1) := by
        rw [List.drop_eq_getElem_cons hlt, List.getD_eq_getElem?_getD, List.getElem?_eq_getElem hlt]; rfl
      have htk : p.take (k + 1) = p.take k ++ [p.getD k 0] := by
        rw [List.take_add_one, List.getD_eq_getElem?_getD, List.getElem?_eq_getElem hlt]; rfl
      have hs := HS.out
      rw [hd, subI_cons] at hs
      have HS2 := Lib.hid hs
      have HTK := Lib.hid htk
      obtain ⟨i, hi⟩ : ∃ i, p.getD k 0 = i := ⟨_, rfl⟩
      rw [hi] at q0 HS2 HTK
      clear hat hd htk hs hi HS
      obtain ⟨xa, xc, x0, x1, x2, hx⟩ := HX.out
      dsimp only at x0 x1 x2
      by_cases hi0 : i < 0
      · have HV : Hid (subI t p = none) := Lib.hid (by rw [HS2.out, if_pos (.inl hi0)])
        have y1 : decide (i < 0) = true := decide_eq_true hi0
        clear x0 x1 x2 hx
        go_wp2_with fail
        all_goals go_ret
        all_goals exact ⟨AtP.no HV.out, rfl⟩
      have y1 : decide (i < 0) = false := decide_eq_false hi0
      by_cases hi1 : (x.kids.length : Int) ≤ i
      · have HV : Hid (subI t p = none) := Lib.hid (by rw [HS2.out, if_pos (.inr hi1)])
        have y2 : decide ((x.kids.length : Int) ≤ i) = true := decide_eq_true hi1
        clear x0 x1 hx
        go_wp2_with fail
        all_goals go_ret
        all_goals exact ⟨AtP.no HV.out, rfl⟩
      have y2 : decide ((x.kids.length : Int) ≤ i) = false := decide_eq_false hi1
      have HV : Hid (subI t p = subI (tg x.kids i.toNat) (p.drop (k + 1))) := Lib.hid (by rw [HS2.out, if_neg (by omega)])
      obtain ⟨j, rfl⟩ : ∃ j : Nat, i = (j : Int) := ⟨i.toNat, by omega⟩
      have hjn : ((j : Int)).toNat = j := by omega
      rw [hjn] at HV
      have hj : j < x.kids.length := by omega
      obtain ⟨g2, off2, hga2, _, hat2⟩ := hx.at_ (by omega)
      subst hga2
      obtain ⟨ya, yc, r0, r1, r2, hy⟩ := hat2 j hj
      have HD2 : Hid (AdrP w ((p.take (k + 1)).map Int.toNat) (b, o) (g2, off2 + j * 3)) := Lib.hid (by
        rw [HTK.out, List.map_append]
        refine AdrP.snoc HD.out ⟨g2, off2, x.kids.length, xc, x2, ?_⟩
        rw [hjn]
        rfl)
      have HX2 : Hid (TmA S w (g2, off2 + j * 3) (tg x.kids j)) := Lib.hid ⟨ya, yc, r0, by rw [Nat.add_assoc]; exact r1, by rw [Nat.add_assoc]; exact r2, hy⟩
      have u0 : (0 : Int) ≤ (j : Int) := by omega
      have u1 : (j : Int) < (x.kids.length : Int) := by omega
      clear x0 x1 hx hat2 r0 r1 r2 hy HS2 HTK HD HX hi0 hi1 hjn
      go_wp2_with fail
      go_roundg (p.length - (k + 1))
      case measure => omega
      case rel => exact ⟨k + 1, (g2, off2 + j * 3), tg x.kids j, rfl, by go_num, rfl, by omega, HV, HD2, HX2, rfl⟩
    · obtain rfl : k = p.length := by omega
      have z2 : decide ((p.length : Int) < (p.length : Int)) = false := decide_eq_false (by omega)
      have HV : Hid (subI t p = some x) := Lib.hid (by rw [HS.out, List.drop_length]; rfl)
      have hdd := HD.out
      rw [List.take_length] at hdd
      have HDD := Lib.hid hdd
      clear hdd
      go_wp2_with fail
      go_ret
      exact ⟨AtP.yes (a' := (cb, co)) HV.out HDD.out HX.out, rfl⟩

end Go.Proofs.YtiimccogojkldaaGreatDoor

/- At. -/
namespace Go.Proofs.YtiimccogojkldaaGreatDoor
open Go.RowKit Go.Hw Go
set_option linter.unusedVariables false
set_option linter.unusedSimpArgs false

open Tm
abbrev nulT : Tm := .mk nul nul []
/-- what At answers -/
def atF (t : Tm) (p : List Int) : Tm × Int := if wf nmB t = false then (nulT, 1) else match subI t p with
  | none => (nulT, 2)
  | some x => (x, 0)
theorem tmAt_size : ∀ (p : List Nat) (t : Tm), okP t p → (tmAt t p).size ≤ t.size
  | [], t, _ => Nat.le_refl _
  | i :: p, t, h => by
    have h1 := tmAt_size p _ h.2
    have h2 := size_kid (tg_mem t.kids i h.1)
    show (tmAt (tg t.kids i) p).size ≤ _
    omega
set_option maxRecDepth 100000 in
set_option maxHeartbeats 2000000 in
theorem At_x (t : Tm) (p : List Int) (tv pv : Value) (S T : Nat → Prop) (w : World) (hT : TmR S w t tv) (hS : ∀ k, S k → k < w.heap.size) (hP : SlR T w 1 pv p.length (p.map (Value.int .i64))) (htab : AscT w) (hsz : t.size ≤ 100000) (hl : p.length ≤ 1000000) :
    Calls Tryz.prog 28 #[tv, pv] w fun e w' => ∃ r, e = .returned (.tuple #[tV (atF t p).1 r, .int .i64 (atF t p).2]) ∧ TlR (fun k => w.heap.size ≤ k ∧ k < w'.heap.size) w' (atF t p).1.kids r ∧ Ext w w' := by
  obtain ⟨pa, pc, rfl⟩ := SlR.shape hP
  have HP := Lib.hid hP
  obtain ⟨a, cap, rfl, hT⟩ := hT
  have HT := Lib.hid hT
  have HE2 := Lib.hid (((Upd.refl (fun _ => False) w).alloc (.cells #[.string t.name, .string t.sort, .slice a t.kids.length cap] 25)).alloc (.cells #[.string ⟨#[]⟩, .string ⟨#[]⟩, .slice none 0 0] 25))
  have HB1 := Lib.hid (allocOld (alloc0 w (.cells #[.string t.name, .string t.sort, .slice a t.kids.length cap] 25)) (.cells #[.string ⟨#[]⟩, .string ⟨#[]⟩, .slice none 0 0] 25))
  have HB2 := Lib.hid (alloc_at (w.alloc (.cells #[.string t.name, .string t.sort, .slice a t.kids.length cap] 25)) (.cells #[.string ⟨#[]⟩, .string ⟨#[]⟩, .slice none 0 0] 25) (n := w.heap.size + 1) (by simp))
  have hz2 : ((w.alloc (.cells #[.string t.name, .string t.sort, .slice a t.kids.length cap] 25)).alloc (.cells #[.string ⟨#[]⟩, .string ⟨#[]⟩, .slice none 0 0] 25)).heap.size = w.heap.size + 2 := by simp
  have HZ2 := Lib.hid hz2
  have HWF := Lib.hid (fun W (hW : Ext w W) => wellFormed_x t _ W (asc_ext htab hW) ⟨a, cap, rfl, (hT.ext hW).weaken (fun k hk => Nat.lt_of_lt_of_le (hS k hk) hW.size)⟩ (by omega))
  have HSS := Lib.hid hS
  have HF0 : Hid (wf nmB t = false → atF t p = (nulT, 1)) := Lib.hid (fun h => by unfold atF; rw [if_pos h])
  have HF1 : Hid (wf nmB t = true → subI t p = none → atF t p = (nulT, 2)) := Lib.hid (fun h h2 => by unfold atF; rw [if_neg (by rw [h]; simp), h2])
  have HF2 : Hid (wf nmB t = true → ∀ x, subI t p = some x → atF t p = (x, 0)) := Lib.hid (fun h x h2 => by unfold atF; rw [if_neg (by rw [h]; simp), h2])
  obtain ⟨F, hF⟩ : ∃ F, atF t p = F := ⟨_, rfl⟩
  rw [hF] at HF0 HF1 HF2 ⊢
  dsimp only [tV] at HWF ⊢
  obtain ⟨WB, hWB⟩ : ∃ b, wf nmB t = b := ⟨_, rfl⟩
  rw [hWB] at HWF HF0 HF1 HF2
  clear hP hT hS htab hF hWB hz2
  have k0 := cellRow HB1.out 0 (.string t.name) rfl
  have k1 := cellRow HB1.out 1 (.string t.sort) rfl
  have k2 := cellRow HB1.out 2 (.slice a t.kids.length cap) rfl
  go_enter Tryz.func28, Tryz.ntmps28
  go_wp2_with fail
  refine (HWF.out _ HE2.out).mono ?_
  rintro e w4 ⟨rfl, hw4⟩
  have H4 : Hid (Ext w w4) := Lib.hid (HE2.out.trans hw4)
  have HB14 := Lib.hid (hw4.heap HB1.out (fun h => h))
  have HB24 := Lib.hid (hw4.heap HB2.out (fun h => h))
  have HZ4 : Hid (w.heap.size + 2 ≤ w4.heap.size) := Lib.hid (by rw [← HZ2.out]; exact hw4.size)
  clear hw4 k0 k1 k2 HWF HB1 HB2 HE2
  cases WB
  · have HV := Lib.hid (HF0.out (by simp))
    have f2 := fun i => frozenRow HB24.out i
    have d0 := cellRow HB24.out 0 (.string ⟨#[]⟩) rfl
    have d1 := cellRow HB24.out 1 (.string ⟨#[]⟩) rfl
    have d2 := cellRow HB24.out 2 (.slice none 0 0) rfl
    go_wp2_with fail
    have hr := st3_heap HB24.out (.string ⟨#[]⟩) (.string ⟨#[]⟩) (.slice none 0 0)
    have hu := st3_upd' w4 (w.heap.size + 1) (.string ⟨#[]⟩) (.string ⟨#[]⟩) (.slice none 0 0)
    have e0 := cellRow hr 0 (.string ⟨#[]⟩) rfl
    have e1 := cellRow hr 1 (.string ⟨#[]⟩) rfl
    have e2 := cellRow hr 2 (.slice none 0 0) rfl
    refine bodyPost_ret (v := .tuple #[.agg #[.string ⟨#[]⟩, .string ⟨#[]⟩, .slice none 0 0], .int .i64 1]) (by simp [results, Tryz.results28, go_sem, e0, e1, e2]) rfl ⟨.slice none 0 0, by rw [HV.out]; rfl, by rw [HV.out]; exact TlR.nil _ _, H4.out.trans' hu (fun j hj e => by omega)⟩
  have HAT := Lib.hid (at_x t p (.slice pa p.length pc) (w.heap.size, 0) S T w4 ⟨a, cap, cellRow HB14.out 0 _ rfl, cellRow HB14.out 1 _ rfl, cellRow HB14.out 2 _ rfl, HT.out.ext H4.out⟩ (SlR.kept HP.out H4.out (fun _ _ h => h)) hl)
  go_wp2_with fail
  refine HAT.out.mono ?_
  rintro e w5 ⟨hat, rfl⟩
  rcases hat with ⟨hs, rfl⟩ | ⟨x, a', hs, rfl, _, xa, xc, x0, x1, x2, hx⟩
  · have HV := Lib.hid (HF1.out (by simp) hs)
    have f2 := fun i => frozenRow HB24.out i
    have d0 := cellRow HB24.out 0 (.string ⟨#[]⟩) rfl
    have d1 := cellRow HB24.out 1 (.string ⟨#[]⟩) rfl
    have d2 := cellRow HB24.out 2 (.slice none 0 0) rfl
    go_wp2_with fail
    have hr := st3_heap HB24.out (.string ⟨#[]⟩) (.string ⟨#[]⟩) (.slice none 0 0)
    have hu := st3_upd' w4 (w.heap.size + 1) (.string ⟨#[]⟩) (.string ⟨#[]⟩) (.slice none 0 0)
    have e0 := cellRow hr 0 (.string ⟨#[]⟩) rfl
    have e1 := cellRow hr 1 (.string ⟨#[]⟩) rfl
    have e2 := cellRow hr 2 (.slice none 0 0) rfl
    refine bodyPost_ret (v := .tuple #[.agg #[.string ⟨#[]⟩, .string ⟨#[]⟩, .slice none 0 0], .int .i64 2]) (by simp [results, Tryz.results28, go_sem, e0, e1, e2]) rfl ⟨.slice none 0 0, by rw [HV.out]; rfl, by rw [HV.out]; exact TlR.nil _ _, H4.out.trans' hu (fun j hj e => by omega)⟩
  · have HV := Lib.hid (HF2.out (by simp) x hs)
    have hso := subI_ok hs
    have hxs : x.size ≤ 100000 := by
      have h1 := tmAt_size _ t hso.1
      rw [hso.2] at h1
      omega
    have HC := Lib.hid (copied_x x _ S w4 ⟨xa, xc, rfl, hx⟩ (fun k hk => Nat.lt_of_lt_of_le (HSS.out k hk) H4.out.size) hxs)
    dsimp only [tV] at HC
    obtain ⟨ab, ao⟩ := a'
    dsimp only at x0 x1 x2
    clear hs hso hxs hx HF0 HF1 HF2 HAT
    go_wp2_with fail
    refine HC.out.mono ?_
    rintro e w6 ⟨r, B, rfl, hO6, hB6, hw6⟩
    have H6 := Lib.hid (H4.out.trans hw6)
    have HB26 := Lib.hid (hw6.heap HB24.out (fun h => h))
    have HO6 := Lib.hid hO6
    have HBB : Hid (∀ j, B j → w.heap.size + 2 ≤ j ∧ j < w6.heap.size) := Lib.hid (fun j hj => ⟨Nat.le_trans HZ4.out (hB6 j hj).1, (hB6 j hj).2⟩)
    obtain ⟨ra, rc, hrv⟩ := TlO.shape hO6
    subst hrv
    clear hO6 hB6 hw6 x0 x1 x2 HC
    have f2 := fun i => frozenRow HB26.out i
    have d0 := cellRow HB26.out 0 (.string ⟨#[]⟩) rfl
    have d1 := cellRow HB26.out 1 (.string ⟨#[]⟩) rfl
    have d2 := cellRow HB26.out 2 (.slice none 0 0) rfl
    go_wp2_with fail
    have hr := st3_heap HB26.out (.string x.name) (.string x.sort) (.slice ra x.kids.length rc)
    have hu := st3_upd' w6 (w.heap.size + 1) (.string x.name) (.string x.sort) (.slice ra x.kids.length rc)
    have e0 := cellRow hr 0 (.string x.name) rfl
    have e1 := cellRow hr 1 (.string x.sort) rfl
    have e2 := cellRow hr 2 (.slice ra x.kids.length rc) rfl
    refine bodyPost_ret (v := .tuple #[.agg #[.string x.name, .string x.sort, .slice ra x.kids.length rc], .int .i64 0]) (by simp [results, Tryz.results28, go_sem, e0, e1, e2]) rfl ⟨.slice ra x.kids.length rc, by rw [HV.out], ?_, H6.out.trans' hu (fun j hj e => by omega)⟩
    rw [HV.out]
    exact ((HO6.out.kept hu (fun j hj e => by have := (HBB.out j hj).1; omega)).read).weaken (fun j hj => ⟨by have := (HBB.out j hj).1; omega, Nat.lt_of_lt_of_le (HBB.out j hj).2 hu.size⟩)

end Go.Proofs.YtiimccogojkldaaGreatDoor

/- Replace. -/
namespace Go.Proofs.YtiimccogojkldaaGreatDoor
open Go.RowKit Go.Hw Go
set_option linter.unusedVariables false
set_option linter.unusedSimpArgs false

open Tm
/-- what Replace answers -/
def repF (t : Tm) (p : List Int) (u : Tm) : Tm × Int :=
  if wf nmB t = false ∨ wf nmB u = false then (nulT, 1) else match subI t p with
    | none => (nulT, 2)
    | some _ => if formed nmB (putAt t (p.map Int.toNat) u) = false then (nulT, 4) else if (sortsT (putAt t (p.map Int.toNat) u)).isSome = false then (nulT, 11) else (putAt t (p.map Int.toNat) u, 0)
theorem sizes_set (z : Tm) : ∀ (L : List Tm) (i : Nat), i < L.length → sizes (L.set i z) + (tg L i).size = sizes L + z.size
  | a :: L, 0, _ => by
    show sizes (z :: L) + a.size = sizes (a :: L) + z.size
    simp only [sizes]; omega
  | a :: L, i + 1, h => by
    have ih := sizes_set z L i (by simpa using h)
    show sizes (a :: L.set i z) + (tg L i).size = sizes (a :: L) + z.size
    simp only [sizes]; omega
theorem putAt_size (y : Tm) : ∀ (p : List Nat) (t : Tm), okP t p → (putAt t p y).size ≤ t.size + y.size
  | [], t, _ => by
    have e : putAt t [] y = y := by cases t; rfl
    rw [e]; omega
  | i :: p, t, h => by
    obtain ⟨nm, so, L⟩ := t
    have h1 := putAt_size y p (tg L i) h.2
    have h2 := sizes_set (putAt (tg L i) p y) L i h.1
    have e : putAt (.mk nm so L) (i :: p) y = .mk nm so (L.set i (putAt (tg L i) p y)) := rfl
    rw [e, size_eq, size_eq]
    simp only [Tm.kids]
    omega
theorem AdrP.ext {w w' : World} (hE : Ext w w') : ∀ {p : List Nat} {a a' : Nat × Nat}, AdrP w p a a' → AdrP w' p a a'
  | [], _, _, h => h
  | i :: p, a, a', ⟨g, off, n, c, h1, h2⟩ => ⟨g, off, n, c, hE.cell h1 (fun h => h), AdrP.ext hE h2⟩
set_option maxRecDepth 100000 in
set_option maxHeartbeats 2000000 in
theorem Replace_x (t u : Tm) (p : List Int) (tv uv pv : Value) (S T : Nat → Prop) (w : World) (hT : TmR S w t tv) (hU : TmR S w u uv) (hS : ∀ k, S k → k < w.heap.size) (hP : SlR T w 1 pv p.length (p.map (Value.int .i64))) (htab : AscT w) (hsz : t.size ≤ 100000) (hszu : u.size ≤ 100000) (hl : p.length ≤ 1000000) :
    Calls Tryz.prog 29 #[tv, pv, uv] w fun e w' => ∃ r, e = .returned (.tuple #[tV (repF t p u).1 r, .int .i64 (repF t p u).2]) ∧ TlR (fun k => w.heap.size ≤ k ∧ k < w'.heap.size) w' (repF t p u).1.kids r ∧ Ext w w' := by
  obtain ⟨pa, pc, rfl⟩ := SlR.shape hP
  have HP := Lib.hid hP
  obtain ⟨a, cap, rfl, hT⟩ := hT
  obtain ⟨ua, uc, rfl, hU⟩ := hU
  have HT := Lib.hid hT
  have HU := Lib.hid hU
  have HE0 := Lib.hid ((((Upd.refl (fun _ => False) w).alloc (.cells #[.string t.name, .string t.sort, .slice a t.kids.length cap] 25)).alloc (.cells #[.string u.name, .string u.sort, .slice ua u.kids.length uc] 25)).alloc (.cells #[.string ⟨#[]⟩, .string ⟨#[]⟩, .slice none 0 0] 25))
  have HB3 := Lib.hid (allocOld (allocOld (alloc0 w (.cells #[.string t.name, .string t.sort, .slice a t.kids.length cap] 25)) (.cells #[.string u.name, .string u.sort, .slice ua u.kids.length uc] 25)) (.cells #[.string ⟨#[]⟩, .string ⟨#[]⟩, .slice none 0 0] 25))
  have HB5 := Lib.hid (allocOld (alloc_at (w.alloc (.cells #[.string t.name, .string t.sort, .slice a t.kids.length cap] 25)) (.cells #[.string u.name, .string u.sort, .slice ua u.kids.length uc] 25) (n := w.heap.size + 1) (by simp)) (.cells #[.string ⟨#[]⟩, .string ⟨#[]⟩, .slice none 0 0] 25))
  have HB6 := Lib.hid (alloc_at ((w.alloc (.cells #[.string t.name, .string t.sort, .slice a t.kids.length cap] 25)).alloc (.cells #[.string u.name, .string u.sort, .slice ua u.kids.length uc] 25)) (.cells #[.string ⟨#[]⟩, .string ⟨#[]⟩, .slice none 0 0] 25) (n := w.heap.size + 2) (by simp))
  have hz0 : (((w.alloc (.cells #[.string t.name, .string t.sort, .slice a t.kids.length cap] 25)).alloc (.cells #[.string u.name, .string u.sort, .slice ua u.kids.length uc] 25)).alloc (.cells #[.string ⟨#[]⟩, .string ⟨#[]⟩, .slice none 0 0] 25)).heap.size = w.heap.size + 3 := by simp
  have HZ0 := Lib.hid hz0
  have HASC := Lib.hid (fun W (hW : Ext w W) => asc_ext htab hW)
  have HWT := Lib.hid (fun W (hW : Ext w W) => wellFormed_x t _ W (asc_ext htab hW) ⟨a, cap, rfl, (hT.ext hW).weaken (fun k hk => Nat.lt_of_lt_of_le (hS k hk) hW.size)⟩ (by omega))
  have HWU := Lib.hid (fun W (hW : Ext w W) => wellFormed_x u _ W (asc_ext htab hW) ⟨ua, uc, rfl, (hU.ext hW).weaken (fun k hk => Nat.lt_of_lt_of_le (hS k hk) hW.size)⟩ (by omega))
  have HSS := Lib.hid hS
  have HF0 : Hid (wf nmB t = false ∨ wf nmB u = false → repF t p u = (nulT, 1)) := Lib.hid (fun h => by unfold repF; rw [if_pos h])
  have HF1 : Hid (wf nmB t = true → wf nmB u = true → subI t p = none → repF t p u = (nulT, 2)) := Lib.hid (fun h h' h2 => by unfold repF; rw [if_neg (by rw [h, h']; simp), h2])
  have HF2 : Hid (wf nmB t = true → wf nmB u = true → ∀ x, subI t p = some x → repF t p u = if formed nmB (putAt t (p.map Int.toNat) u) = false then (nulT, 4) else if (sortsT (putAt t (p.map Int.toNat) u)).isSome = false then (nulT, 11) else (putAt t (p.map Int.toNat) u, 0)) := Lib.hid (fun h h' x h2 => by unfold repF; rw [if_neg (by rw [h, h']; simp), h2])
  obtain ⟨F, hF⟩ : ∃ F, repF t p u = F := ⟨_, rfl⟩
  rw [hF] at HF0 HF1 HF2 ⊢
  dsimp only [tV] at HWT HWU ⊢
  obtain ⟨WT, hWT⟩ : ∃ b, wf nmB t = b := ⟨_, rfl⟩
  obtain ⟨WU, hWU⟩ : ∃ b, wf nmB u = b := ⟨_, rfl⟩
  rw [hWT] at HWT HF0 HF1 HF2
  rw [hWU] at HWU HF0 HF1 HF2
  clear hP hT hU hS htab hF hWT hWU hz0
  have k0 := cellRow HB3.out 0 (.string t.name) rfl
  have k1 := cellRow HB3.out 1 (.string t.sort) rfl
  have k2 := cellRow HB3.out 2 (.slice a t.kids.length cap) rfl
  have l0 := cellRow HB5.out 0 (.string u.name) rfl
  have l1 := cellRow HB5.out 1 (.string u.sort) rfl
  have l2 := cellRow HB5.out 2 (.slice ua u.kids.length uc) rfl
  go_enter Tryz.func29, Tryz.ntmps29
  go_wp2_with fail
  refine (HWT.out _ HE0.out).mono ?_
  rintro e w4 ⟨rfl, hw4⟩
  have H4 := Lib.hid (HE0.out.trans hw4)
  have HB34 := Lib.hid (hw4.heap HB3.out (fun h => h))
  have HB54 := Lib.hid (hw4.heap HB5.out (fun h => h))
  have HB64 := Lib.hid (hw4.heap HB6.out (fun h => h))
  have HZ4 : Hid (w.heap.size + 3 ≤ w4.heap.size) := Lib.hid (by rw [← HZ0.out]; exact hw4.size)
  clear hw4 k0 k1 k2 l0 l1 l2 HWT HB3 HB5 HB6 HE0
  have k0 := cellRow HB34.out 0 (.string t.name) rfl
  have k1 := cellRow HB34.out 1 (.string t.sort) rfl
  have k2 := cellRow HB34.out 2 (.slice a t.kids.length cap) rfl
  have l0 := cellRow HB54.out 0 (.string u.name) rfl
  have l1 := cellRow HB54.out 1 (.string u.sort) rfl
  have l2 := cellRow HB54.out 2 (.slice ua u.kids.length uc) rfl
  cases WT
  · have HV := Lib.hid (HF0.out (.inl (by simp)))
    clear HWU
    have f2 := fun i => frozenRow HB64.out i
    have d0 := cellRow HB64.out 0 (.string ⟨#[]⟩) rfl
    have d1 := cellRow HB64.out 1 (.string ⟨#[]⟩) rfl
    have d2 := cellRow HB64.out 2 (.slice none 0 0) rfl
    go_wp2_with fail
    have hr := st3_heap HB64.out (.string ⟨#[]⟩) (.string ⟨#[]⟩) (.slice none 0 0)
    have hu := st3_upd' w4 (w.heap.size + 2) (.string ⟨#[]⟩) (.string ⟨#[]⟩) (.slice none 0 0)
    have e0 := cellRow hr 0 (.string ⟨#[]⟩) rfl
    have e1 := cellRow hr 1 (.string ⟨#[]⟩) rfl
    have e2 := cellRow hr 2 (.slice none 0 0) rfl
    refine bodyPost_ret (v := .tuple #[.agg #[.string ⟨#[]⟩, .string ⟨#[]⟩, .slice none 0 0], .int .i64 1]) (by simp [results, Tryz.results29, go_sem, e0, e1, e2]) rfl ⟨.slice none 0 0, by rw [HV.out]; rfl, by rw [HV.out]; exact TlR.nil _ _, H4.out.trans' hu (fun j hj e => by omega)⟩
  go_wp2_with fail
  refine (HWU.out _ H4.out).mono ?_
  rintro e w5 ⟨rfl, hw5⟩
  have H5 := Lib.hid (H4.out.trans hw5)
  have HB35 := Lib.hid (hw5.heap HB34.out (fun h => h))
  have HB55 := Lib.hid (hw5.heap HB54.out (fun h => h))
  have HB65 := Lib.hid (hw5.heap HB64.out (fun h => h))
  have HZ5 : Hid (w.heap.size + 3 ≤ w5.heap.size) := Lib.hid (Nat.le_trans HZ4.out hw5.size)
  clear hw5 k0 k1 k2 l0 l1 l2 HWU HB34 HB54 HB64 HZ4
  have k0 := cellRow HB35.out 0 (.string t.name) rfl
  have k1 := cellRow HB35.out 1 (.string t.sort) rfl
  have k2 := cellRow HB35.out 2 (.slice a t.kids.length cap) rfl
  have l0 := cellRow HB55.out 0 (.string u.name) rfl
  have l1 := cellRow HB55.out 1 (.string u.sort) rfl
  have l2 := cellRow HB55.out 2 (.slice ua u.kids.length uc) rfl
  cases WU
  · have HV := Lib.hid (HF0.out (.inr (by simp)))
    have f2 := fun i => frozenRow HB65.out i
    have d0 := cellRow HB65.out 0 (.string ⟨#[]⟩) rfl
    have d1 := cellRow HB65.out 1 (.string ⟨#[]⟩) rfl
    have d2 := cellRow HB65.out 2 (.slice none 0 0) rfl
    go_wp2_with fail
    have hr := st3_heap HB65.out (.string ⟨#[]⟩) (.string ⟨#[]⟩) (.slice none 0 0)
    have hu := st3_upd' w5 (w.heap.size + 2) (.string ⟨#[]⟩) (.string ⟨#[]⟩) (.slice none 0 0)
    have e0 := cellRow hr 0 (.string ⟨#[]⟩) rfl
    have e1 := cellRow hr 1 (.string ⟨#[]⟩) rfl
    have e2 := cellRow hr 2 (.slice none 0 0) rfl
    refine bodyPost_ret (v := .tuple #[.agg #[.string ⟨#[]⟩, .string ⟨#[]⟩, .slice none 0 0], .int .i64 1]) (by simp [results, Tryz.results29, go_sem, e0, e1, e2]) rfl ⟨.slice none 0 0, by rw [HV.out]; rfl, by rw [HV.out]; exact TlR.nil _ _, H5.out.trans' hu (fun j hj e => by omega)⟩
  have HF1' := Lib.hid (HF1.out (by simp) (by simp))
  have HF2' := Lib.hid (HF2.out (by simp) (by simp))
  clear HF0 HF1 HF2
  have HC1 := Lib.hid (copied_x t _ S w5 ⟨a, cap, rfl, HT.out.ext H5.out⟩ (fun k hk => Nat.lt_of_lt_of_le (HSS.out k hk) H5.out.size) (by omega))
  dsimp only [tV] at HC1
  go_wp2_with fail
  refine HC1.out.mono ?_
  rintro e w6 ⟨r1, B1, rfl, hO6, hb6, hw6⟩
  obtain ⟨ra, rc, hr1⟩ := TlO.shape hO6
  subst hr1
  have hz7 := (Upd.refl (fun _ => False) w6).alloc (.cells #[.string t.name, .string t.sort, .slice ra t.kids.length rc] 25)
  have H7 := Lib.hid ((H5.out.trans hw6).trans hz7)
  have HB57 := Lib.hid (hz7.heap (hw6.heap HB55.out (fun h => h)) (fun h => h))
  have HB67 := Lib.hid (hz7.heap (hw6.heap HB65.out (fun h => h)) (fun h => h))
  have HB87 := Lib.hid (alloc0 w6 (.cells #[.string t.name, .string t.sort, .slice ra t.kids.length rc] 25))
  have HO7 := Lib.hid (hO6.kept hz7 (fun _ _ h => h))
  have HBF : Hid (∀ j, B1 j → w.heap.size + 3 ≤ j ∧ j < w6.heap.size) := Lib.hid (fun j hj => ⟨Nat.le_trans HZ5.out (hb6 j hj).1, (hb6 j hj).2⟩)
  have HZ6 : Hid (w.heap.size + 3 ≤ w6.heap.size) := Lib.hid (Nat.le_trans HZ5.out hw6.size)
  have HZ7 : Hid ((w6.alloc (.cells #[.string t.name, .string t.sort, .slice ra t.kids.length rc] 25)).heap.size = w6.heap.size + 1) := Lib.hid (by simp)
  clear hO6 hb6 hw6 hz7 HC1 k0 k1 k2 l0 l1 l2 HB35 HB55 HB65
  have HAT := Lib.hid (at_x t p (.slice pa p.length pc) (w6.heap.size, 0) B1 T (w6.alloc (.cells #[.string t.name, .string t.sort, .slice ra t.kids.length rc] 25)) ⟨ra, rc, cellRow HB87.out 0 _ rfl, cellRow HB87.out 1 _ rfl, cellRow HB87.out 2 _ rfl, HO7.out.read⟩ (SlR.kept HP.out H7.out (fun _ _ h => h)) hl)
  go_wp2_with fail
  generalize w6.alloc (.cells #[.string t.name, .string t.sort, .slice ra t.kids.length rc] 25) = w7 at *
  refine HAT.out.mono ?_
  rintro e w8 ⟨hat, rfl⟩
  rcases hat with ⟨hs, rfl⟩ | ⟨x, a', hs, rfl, had, hta⟩
  · have HV := Lib.hid (HF1'.out hs)
    have f2 := fun i => frozenRow HB67.out i
    have d0 := cellRow HB67.out 0 (.string ⟨#[]⟩) rfl
    have d1 := cellRow HB67.out 1 (.string ⟨#[]⟩) rfl
    have d2 := cellRow HB67.out 2 (.slice none 0 0) rfl
    go_wp2_with fail
    have hr := st3_heap HB67.out (.string ⟨#[]⟩) (.string ⟨#[]⟩) (.slice none 0 0)
    have hu := st3_upd' w7 (w.heap.size + 2) (.string ⟨#[]⟩) (.string ⟨#[]⟩) (.slice none 0 0)
    have e0 := cellRow hr 0 (.string ⟨#[]⟩) rfl
    have e1 := cellRow hr 1 (.string ⟨#[]⟩) rfl
    have e2 := cellRow hr 2 (.slice none 0 0) rfl
    refine bodyPost_ret (v := .tuple #[.agg #[.string ⟨#[]⟩, .string ⟨#[]⟩, .slice none 0 0], .int .i64 2]) (by simp [results, Tryz.results29, go_sem, e0, e1, e2]) rfl ⟨.slice none 0 0, by rw [HV.out]; rfl, by rw [HV.out]; exact TlR.nil _ _, H7.out.trans' hu (fun j hj e => by omega)⟩
  have HF3 := Lib.hid (HF2'.out x hs)
  have hok := (subI_ok hs).1
  have HOK := Lib.hid hok
  have HADR := Lib.hid had
  clear hs had hta HAT HF1' HF2'
  obtain ⟨o, ho⟩ : ∃ o, putAt t (p.map Int.toNat) u = o := ⟨_, rfl⟩
  have HOO := Lib.hid ho
  have hos := putAt_size u (p.map Int.toNat) t hok
  rw [ho] at HF3 hos
  have HOS := Lib.hid (show o.size ≤ 200000 by omega)
  clear ho hok hos
  have l0 := cellRow HB57.out 0 (.string u.name) rfl
  have l1 := cellRow HB57.out 1 (.string u.sort) rfl
  have l2 := cellRow HB57.out 2 (.slice ua u.kids.length uc) rfl
  have HC2 := Lib.hid (copied_x u _ S w7 ⟨ua, uc, rfl, HU.out.ext H7.out⟩ (fun k hk => Nat.lt_of_lt_of_le (HSS.out k hk) H7.out.size) (by omega))
  dsimp only [tV] at HC2
  obtain ⟨ab, ao⟩ := a'
  go_wp2_with fail
  refine HC2.out.mono ?_
  rintro e w8 ⟨r2, B2, rfl, hO8, hb8, hw8⟩
  obtain ⟨sa, sc, hr2⟩ := TlO.shape hO8
  subst hr2
  have hput := put_box (y := u) (u := .slice sa u.kids.length sc) (S := B2) (w := w8) (hw8.heap HB87.out (fun h => h)) (HO7.out.kept hw8 (fun _ _ h => h)) (fun h => by have := (HBF.out _ h).2; omega) hO8.read (fun k hk => ⟨fun h => by have h1 := (HBF.out k h).2; have h2 := (hb8 k hk).1; have h3 := HZ7.out; omega, fun e => by have h2 := (hb8 k hk).1; have h3 := HZ7.out; omega⟩) HOK.out (AdrP.ext hw8 HADR.out)
  rw [HOO.out] at hput
  obtain ⟨hwhere, ⟨cur, hcur, hcb⟩, u', hbox, hkids⟩ := hput
  have HW8 : Hid (w.heap.size + 3 ≤ ab) := Lib.hid (by
    rcases hwhere with h | h
    · have := HZ6.out; dsimp only at h; omega
    · exact (HBF.out _ h).1)
  have H8 := Lib.hid (H7.out.trans hw8)
  have HB68 := Lib.hid (hw8.heap HB67.out (fun h => h))
  have HZ8 : Hid (w6.heap.size < w8.heap.size) := Lib.hid (by have h1 := HZ7.out; have h2 := hw8.size; omega)
  have HB2F : Hid (∀ j, B2 j → w6.heap.size < j ∧ j < w8.heap.size) := Lib.hid (fun j hj => ⟨by have h1 := HZ7.out; have h2 := (hb8 j hj).1; omega, (hb8 j hj).2⟩)
  obtain ⟨oa, oc, hou⟩ := hkids.shape
  subst hou
  have HBX : Hid ((((w8.setCell ⟨ab, ao, none⟩ (.string u.name)).setCell ⟨ab, ao + 1, none⟩ (.string u.sort)).setCell ⟨ab, ao + 2, none⟩ (.slice sa u.kids.length sc)).heap[w6.heap.size]? = some (.cells #[.string o.name, .string o.sort, .slice oa o.kids.length oc] 25 (0, 0))) := Lib.hid hbox
  have HKD : Hid (TlR (fun k => B1 k ∨ B2 k) (((w8.setCell ⟨ab, ao, none⟩ (.string u.name)).setCell ⟨ab, ao + 1, none⟩ (.string u.sort)).setCell ⟨ab, ao + 2, none⟩ (.slice sa u.kids.length sc)) o.kids (.slice oa o.kids.length oc)) := Lib.hid hkids
  have HU9 : Hid (Upd (fun k => k = ab) w8 (((w8.setCell ⟨ab, ao, none⟩ (.string u.name)).setCell ⟨ab, ao + 1, none⟩ (.string u.sort)).setCell ⟨ab, ao + 2, none⟩ (.slice sa u.kids.length sc))) := Lib.hid (st3_upd w8 (ab, ao) u.name u.sort (.slice sa u.kids.length sc))
  have m0 : w8.cell? ⟨ab, ao, none⟩ = some (cur[ao]'(by simp only at hcb; omega)) := cellRow hcur ao _ (Array.getElem?_eq_getElem _)
  have m1 : w8.cell? ⟨ab, ao + 1, none⟩ = some (cur[ao + 1]'(by simp only at hcb; omega)) := cellRow hcur (ao + 1) _ (Array.getElem?_eq_getElem _)
  have m2 : w8.cell? ⟨ab, ao + 2, none⟩ = some (cur[ao + 2]'(by simp only at hcb; omega)) := cellRow hcur (ao + 2) _ (Array.getElem?_eq_getElem _)
  have fz := fun i => frozenRow hcur i
  generalize cur[ao]'(by simp only at hcb; omega) = v0 at m0
  generalize cur[ao + 1]'(by simp only at hcb; omega) = v1 at m1
  generalize cur[ao + 2]'(by simp only at hcb; omega) = v2 at m2
  clear hO8 hb8 hw8 hbox hkids hwhere hcur hcb HC2 l0 l1 l2 HO7 HB87
  go_upto_region 8 with fail
  generalize hw9 : (((w8.setCell ⟨ab, ao, none⟩ (.string u.name)).setCell ⟨ab, ao + 1, none⟩ (.string u.sort)).setCell ⟨ab, ao + 2, none⟩ (.slice sa u.kids.length sc)) = w9 at *
  clear hw9 m0 m1 m2 fz
  have H9 : Hid (Ext w w9) := Lib.hid (H8.out.trans' HU9.out (fun j hj e => by have := HW8.out; omega))
  have HB69 := Lib.hid (HU9.out.heap HB68.out (fun e => by have := HW8.out; omega))
  have HKF : Hid (TlR (fun k => w.heap.size + 3 ≤ k ∧ k < w9.heap.size) w9 o.kids (.slice oa o.kids.length oc)) := Lib.hid (HKD.out.weaken (fun k hk => by
    have h1 := HU9.out.size
    have h2 := HZ8.out
    have h3 := HZ6.out
    rcases hk with hk | hk
    · have := HBF.out k hk; omega
    · have := HB2F.out k hk; omega))
  have HZ9 : Hid (w6.heap.size < w9.heap.size) := Lib.hid (Nat.lt_of_lt_of_le HZ8.out HU9.out.size)
  clear HU9 HKD H8 HB68 HZ8
  have HFM := Lib.hid (formed_x o _ w9 (HASC.out _ H9.out) ⟨oa, oc, rfl, HKF.out.weaken (fun k hk => hk.2)⟩ (by have := HOS.out; omega))
  dsimp only [tV] at HFM
  obtain ⟨FO, hFO⟩ : ∃ b, formed nmB o = b := ⟨_, rfl⟩
  rw [hFO] at HFM
  have HF4 : Hid (F = if FO = false then (nulT, 4) else if (sortsT o).isSome = false then (nulT, 11) else (o, 0)) := Lib.hid (by rw [HF3.out, hFO])
  clear hFO HF3
  have k0 := cellRow HBX.out 0 (.string o.name) rfl
  have k1 := cellRow HBX.out 1 (.string o.sort) rfl
  have k2 := cellRow HBX.out 2 (.slice oa o.kids.length oc) rfl
  go_wp2_with fail
  refine HFM.out.mono ?_
  rintro e wa ⟨rfl, hwa⟩
  have Ha := Lib.hid (H9.out.trans hwa)
  have HB6a := Lib.hid (hwa.heap HB69.out (fun h => h))
  have HBXa := Lib.hid (hwa.heap HBX.out (fun h => h))
  have HKFa : Hid (TlR (fun k => w.heap.size + 3 ≤ k ∧ k < wa.heap.size) wa o.kids (.slice oa o.kids.length oc)) := Lib.hid ((HKF.out.ext hwa).weaken (fun k hk => ⟨hk.1, Nat.lt_of_lt_of_le hk.2 hwa.size⟩))
  clear hwa k0 k1 k2 HFM HB69 HBX HKF H9
  cases FO
  · have HV : Hid (F = (nulT, 4)) := Lib.hid (by rw [HF4.out, if_pos rfl])
    have f2 := fun i => frozenRow HB6a.out i
    have d0 := cellRow HB6a.out 0 (.string ⟨#[]⟩) rfl
    have d1 := cellRow HB6a.out 1 (.string ⟨#[]⟩) rfl
    have d2 := cellRow HB6a.out 2 (.slice none 0 0) rfl
    go_wp2_with fail
    have hr := st3_heap HB6a.out (.string ⟨#[]⟩) (.string ⟨#[]⟩) (.slice none 0 0)
    have hu := st3_upd' wa (w.heap.size + 2) (.string ⟨#[]⟩) (.string ⟨#[]⟩) (.slice none 0 0)
    have e0 := cellRow hr 0 (.string ⟨#[]⟩) rfl
    have e1 := cellRow hr 1 (.string ⟨#[]⟩) rfl
    have e2 := cellRow hr 2 (.slice none 0 0) rfl
    refine bodyPost_ret (v := .tuple #[.agg #[.string ⟨#[]⟩, .string ⟨#[]⟩, .slice none 0 0], .int .i64 4]) (by simp [results, Tryz.results29, go_sem, e0, e1, e2]) rfl ⟨.slice none 0 0, by rw [HV.out]; rfl, by rw [HV.out]; exact TlR.nil _ _, Ha.out.trans' hu (fun j hj e => by omega)⟩
  have HF5 : Hid (F = if (sortsT o).isSome = false then (nulT, 11) else (o, 0)) := Lib.hid (by rw [HF4.out, if_neg (by simp)])
  have k0 := cellRow HBXa.out 0 (.string o.name) rfl
  have k1 := cellRow HBXa.out 1 (.string o.sort) rfl
  have k2 := cellRow HBXa.out 2 (.slice oa o.kids.length oc) rfl
  have hzb := (Upd.refl (fun _ => False) wa).alloc (.cells #[.string o.name, .string o.sort, .slice oa o.kids.length oc] 25)
  have hxb := alloc0 wa (.cells #[.string o.name, .string o.sort, .slice oa o.kids.length oc] 25)
  have HSR := Lib.hid (sorts_x o wa.heap.size 0 1 0 oc oa (wa.alloc (.cells #[.string o.name, .string o.sort, .slice oa o.kids.length oc] 25)) ⟨cellRow hxb 0 _ rfl, cellRow hxb 1 _ rfl, cellRow hxb 2 _ rfl⟩ ((HKFa.out.ext hzb).weaken (fun k hk => Nat.lt_of_lt_of_le hk.2 hzb.size)) (by have := HOS.out; omega))
  have Hb := Lib.hid (Ha.out.trans hzb)
  have HB6b := Lib.hid (hzb.heap HB6a.out (fun h => h))
  have HBXb := Lib.hid (hzb.heap HBXa.out (fun h => h))
  have HKFb : Hid (TlR (fun k => w.heap.size + 3 ≤ k ∧ k < (wa.alloc (.cells #[.string o.name, .string o.sort, .slice oa o.kids.length oc] 25)).heap.size) (wa.alloc (.cells #[.string o.name, .string o.sort, .slice oa o.kids.length oc] 25)) o.kids (.slice oa o.kids.length oc)) := Lib.hid ((HKFa.out.ext hzb).weaken (fun k hk => ⟨hk.1, Nat.lt_of_lt_of_le hk.2 hzb.size⟩))
  clear hzb hxb HF4
  go_wp2_with fail
  refine HSR.out.mono ?_
  rintro e wc ⟨hp, hwc⟩
  have Hc := Lib.hid (Hb.out.trans hwc)
  have HB6c := Lib.hid (hwc.heap HB6b.out (fun h => h))
  have HBXc := Lib.hid (hwc.heap HBXb.out (fun h => h))
  have HKFc : Hid (TlR (fun k => w.heap.size + 3 ≤ k ∧ k < wc.heap.size) wc o.kids (.slice oa o.kids.length oc)) := Lib.hid ((HKFb.out.ext hwc).weaken (fun k hk => ⟨hk.1, Nat.lt_of_lt_of_le hk.2 hwc.size⟩))
  unfold SortsP at hp
  clear hwc HSR k0 k1 k2
  cases hso : sortsT o with
  | none =>
    rw [hso] at hp
    simp only at hp
    subst hp
    have HV : Hid (F = (nulT, 11)) := Lib.hid (by rw [HF5.out, hso]; rfl)
    clear hso
    have f2 := fun i => frozenRow HB6c.out i
    have d0 := cellRow HB6c.out 0 (.string ⟨#[]⟩) rfl
    have d1 := cellRow HB6c.out 1 (.string ⟨#[]⟩) rfl
    have d2 := cellRow HB6c.out 2 (.slice none 0 0) rfl
    go_wp2_with fail
    have hr := st3_heap HB6c.out (.string ⟨#[]⟩) (.string ⟨#[]⟩) (.slice none 0 0)
    have hu := st3_upd' wc (w.heap.size + 2) (.string ⟨#[]⟩) (.string ⟨#[]⟩) (.slice none 0 0)
    have e0 := cellRow hr 0 (.string ⟨#[]⟩) rfl
    have e1 := cellRow hr 1 (.string ⟨#[]⟩) rfl
    have e2 := cellRow hr 2 (.slice none 0 0) rfl
    refine bodyPost_ret (v := .tuple #[.agg #[.string ⟨#[]⟩, .string ⟨#[]⟩, .slice none 0 0], .int .i64 11]) (by simp [results, Tryz.results29, go_sem, e0, e1, e2]) rfl ⟨.slice none 0 0, by rw [HV.out]; rfl, by rw [HV.out]; exact TlR.nil _ _, Hc.out.trans' hu (fun j hj e => by omega)⟩
  | some m =>
    rw [hso] at hp
    simp only at hp
    obtain ⟨bm, rfl, _, _⟩ := hp
    have HV : Hid (F = (o, 0)) := Lib.hid (by rw [HF5.out, hso]; rfl)
    clear hso
    have k0 := cellRow HBXc.out 0 (.string o.name) rfl
    have k1 := cellRow HBXc.out 1 (.string o.sort) rfl
    have k2 := cellRow HBXc.out 2 (.slice oa o.kids.length oc) rfl
    have f2 := fun i => frozenRow HB6c.out i
    have d0 := cellRow HB6c.out 0 (.string ⟨#[]⟩) rfl
    have d1 := cellRow HB6c.out 1 (.string ⟨#[]⟩) rfl
    have d2 := cellRow HB6c.out 2 (.slice none 0 0) rfl
    go_wp2_with fail
    have hr := st3_heap HB6c.out (.string o.name) (.string o.sort) (.slice oa o.kids.length oc)
    have hu := st3_upd' wc (w.heap.size + 2) (.string o.name) (.string o.sort) (.slice oa o.kids.length oc)
    have e0 := cellRow hr 0 (.string o.name) rfl
    have e1 := cellRow hr 1 (.string o.sort) rfl
    have e2 := cellRow hr 2 (.slice oa o.kids.length oc) rfl
    refine bodyPost_ret (v := .tuple #[.agg #[.string o.name, .string o.sort, .slice oa o.kids.length oc], .int .i64 0]) (by simp [results, Tryz.results29, go_sem, e0, e1, e2]) rfl ⟨.slice oa o.kids.length oc, by rw [HV.out], ?_, Hc.out.trans' hu (fun j hj e => by omega)⟩
    rw [HV.out]
    exact (HKFc.out.kept hu (fun k hk e => by have := hk.1; omega)).weaken (fun k hk => ⟨by have := hk.1; omega, Nat.lt_of_lt_of_le hk.2 hu.size⟩)

end Go.Proofs.YtiimccogojkldaaGreatDoor
