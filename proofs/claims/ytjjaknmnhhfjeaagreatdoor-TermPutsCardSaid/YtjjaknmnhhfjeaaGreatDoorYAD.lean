/- The texts TQ L6 TZ SH PZ, one behind the other. -/
import Derived.Test.YtjjaknmnhhfjeaaGreatDoorYAC
import Derived.Test.YtjjaknmnhhfjeaaGreatDoorYAB
/- Terms in memory of one's own: no block stands twice in one. What a store at a path leaves. -/
namespace Go.Hw
open Go.RowKit Tm
set_option linter.unusedVariables false
set_option linter.unusedSimpArgs false
inductive TlO (te : TypeId) (w : World) : (Nat → Prop) → List Tm → Value → Prop
  | mk (B : Nat → Prop) (L : List Tm) (us : List Value) (v : Value) (Bk : Nat → Nat → Prop)
      (hl : us.length = L.length) (hown : w.ownsRow 0 te 3 v L.length (tCells L us))
      (hb : ∀ k, v.ownBlock = some k → B k) (hkb : ∀ i k, i < L.length → Bk i k → B k)
      (hrow : ∀ i k, i < L.length → Bk i k → v.ownBlock ≠ some k)
      (hdis : ∀ i j k, i < L.length → j < L.length → i ≠ j → Bk i k → ¬ Bk j k)
      (hk : ∀ i, i < L.length → TlO te w (Bk i) (tg L i).kids (ug us i)) : TlO te w B L v
section
variable {te : TypeId} {w w' : World} {B B' F S : Nat → Prop} {L : List Tm} {v : Value}
theorem TlO.nil (te : TypeId) (w : World) (B : Nat → Prop) : TlO te w B [] nilS :=
  ⟨B, [], [], nilS, fun _ _ => False, rfl, ⟨rfl, .inl ⟨rfl, rfl⟩⟩, fun k h => by simp [Value.ownBlock] at h, fun i k h => absurd h (Nat.not_lt_zero _), fun i k h => absurd h (Nat.not_lt_zero _), fun i j k h => absurd h (Nat.not_lt_zero _), fun i h => absurd h (Nat.not_lt_zero _)⟩
theorem TlO.weaken (h : TlO te w B L v) (hB : ∀ k, B k → B' k) : TlO te w B' L v := by
  cases h with
  | mk _ _ us _ Bk hl hown hb hkb hrow hdis hk => exact ⟨B', L, us, v, Bk, hl, hown, fun k h => hB k (hb k h), fun i k hi h => hB k (hkb i k hi h), hrow, hdis, hk⟩
theorem TlO.kept (h : TlO te w B L v) (hu : Upd F w w') (hF : ∀ k, B k → ¬ F k) : TlO te w' B L v := by
  induction h with
  | mk B L us v Bk hl hown hb hkb hrow hdis hk ih =>
    exact ⟨B, L, us, v, Bk, hl, own_kept hown hu (fun k hk => hF k (hb k hk)), hb, hkb, hrow, hdis, fun i hi => ih i hi (fun k hk2 => hF k (hkb i k hi hk2))⟩
theorem TlO.read (h : TlO te w B L v) : TlR B w L v := by
  induction h with
  | mk B L us v Bk hl hown hb hkb hrow hdis hk ih =>
    exact .mk L us v hl ((SlR.of_own hown).weaken hb) (fun i hi => (ih i hi).weaken (fun k hk2 => hkb i k hi hk2))
end
def okP : Tm → List Nat → Prop
  | _, [] => True
  | t, i :: p => i < t.kids.length ∧ okP (tg t.kids i) p
def tmAt : Tm → List Nat → Tm
  | t, [] => t
  | t, i :: p => tmAt (tg t.kids i) p
def AdrP (w : World) : List Nat → Nat × Nat → Nat × Nat → Prop
  | [], a, a' => a' = a
  | i :: p, a, a' => ∃ g off n c, w.cell? ⟨a.1, a.2 + 2, none⟩ = some (.slice (some ⟨g, off, none⟩) n c) ∧ AdrP w p (g, off + i * 3) a'
def st3 (w : World) (a : Nat × Nat) (n s : By) (u : Value) : World := ((w.setCell ⟨a.1, a.2, none⟩ (.string n)).setCell ⟨a.1, a.2 + 1, none⟩ (.string s)).setCell ⟨a.1, a.2 + 2, none⟩ u
theorem st3_upd (w : World) (a : Nat × Nat) (n s : By) (u : Value) : Upd (fun k => k = a.1) w (st3 w a n s u) :=
  (((Upd.refl (fun k => k = a.1) w).setCell (p := ⟨a.1, a.2, none⟩) (.inl rfl) _).setCell (p := ⟨a.1, a.2 + 1, none⟩) (.inl rfl) _).setCell (p := ⟨a.1, a.2 + 2, none⟩) (.inl rfl) _
theorem own_setN {w : World} {b : Nat} {e : TypeId} {g cap n size : Nat} {xs : List Value} (h : w.ownsRow b e size (.slice (some ⟨g, 0, none⟩) n cap) n xs) (j : Nat) (u : Value) :
    (w.setCell ⟨g, j, none⟩ u).ownsRow b e size (.slice (some ⟨g, 0, none⟩) n cap) n (xs.set j u) := by
  obtain ⟨h1, ⟨e0, _⟩ | ⟨g', cap', cur, e0, h3, h4, h5, h6, h7, h8⟩⟩ := h
  · cases e0
  · injection e0 with e1 e2 e3
    injection e1 with e1
    injection e1 with e1
    subst e1; subst e3
    refine ⟨by rw [List.length_set]; exact h1, .inr ⟨g, cap, _, rfl, h3, setBlock h4 j u, h5, h6, by rw [Array.size_setIfInBounds]; exact h7, ?_⟩⟩
    rw [← h8, Array.toList_setIfInBounds, List.take_set]
theorem tCells_set : ∀ (L : List Tm) (us : List Value) (i : Nat) (y : Tm) (u : Value), us.length = L.length → i < L.length → (((tCells L us).set (i * 3) (.string y.name)).set (i * 3 + 1) (.string y.sort)).set (i * 3 + 2) u = tCells (L.set i y) (us.set i u)
  | t :: L, a :: us, 0, y, u, _, _ => rfl
  | t :: L, a :: us, i + 1, y, u, hl, hi => by
    have ih := tCells_set L us i y u (by simpa using hl) (by simpa using hi)
    rw [show (i + 1) * 3 = i * 3 + 1 + 1 + 1 by omega]
    simp only [tCells, List.headD_cons, List.tail_cons, List.set_cons_succ, ← ih]
theorem tCells_same : ∀ (L : List Tm) (us : List Value) (i : Nat) (y : Tm), y.name = (tg L i).name → y.sort = (tg L i).sort → tCells (L.set i y) us = tCells L us
  | [], _, _, _, _, _ => rfl
  | t :: L, us, 0, y, h1, h2 => by
    simp only [List.set_cons_zero, tCells]
    rw [show y.name = t.name from h1, show y.sort = t.sort from h2]
  | t :: L, us, i + 1, y, h1, h2 => by
    simp only [List.set_cons_succ, tCells]
    rw [tCells_same L us.tail i y h1 h2]
theorem tg_set (L : List Tm) (i j : Nat) (y : Tm) (hi : i < L.length) : tg (L.set i y) j = if i = j then y else tg L j := by
  unfold tg
  rw [List.getD_eq_getElem?_getD, List.getElem?_set]
  by_cases h : i = j
  · subst h
    rw [if_pos rfl, if_pos rfl, if_pos hi]; rfl
  · rw [if_neg h, if_neg h, List.getD_eq_getElem?_getD]
theorem ug_set (us : List Value) (i j : Nat) (u : Value) (hi : i < us.length) : ug (us.set i u) j = if i = j then u else ug us j := by
  unfold ug
  rw [List.getD_eq_getElem?_getD, List.getElem?_set]
  by_cases h : i = j
  · subst h
    rw [if_pos rfl, if_pos rfl, if_pos hi]; rfl
  · rw [if_neg h, if_neg h, List.getD_eq_getElem?_getD]
theorem own_row0 {w : World} {b : Nat} {e : TypeId} {size n : Nat} {v : Value} {xs : List Value} (h : w.ownsRow b e size v n xs) (hn : 0 < n) : ∃ g cap cur, v = .slice (some ⟨g, 0, none⟩) n cap ∧ w.heap[g]? = some (.cells cur e (0, 0)) ∧ n * size ≤ cur.size := by
  rcases h.2 with ⟨_, h2⟩ | ⟨g, cap, cur, rfl, hb, hg, hc, hm, hs, ht⟩
  · omega
  · exact ⟨g, cap, cur, rfl, hg, by rw [hs]; exact Nat.mul_le_mul_right _ hc⟩
theorem put_list {te : TypeId} {w : World} (y : Tm) (u : Value) (S : Nat → Prop) (hy : TlR S w y.kids u) : ∀ (p : List Nat) (i : Nat) (L : List Tm) (v : Value) (B : Nat → Prop) (g n c : Nat) (a : Nat × Nat), TlO te w B L v → (∀ k, S k → ¬ B k) → v = .slice (some ⟨g, 0, none⟩) n c → i < L.length → okP (tg L i) p → AdrP w p (g, i * 3) a →
    B a.1 ∧ (∃ cur, w.heap[a.1]? = some (.cells cur te (0, 0)) ∧ a.2 + 2 < cur.size) ∧ TlR (fun k => B k ∨ S k) (st3 w a y.name y.sort u) (L.set i (putAt (tg L i) p y)) v
  | [], i, L, v, B, g, n, c, a, h, hS, hv, hi, hp, ha => by
    have ha : a = (g, i * 3) := ha
    subst ha
    cases h with
    | mk _ _ us _ Bk hl hown hb hkb hrow hdis hk =>
      obtain ⟨g', cap, cur, hv', hg, hsz⟩ := own_row0 hown (by omega)
      rw [hv] at hv'
      injection hv' with e1 e2 e3
      injection e1 with e1
      injection e1 with e1
      subst e1
      have hBg : B g := hb g (by rw [hv]; rfl)
      refine ⟨hBg, ⟨cur, hg, by show i * 3 + 2 < _; omega⟩, ?_⟩
      have hU := st3_upd w (g, i * 3) y.name y.sort u
      have hown2 : (st3 w (g, i * 3) y.name y.sort u).ownsRow 0 te 3 v L.length (tCells (L.set i y) (us.set i u)) := by
        rw [← tCells_set L us i y u hl hi]
        rw [hv, e2] at hown ⊢
        exact own_setN (own_setN (own_setN hown _ _) _ _) _ _
      have e4 : putAt (tg L i) [] y = y := by cases tg L i; rfl
      rw [e4]
      refine .mk _ (us.set i u) v (by simp [hl]) (by rw [List.length_set]; exact (SlR.of_own hown2).weaken (fun k hk => .inl (hb k hk))) (fun j hj => ?_)
      rw [List.length_set] at hj
      rw [tg_set L i j y hi, ug_set us i j u (by omega)]
      by_cases hij : i = j
      · rw [if_pos hij, if_pos hij]
        exact (hy.kept hU (fun k hk e => hS k hk (by rw [show k = g from e]; exact hBg))).weaken (fun k hk => .inr hk)
      · rw [if_neg hij, if_neg hij]
        exact ((hk j hj).kept hU (fun k hk e => hrow j k hj hk (by rw [hv, show k = g from e]; rfl))).read.weaken (fun k hk => .inl (hkb j k hj hk))
  | i' :: p, i, L, v, B, g, n, c, a, h, hS, hv, hi, hp, ha => by
    cases h with
    | mk _ _ us _ Bk hl hown hb hkb hrow hdis hk =>
      obtain ⟨g', cap, cur, hv', hg, hsz⟩ := own_row0 hown (by omega)
      have hv2 := hv
      rw [hv] at hv'
      injection hv' with e1 e2 e3
      injection e1 with e1
      injection e1 with e1
      subst e1
      obtain ⟨g2, off2, n2, c2, hc2, ha2⟩ := ha
      have hcell : w.cell? ⟨g, i * 3 + 2, none⟩ = some (ug us i) := by
        have h1 := SlR.cellAt (SlR.of_own hown) (g := g) (off := 0) (by rw [hv]) (j := i * 3 + 2) (by omega)
        rw [Nat.zero_add] at h1
        rw [h1]
        exact (tCells_at L us i hi).2.2
      rw [hcell] at hc2
      injection hc2 with hc2
      have hki := hk i hi
      have hoff : off2 = 0 := by
        have h0 : 0 < (tg L i).kids.length := by have := hp.1; omega
        cases hki with
        | mk _ _ us2 _ _ _ hown2 _ _ _ _ _ =>
          obtain ⟨g3, c3, cur3, hv3, _, _⟩ := own_row0 hown2 h0
          rw [hc2] at hv3
          injection hv3 with e4 _ _
          injection e4 with e4
          injection e4
      subst hoff
      obtain ⟨h1, h2, h3⟩ := put_list y u S hy p i' (tg L i).kids (ug us i) (Bk i) g2 n2 c2 a hki (fun k hk hb2 => hS k hk (hkb i k hi hb2)) hc2 hp.1 hp.2 (by rw [Nat.zero_add] at ha2; exact ha2)
      have hU := st3_upd w a y.name y.sort u
      refine ⟨hkb i _ hi h1, h2, ?_⟩
      obtain ⟨nm, so, K, hK⟩ : ∃ nm so K, tg L i = .mk nm so K := ⟨_, _, _, (eta _).symm⟩
      have e5 : putAt (tg L i) (i' :: p) y = .mk nm so (K.set i' (putAt (tg K i') p y)) := by rw [hK]; rfl
      rw [hK] at h3
      simp only [Tm.kids] at h3
      rw [e5]
      refine .mk _ us v (by simp [hl]) ?_ (fun j hj => ?_)
      · rw [List.length_set, tCells_same L us i _ (by rw [hK]; rfl) (by rw [hK]; rfl)]
        exact (SlR.kept (SlR.of_own hown) hU (fun k hk e => hrow i k hi (by rw [show k = a.1 from e]; exact h1) hk)).weaken (fun k hk => .inl (hb k hk))
      · rw [List.length_set] at hj
        rw [tg_set L i j _ hi]
        by_cases hij : i = j
        · subst hij
          rw [if_pos rfl]
          simp only [Tm.kids]
          exact h3.weaken (fun k hk => hk.elim (fun hk => .inl (hkb i k hi hk)) .inr)
        · rw [if_neg hij]
          exact ((hk j hj).kept hU (fun k hk2 e => hdis i j k hi hj hij (by rw [show k = a.1 from e]; exact h1) hk2)).read.weaken (fun k hk2 => .inl (hkb j k hj hk2))
theorem put_box {te : TypeId} {w : World} {b : Nat} {B S : Nat → Prop} {t y : Tm} {u0 u : Value} {p : List Nat} {a : Nat × Nat} (hb : w.heap[b]? = some (.cells #[.string t.name, .string t.sort, u0] te (0, 0))) (h : TlO te w B t.kids u0) (hbb : ¬ B b) (hy : TlR S w y.kids u) (hS : ∀ k, S k → ¬ B k ∧ k ≠ b) (hp : okP t p) (ha : AdrP w p (b, 0) a) :
    (a.1 = b ∨ B a.1) ∧ (∃ cur, w.heap[a.1]? = some (.cells cur te (0, 0)) ∧ a.2 + 2 < cur.size) ∧ ∃ u', (st3 w a y.name y.sort u).heap[b]? = some (.cells #[.string (putAt t p y).name, .string (putAt t p y).sort, u'] te (0, 0)) ∧ TlR (fun k => B k ∨ S k) (st3 w a y.name y.sort u) (putAt t p y).kids u' := by
  cases p with
  | nil =>
    have ha : a = (b, 0) := ha
    subst ha
    have e4 : putAt t [] y = y := by cases t; rfl
    rw [e4]
    refine ⟨.inl rfl, ⟨_, hb, by simp⟩, u, ?_, (hy.kept (st3_upd w (b, 0) y.name y.sort u) (fun k hk e => (hS k hk).2 e)).weaken (fun k hk => .inr hk)⟩
    have := setBlock (setBlock (setBlock hb 0 (.string y.name)) 1 (.string y.sort)) 2 u
    simpa [st3] using this
  | cons i p =>
    obtain ⟨g, off, n, c, hc, ha⟩ := ha
    have hcell : w.cell? ⟨b, 0 + 2, none⟩ = some u0 := cellRow hb 2 u0 rfl
    rw [hcell] at hc
    injection hc with hc
    have hoff : off = 0 := by
      have h0 : 0 < t.kids.length := by have := hp.1; omega
      cases h with
      | mk _ _ us2 _ _ _ hown2 _ _ _ _ _ =>
        obtain ⟨g3, c3, cur3, hv3, _, _⟩ := own_row0 hown2 h0
        rw [hc] at hv3
        injection hv3 with e4 _ _
        injection e4 with e4
        injection e4
    subst hoff
    obtain ⟨h1, h2, h3⟩ := put_list y u S hy p i t.kids u0 B g n c a h (fun k hk => (hS k hk).1) hc hp.1 hp.2 (by rw [Nat.zero_add] at ha; exact ha)
    refine ⟨.inr h1, h2, u0, ?_, ?_⟩
    · have e : (putAt t (i :: p) y).name = t.name ∧ (putAt t (i :: p) y).sort = t.sort := by cases t; exact ⟨rfl, rfl⟩
      rw [e.1, e.2]
      exact (st3_upd w a y.name y.sort u).heap hb (fun e => hbb (by rw [show b = a.1 from e]; exact h1))
    · have e : (putAt t (i :: p) y).kids = t.kids.set i (putAt (tg t.kids i) p y) := by cases t; rfl
      rw [e]
      exact h3
end Go.Hw

/- Arrays of a call's own: a block whose first cells are known. -/
namespace Go.Hw
open Go.RowKit
set_option linter.unusedVariables false
set_option linter.unusedSimpArgs false

def Arr (w : World) (b : Nat) (T : TypeId) (vs : List Value) : Prop := ∃ cur : Array Value, w.heap[b]? = some (.cells cur T (0, 0)) ∧ ∀ (j : Nat) (v : Value), vs[j]? = some v → cur[j]? = some v
theorem Arr.lt {w : World} {b : Nat} {T : TypeId} {vs : List Value} (h : Arr w b T vs) : b < w.heap.size := by
  obtain ⟨cur, hb, _⟩ := h
  exact (Array.getElem?_eq_some_iff.1 hb).1
theorem Arr.cell {w : World} {b : Nat} {T : TypeId} {vs : List Value} (h : Arr w b T vs) {j : Nat} {v : Value} (hv : vs[j]? = some v) : w.cell? ⟨b, j, none⟩ = some v := by
  obtain ⟨cur, hb, hc⟩ := h
  exact cellRow hb j v (hc j v hv)
theorem Arr.cell0 {w : World} {b : Nat} {T : TypeId} {vs : List Value} (h : Arr w b T vs) {j : Nat} {v : Value} (hv : vs[j]? = some v) : w.cell? ⟨b, 0 + j, none⟩ = some v := by
  rw [Nat.zero_add]; exact h.cell hv
theorem Arr.kept {F : Nat → Prop} {w w' : World} {b : Nat} {T : TypeId} {vs : List Value} (h : Arr w b T vs) (hu : Upd F w w') (hF : ¬ F b) : Arr w' b T vs := by
  obtain ⟨cur, hb, hc⟩ := h
  exact ⟨cur, hu.heap hb hF, hc⟩
theorem Arr.set {w : World} {b : Nat} {T : TypeId} {vs : List Value} (h : Arr w b T vs) {j : Nat} (hj : j < vs.length) (u : Value) : Arr (w.setCell ⟨b, j, none⟩ u) b T (vs.set j u) := by
  obtain ⟨cur, hb, hc⟩ := h
  have hsz : j < cur.size := by
    have := hc j vs[j] (by simp [hj])
    exact (Array.getElem?_eq_some_iff.1 this).1
  refine ⟨_, setBlock hb j u, fun i v hi => ?_⟩
  by_cases e : i = j
  · subst e
    rw [List.getElem?_set_self hj] at hi
    rw [← hi]
    simp [hsz]
  · rw [List.getElem?_set_ne (Ne.symm e)] at hi
    have := hc i v hi
    rw [← this]
    simp [Array.getElem?_setIfInBounds, Ne.symm e]
theorem Arr.new (w : World) (T : TypeId) (cs : Array Value) : Arr (w.alloc (.cells cs T)) w.heap.size T cs.toList :=
  ⟨cs, alloc0 w _, fun j v h => by simpa using h⟩
end Go.Hw

/- Subterms at paths are well-formed, and known: pure. -/
namespace Go.Hw
open Tm
set_option linter.unusedVariables false
set_option linter.unusedSimpArgs false
theorem nodesD_up (k : Nat) : ∀ (t : Tm) (d : Nat), nodesD (d + k) t = (nodesD d t).map fun p => (p.1, p.2 + k) := by
  refine ind (fun n s L ih d => ?_)
  rw [nodesD_eq, nodesD_eq, nodesDs_flat, nodesDs_flat]
  simp only [kids, List.map_cons, List.map_flatMap]
  congr 1
  induction L with
  | nil => rfl
  | cons a L ihL =>
    simp only [List.flatMap_cons]
    rw [show d + k + 1 = d + 1 + k by omega, ih a (List.mem_cons_self ..) (d + 1)]
    rw [show d + 1 + k = d + k + 1 by omega, ihL (fun x hx => ih x (List.mem_cons_of_mem _ hx))]
theorem nodes_tmAt : ∀ (p : List Nat) (t : Tm) (d : Nat), okP t p → ∃ k, ∀ q ∈ nodesD d (tmAt t p), (q.1, q.2 + k) ∈ nodesD d t
  | [], t, d, _ => ⟨0, fun q hq => hq⟩
  | i :: p, t, d, h => by
    obtain ⟨k, hk⟩ := nodes_tmAt p (tg t.kids i) d h.2
    refine ⟨k + 1, fun q hq => ?_⟩
    have h1 := hk q hq
    have hm : tg t.kids i ∈ t.kids := tg_in h.1
    rw [nodesD_eq, nodesDs_flat]
    refine List.mem_cons_of_mem _ (List.mem_flatMap.2 ⟨_, hm, ?_⟩)
    rw [nodesD_up 1 _ d]
    exact List.mem_map.2 ⟨_, h1, rfl⟩
theorem sbts_tmAt : ∀ (p : List Nat) (t : Tm), okP t p → ∀ y ∈ sbts (tmAt t p), y ∈ sbts t
  | [], t, _ => fun y hy => hy
  | i :: p, t, h => fun y hy => mem_sbts_kid (tg_in h.1) (sbts_tmAt p _ h.2 y hy)
theorem size_tmAt : ∀ (p : List Nat) (t : Tm), okP t p → (tmAt t p).size ≤ t.size
  | [], t, _ => Nat.le_refl _
  | i :: p, t, h => by
    have h1 := size_tmAt p _ h.2
    have h2 := size_kid (tg_in h.1)
    show (tmAt (tg t.kids i) p).size ≤ _
    omega
theorem okN_less {nm : By → Bool} {x : Tm} {d k : Nat} (h : okN nm (x, d + k) = true) : okN nm (x, d) = true := by
  unfold okN at h ⊢
  rw [Bool.and_eq_true, decide_eq_true_eq] at h ⊢
  exact ⟨by have := h.1; simp only at this ⊢; omega, h.2⟩
theorem vl_sub {l m : List Tm} (h : ∀ x ∈ l, x ∈ m) : ∀ f ∈ vl l, f ∈ vl m := by
  intro f hf
  unfold vl at hf ⊢
  obtain ⟨x, hx, h2⟩ := List.mem_filterMap.1 hf
  exact List.mem_filterMap.2 ⟨x, h x hx, h2⟩
theorem wf_tmAt {nm : By → Bool} {t : Tm} {p : List Nat} (h : wf nm t = true) (hp : okP t p) : wf nm (tmAt t p) = true := by
  unfold wf at h ⊢
  rw [Bool.and_eq_true] at h ⊢
  obtain ⟨h1, h2⟩ := (formed_iff nm t).1 h.1
  refine ⟨(formed_iff nm _).2 ⟨Nat.le_trans (size_tmAt p t hp) h1, fun q hq => ?_⟩, ?_⟩
  · obtain ⟨k, hk⟩ := nodes_tmAt p t 1 hp
    exact okN_less (h2 _ (hk q hq))
  · rw [sortsT_iff] at h ⊢
    have hs := vl_sub (sbts_tmAt p t hp)
    exact fun f hf g hg e => h.2 f (hs f hf) g (hs g hg) e
end Go.Hw

/- Signatures: what is wrong with a term in preorder; what a put term keeps of its sort: pure. -/
namespace Go.Hw
open Tm
set_option linter.unusedVariables false
set_option linter.unusedSimpArgs false
theorem putAt_nil (t u : Tm) : putAt t [] u = u := by cases t; rfl
theorem putAt_cons (n s : By) (L : List Tm) (i : Nat) (p : List Nat) (u : Tm) : putAt (.mk n s L) (i :: p) u = .mk n s (L.set i (putAt (tg L i) p u)) := rfl
theorem tg_memX {L : List Tm} {i : Nat} (h : i < L.length) : tg L i ∈ L := by unfold tg; rw [List.getD_eq_getElem?_getD, List.getElem?_eq_getElem h]; exact List.getElem_mem h
def dcl (g : Sg) (n : By) : Option Dc := g.2.find? fun o => decide (o.1 = n)
def ownT (g : Sg) (t : Tm) : By := if t.sort ≠ nul then t.sort else match dcl g t.name with
  | some o => o.2.2
  | none => nul
def argE (g : Sg) : List Tm → List By → Bool
  | [], _ => true
  | _ :: _, [] => true
  | x :: L, a :: zs => (decide (ownT g x = nul) || decide (ownT g x = a)) && argE g L zs
def ndE (g : Sg) (t : Tm) : Int := if t.sort ≠ nul then (if t.sort ∈ g.1 then 0 else 9) else match dcl g t.name with
  | none => 9
  | some o => if t.kids.length ≠ o.2.1.length then 3 else if argE g t.kids o.2.1 = true then 0 else 11
def wrgL (g : Sg) : List Tm → Int
  | [] => 0
  | x :: l => if ndE g x ≠ 0 then ndE g x else wrgL g l
def wrgT (g : Sg) (t : Tm) : Int := wrgL g (sbts t)
abbrev WS (g : Sg) (t : Tm) : Prop := ∀ x ∈ sbts t, ndE g x = 0
theorem wrgL_iff (g : Sg) : ∀ l : List Tm, wrgL g l = 0 ↔ ∀ x ∈ l, ndE g x = 0
  | [] => by simp [wrgL]
  | x :: l => by
    unfold wrgL
    by_cases h : ndE g x = 0
    · simp [h, wrgL_iff g l]
    · simp [h]
theorem wrgT_iff (g : Sg) (t : Tm) : wrgT g t = 0 ↔ WS g t := wrgL_iff g _
theorem WS.kid {g : Sg} {t x : Tm} (h : WS g t) (hx : x ∈ t.kids) : WS g x := fun y hy => h y (mem_sbts_kid hx hy)
theorem nd_op {g : Sg} {n : By} {L : List Tm} : ndE g (.mk n nul L) = 0 ↔ ∃ o, dcl g n = some o ∧ L.length = o.2.1.length ∧ argE g L o.2.1 = true := by
  unfold ndE
  simp only [Tm.sort, Tm.name, Tm.kids, ne_eq, not_true_eq_false, if_false]
  cases h : dcl g n with
  | none => simp
  | some o =>
    simp only [Option.some.injEq, exists_eq_left']
    by_cases h1 : L.length = o.2.1.length
    · by_cases h2 : argE g L o.2.1 = true
      · simp [h1, h2]
      · simp [h1, h2]
    · simp [h1]
theorem ws_op {g : Sg} {n : By} {L : List Tm} : WS g (.mk n nul L) ↔ (∃ o, dcl g n = some o ∧ L.length = o.2.1.length ∧ argE g L o.2.1 = true) ∧ ∀ x ∈ L, WS g x := by
  constructor
  · intro h
    exact ⟨nd_op.1 (h _ (mem_sbts_self _)), fun x hx => h.kid (t := .mk n nul L) hx⟩
  · rintro ⟨h1, h2⟩ x hx
    rw [sbts_eq, List.mem_cons] at hx
    rcases hx with rfl | hx
    · exact nd_op.2 h1
    · obtain ⟨y, hy, hx⟩ := List.mem_flatMap.1 hx
      exact h2 y hy x hx
theorem argE_iff {g : Sg} : ∀ {L : List Tm} {zs : List By}, L.length = zs.length → (argE g L zs = true ↔ ∀ i, i < L.length → ownT g (tg L i) = nul ∨ ownT g (tg L i) = zs.getD i nul)
  | [], zs, _ => by simp [argE]
  | x :: L, [], h => by cases h
  | x :: L, a :: zs, h => by
    unfold argE
    rw [Bool.and_eq_true, Bool.or_eq_true, decide_eq_true_eq, decide_eq_true_eq, argE_iff (L := L) (zs := zs) (by simpa using h)]
    constructor
    · rintro ⟨h1, h2⟩ i hi
      match i, hi with
      | 0, _ => exact h1
      | i + 1, hi => exact h2 i (by simpa using hi)
    · intro h1
      exact ⟨h1 0 (by simp), fun i hi => h1 (i + 1) (by simpa using hi)⟩
theorem argE_congr {g : Sg} : ∀ {L M : List Tm} {zs : List By}, L.length = M.length → (∀ i, i < L.length → ownT g (tg L i) = ownT g (tg M i)) → argE g L zs = argE g M zs
  | [], [], _, _, _ => rfl
  | x :: L, y :: M, [], _, _ => rfl
  | x :: L, y :: M, a :: zs, h, hk => by
    have h0 : ownT g x = ownT g y := hk 0 (by simp)
    unfold argE
    rw [h0, argE_congr (L := L) (M := M) (zs := zs) (by simpa using h) (fun i hi => hk (i + 1) (by simpa using hi))]
theorem own_var {g : Sg} {n s : By} (h : s ≠ nul) (L : List Tm) : ownT g (.mk n s L) = s := by
  exact if_pos h
theorem own_op {g : Sg} {n : By} {o : Dc} (h : dcl g n = some o) (L : List Tm) : ownT g (.mk n nul L) = o.2.2 := by
  unfold ownT
  simp only [Tm.sort, Tm.name, ne_eq, not_true_eq_false, if_false]
  rw [h]
theorem own_opn {g : Sg} {n : By} (L M : List Tm) : ownT g (.mk n nul L) = ownT g (.mk n nul M) := rfl
def ResOk (g : Sg) : Prop := ∀ o ∈ g.2, o.2.2 ≠ nul
theorem dcl_mem {g : Sg} {n : By} {o : Dc} (h : dcl g n = some o) : o ∈ g.2 := List.mem_of_find?_eq_some h
theorem ws_own_ne {g : Sg} (hg : ResOk g) {t : Tm} (h : WS g t) : ownT g t ≠ nul := by
  obtain ⟨n, s, L⟩ := t
  by_cases hs : s = nul
  · subst hs
    obtain ⟨⟨o, h1, _⟩, _⟩ := ws_op.1 h
    rw [own_op h1]
    exact hg o (dcl_mem h1)
  · rw [own_var hs]; exact hs
theorem ws_tmAt {g : Sg} : ∀ (p : List Nat) (t : Tm), okP t p → WS g t → WS g (tmAt t p)
  | [], t, _, h => h
  | i :: p, t, hp, h => ws_tmAt p _ hp.2 (h.kid (tg_memX hp.1))
theorem ws_put {g : Sg} {z : Tm} (hz : WS g z) : ∀ (p : List Nat) (t : Tm), okP t p → NoP t → WS g t → ownT g z = ownT g (tmAt t p) → WS g (putAt t p z) ∧ ownT g (putAt t p z) = ownT g t
  | [], t, _, _, h, ho => by rw [putAt_nil]; exact ⟨hz, ho⟩
  | i :: p, .mk n s L, hp, hn, h, ho => by
    have hs : s = nul := Classical.byContradiction fun hs => by
      have hL : L = [] := hn (.mk n s L) (mem_sbts_self _) hs
      have := hp.1
      rw [show (Tm.mk n s L).kids = L from rfl, hL] at this
      cases this
    subst hs
    have hi : i < L.length := hp.1
    rw [putAt_cons]
    obtain ⟨⟨o, h1, h2, h3⟩, h4⟩ := ws_op.1 h
    have hk := ws_put hz p (tg L i) hp.2 (hn.kid (t := .mk n nul L) (tg_memX hi)) (h4 _ (tg_memX hi)) ho
    refine ⟨ws_op.2 ⟨⟨o, h1, by simpa using h2, ?_⟩, fun y hy => ?_⟩, own_opn _ _⟩
    · rw [← h3]
      refine argE_congr (by simp) (fun j hj => ?_)
      have hj' : j < L.length := by simpa using hj
      by_cases e : j = i
      · subst e
        have : tg (L.set j (putAt (tg L j) p z)) j = putAt (tg L j) p z := by
          unfold tg
          rw [List.getD_eq_getElem?_getD, List.getElem?_set_self hj']
          rfl
        rw [this]
        exact hk.2
      · have : tg (L.set i (putAt (tg L i) p z)) j = tg L j := by
          unfold tg
          rw [List.getD_eq_getElem?_getD, List.getElem?_set_ne (fun h => e h.symm), ← List.getD_eq_getElem?_getD]
        rw [this]
    · rcases List.mem_or_eq_of_mem_set hy with hy | hy
      · exact h4 y hy
      · rw [hy]; exact hk.1

theorem dcl_ix (g : Sg) (n : By) : dcl g n = if dixN g.2 n < g.2.length then some (dg g.2 (dixN g.2 n)) else none := by
  unfold dcl dixN
  generalize g.2 = l
  induction l with
  | nil => rfl
  | cons a l ih =>
    rw [List.find?_cons, List.findIdx_cons]
    by_cases h : a.1 = n
    · rw [decide_eq_true h]
      simp [dg]
    · rw [decide_eq_false h]
      simp only [cond_false, Bool.false_eq_true, if_false]
      rw [ih]
      by_cases h2 : (l.findIdx fun d => decide (d.1 = n)) < l.length
      · rw [if_pos h2, if_pos (by simpa using h2)]; rfl
      · rw [if_neg h2, if_neg (by simpa using h2)]
theorem own_eq (g : Sg) (t : Tm) : ownT g t = ownF g t := by
  unfold ownT ownF
  rw [dcl_ix]
  by_cases h : t.sort ≠ nul
  · rw [if_pos h, if_pos h]
  · rw [if_neg h, if_neg h]
    by_cases h2 : dixN g.2 t.name < g.2.length
    · rw [if_pos h2, if_pos h2]
    · rw [if_neg h2, if_neg h2]
theorem arg_bad (g : Sg) {L : List Tm} {A : List By} (h : L.length = A.length) : argE g L A = !badK g L A := by
  rw [Bool.eq_iff_iff, argE_iff h, Bool.not_eq_true', badK, List.any_eq_false]
  constructor
  · intro h1 k hk
    have := h1 k (List.mem_range.1 hk)
    rw [own_eq] at this
    rcases this with h2 | h2
    · rw [decide_eq_true h2]; simp
    · rw [decide_eq_true h2]; simp
  · intro h1 k hk
    have := h1 k (List.mem_range.2 hk)
    rw [own_eq]
    by_cases h2 : ownF g (tg L k) = nul
    · exact .inl h2
    · by_cases h3 : ownF g (tg L k) = A.getD k nul
      · exact .inr h3
      · rw [decide_eq_false h2, decide_eq_false h3] at this; exact absurd rfl this
theorem nd_eq (g : Sg) (n s : By) (L : List Tm) : ndE g (.mk n s L) = if s ≠ nul then (if s ∈ g.1 then 0 else 9) else if ¬ dixN g.2 n < g.2.length then 9 else if L.length ≠ (dg g.2 (dixN g.2 n)).2.1.length then 3 else if badK g L (dg g.2 (dixN g.2 n)).2.1 = true then 11 else 0 := by
  change (if s ≠ nul then (if s ∈ g.1 then (0 : Int) else 9) else match dcl g n with | none => 9 | some o => if L.length ≠ o.2.1.length then 3 else if argE g L o.2.1 = true then 0 else 11) = _
  by_cases h : s ≠ nul
  · rw [if_pos h, if_pos h]
  · rw [if_neg h, if_neg h, dcl_ix]
    by_cases h2 : dixN g.2 n < g.2.length
    · rw [if_pos h2, if_neg (by simpa using h2)]
      dsimp only
      by_cases h3 : L.length ≠ (dg g.2 (dixN g.2 n)).2.1.length
      · rw [if_pos h3, if_pos h3]
      · rw [if_neg h3, if_neg h3, arg_bad g (Classical.not_not.1 h3)]
        cases badK g L (dg g.2 (dixN g.2 n)).2.1 <;> simp
    · rw [if_neg h2, if_pos h2]
theorem wrgL_app (g : Sg) (a b : List Tm) : wrgL g (a ++ b) = if wrgL g a ≠ 0 then wrgL g a else wrgL g b := by
  induction a with
  | nil => simp [wrgL]
  | cons x a ih =>
    rw [List.cons_append, wrgL, wrgL]
    by_cases h : ndE g x ≠ 0
    · rw [if_pos h, if_pos h, if_pos h]
    · rw [if_neg h, if_neg h, ih]
theorem wrg_eq (g : Sg) : ∀ t : Tm, NoP t → wrgT g t = wrongF g t := by
  refine Tm.ind (fun n s L ih hn => ?_)
  unfold wrgT
  rw [sbts_eq, wrgL, wrongF_mk, nd_eq]
  have hL : wrgL g ((Tm.mk n s L).kids.flatMap sbts) = wrongsF g L := by
    have key : ∀ M : List Tm, (∀ x ∈ M, wrgT g x = wrongF g x) → wrgL g (M.flatMap sbts) = wrongsF g M := by
      intro M
      induction M with
      | nil => intro _; simp [wrgL, wrongsF]
      | cons a M ihM =>
        intro h
        rw [List.flatMap_cons, wrgL_app, wrongsF, ihM (fun x hx => h x (List.mem_cons_of_mem _ hx))]
        have := h a (List.mem_cons_self ..)
        unfold wrgT at this
        rw [this]
    exact key L (fun x hx => ih x hx (hn.kid (t := .mk n s L) hx))
  rw [hL]
  by_cases h1 : s ≠ nul
  · have h5 : L = [] := hn (.mk n s L) (mem_sbts_self _) h1
    subst h5
    rw [if_pos h1, if_pos h1]
    by_cases h2 : s ∈ g.1
    · rw [if_pos h2]; simp [wrongsF]
    · rw [if_neg h2]; simp
  rw [if_neg h1, if_neg h1]
  by_cases h2 : ¬ dixN g.2 n < g.2.length
  · rw [if_pos h2, if_pos h2]; simp
  rw [if_neg h2, if_neg h2]
  by_cases h3 : L.length ≠ (dg g.2 (dixN g.2 n)).2.1.length
  · rw [if_pos h3, if_pos h3]; simp
  rw [if_neg h3, if_neg h3]
  by_cases h4 : badK g L (dg g.2 (dixN g.2 n)).2.1 = true
  · rw [if_pos h4, if_pos h4]; simp
  · rw [if_neg h4, if_neg h4]; simp
theorem ws_wrong {g : Sg} {t : Tm} (hn : NoP t) : WS g t ↔ wrongF g t = 0 := by rw [← wrg_eq g t hn, wrgT_iff]
theorem putAt_own (g : Sg) : ∀ (p : List Nat) (t u : Tm), p ≠ [] → ownT g (putAt t p u) = ownT g t
  | [], _, _, h => absurd rfl h
  | i :: p, .mk n s L, u, _ => rfl
theorem put_type {g : Sg} (hg : ResOk g) {u : Tm} (hu : WS g u) : ∀ (p : List Nat) (t : Tm), p ≠ [] → okP t p → NoP t → WS g t → ownT g u ≠ ownT g (tmAt t p) → wrongF g (putAt t p u) = 11
  | [], _, h, _, _, _, _ => absurd rfl h
  | i :: p, .mk n s L, _, hp, hn, h, ho => by
    have hs : s = nul := Classical.byContradiction fun hs => by
      have hL : L = [] := hn (.mk n s L) (mem_sbts_self _) hs
      have := hp.1
      rw [show (Tm.mk n s L).kids = L from rfl, hL] at this
      cases this
    subst hs
    have hi : i < L.length := hp.1
    rw [putAt_cons]
    obtain ⟨⟨o, h1, h2, h3⟩, h4⟩ := ws_op.1 h
    rw [dcl_ix] at h1
    by_cases hd : dixN g.2 n < g.2.length
    case neg => rw [if_neg hd] at h1; cases h1
    rw [if_pos hd] at h1
    injection h1 with h1
    rw [wrongF_mk, if_neg (by simp), if_neg (by simpa using hd), h1, List.length_set, if_neg (by simpa using h2)]
    have hgs : ∀ j, j < L.length → ∀ y, tg (L.set i y) j = if i = j then y else tg L j := fun j hj y => by
      unfold tg
      rw [List.getD_eq_getElem?_getD, List.getElem?_set]
      by_cases e : i = j
      · subst e; rw [if_pos rfl, if_pos rfl, if_pos hi]; rfl
      · rw [if_neg e, if_neg e, ← List.getD_eq_getElem?_getD]
    have h5 := (argE_iff h2).1 h3
    by_cases hp0 : p = []
    · subst hp0
      rw [if_pos]
      rw [putAt_nil]
      have h6 := (h5 i hi).resolve_left (ws_own_ne hg (h4 _ (tg_memX hi)))
      have h7 : ownT g u ≠ o.2.1.getD i nul := fun e => ho (by rw [e, ← h6]; rfl)
      unfold badK
      rw [List.any_eq_true]
      refine ⟨i, List.mem_range.2 (by simpa using hi), ?_⟩
      rw [hgs i hi, if_pos rfl, ← own_eq]
      simp [ws_own_ne hg hu]
      simpa using h7
    · have hb : badK g (L.set i (putAt (tg L i) p u)) o.2.1 = badK g L o.2.1 := by
        have e1 : argE g (L.set i (putAt (tg L i) p u)) o.2.1 = argE g L o.2.1 := by
          refine argE_congr (by simp) (fun j hj => ?_)
          rw [hgs j (by simpa using hj)]
          by_cases e : i = j
          · subst e; rw [if_pos rfl, putAt_own g p _ u hp0]
          · rw [if_neg e]
        rw [arg_bad g (by simpa using h2), arg_bad g h2] at e1
        simpa using e1
      have hb2 : ¬ badK g L o.2.1 = true := by
        rw [arg_bad g h2] at h3
        simpa using h3
      rw [hb, if_neg hb2]
      have ih := put_type hg hu p (tg L i) hp0 hp.2 (hn.kid (t := .mk n nul L) (tg_memX hi)) (h4 _ (tg_memX hi)) ho
      have hx : tg (L.set i (putAt (tg L i) p u)) i = putAt (tg L i) p u := by rw [hgs i hi, if_pos rfl]
      rw [wrongsF_hit g _ i (by simpa using hi) (fun j hj => ?_) (by rw [hx, ih]; decide), hx, ih]
      have hj3 : j < L.length := by omega
      rw [hgs j hj3, if_neg (by omega)]
      exact (ws_wrong (hn.kid (t := .mk n nul L) (tg_memX hj3))).1 (h4 _ (tg_memX hj3))
end Go.Hw

/- Tokens, in memory and read: pure. -/
namespace Go.Hw
open Go.RowKit Tm
set_option linter.unusedVariables false
set_option linter.unusedSimpArgs false
structure Tok where
  kind : Nat
  text : By
  n : Int
  line : Int
  col : Int
def tok0 : Tok := ⟨0, nul, 0, 0, 0⟩
abbrev tk (l : List Tok) (i : Nat) : Tok := l.getD i tok0
def tkC (t : Tok) : List Value := [.int .i64 (t.kind : Int), .string t.text, .int .i64 t.n, .int .i64 t.line, .int .i64 t.col]
def tkCells : List Tok → List Value
  | [] => []
  | t :: l => .int .i64 (t.kind : Int) :: .string t.text :: .int .i64 t.n :: .int .i64 t.line :: .int .i64 t.col :: tkCells l
theorem tkCells_snoc : ∀ (l : List Tok) (t : Tok), tkCells (l ++ [t]) = tkCells l ++ tkC t
  | [], t => rfl
  | a :: l, t => by simp only [List.cons_append, tkCells, tkCells_snoc l t]
theorem tkCells_at : ∀ (l : List Tok) (i : Nat), i < l.length →
    (tkCells l)[i * 5]? = some (.int .i64 ((tk l i).kind : Int)) ∧ (tkCells l)[i * 5 + 1]? = some (.string (tk l i).text) ∧ (tkCells l)[i * 5 + 2]? = some (.int .i64 (tk l i).n) ∧ (tkCells l)[i * 5 + 3]? = some (.int .i64 (tk l i).line) ∧ (tkCells l)[i * 5 + 4]? = some (.int .i64 (tk l i).col)
  | t :: l, 0, _ => ⟨rfl, rfl, rfl, rfl, rfl⟩
  | t :: l, i + 1, h => by
    obtain ⟨h0, h1, h2, h3, h4⟩ := tkCells_at l i (by simpa using h)
    have e : ∀ k, (tkCells (t :: l))[(i + 1) * 5 + k]? = (tkCells l)[i * 5 + k]? := fun k => by
      rw [show (i + 1) * 5 + k = i * 5 + k + 1 + 1 + 1 + 1 + 1 by omega]
      rfl
    exact ⟨by rw [← Nat.add_zero ((i + 1) * 5), e]; exact h0, by rw [e]; exact h1, by rw [e]; exact h2, by rw [e]; exact h3, by rw [e]; exact h4⟩
def TkR (S : Nat → Prop) (w : World) (v : Value) (l : List Tok) : Prop := SlR S w 5 v l.length (tkCells l)
theorem TkR.kept {S F : Nat → Prop} {w w' : World} {v : Value} {l : List Tok} (h : TkR S w v l) (hu : Upd F w w') (hF : ∀ k, S k → ¬ F k) : TkR S w' v l := SlR.kept h hu hF
theorem TkR.ext {S : Nat → Prop} {w w' : World} {v : Value} {l : List Tok} (h : TkR S w v l) (hu : Ext w w') : TkR S w' v l := SlR.kept h hu (fun _ _ h => h)
theorem TkR.at_ {S : Nat → Prop} {w : World} {l : List Tok} {a : Option Addr} {n cap : Nat} (h : TkR S w (.slice a n cap) l) (hl : 0 < l.length) :
    n = l.length ∧ ∃ g off, a = some ⟨g, off, none⟩ ∧ S g ∧ ∀ i, i < l.length → w.cell? ⟨g, off + i * 5, none⟩ = some (.int .i64 ((tk l i).kind : Int)) ∧ w.cell? ⟨g, off + i * 5 + 1, none⟩ = some (.string (tk l i).text) ∧
      w.cell? ⟨g, off + i * 5 + 2, none⟩ = some (.int .i64 (tk l i).n) ∧ w.cell? ⟨g, off + i * 5 + 3, none⟩ = some (.int .i64 (tk l i).line) ∧ w.cell? ⟨g, off + i * 5 + 4, none⟩ = some (.int .i64 (tk l i).col) := by
  obtain ⟨g, off, cap', e, hc, hS, hj⟩ := SlR.pos h hl
  injection e with e1 e2 e3
  refine ⟨e2, g, off, e1, hS, fun i hi => ?_⟩
  obtain ⟨h0, h1, h2, h3, h4⟩ := tkCells_at l i hi
  exact ⟨by rw [hj _ (by omega), h0], by rw [Nat.add_assoc, hj _ (by omega), h1], by rw [Nat.add_assoc, hj _ (by omega), h2], by rw [Nat.add_assoc, hj _ (by omega), h3], by rw [Nat.add_assoc, hj _ (by omega), h4]⟩
/-! ### what is read from tokens -/
def isB (t : Tok) (s : By) : Bool := (decide (t.kind = 4) || decide (t.kind = 3)) && decide (t.text = s)
inductive PR (α : Type) where
  | ok (x : α) (i : Nat)
  | bad (i : Nat)
def PR.at {α : Type} : PR α → Nat
  | .ok _ i => i
  | .bad i => i
def sLp : By := ⟨#[40]⟩
def sRp : By := ⟨#[41]⟩
def sCm : By := ⟨#[44]⟩
def sCl : By := ⟨#[58]⟩
def pL {α : Type} (el : Nat → PR α) (l : List Tok) : Nat → Nat → Bool → List α → PR (List α)
  | 0, i, _, _ => .bad i
  | m + 1, i, first, xs => if isB (tk l i) sRp = true then .ok xs (i + 1) else
    if first = false ∧ isB (tk l i) sCm = false then .bad i else
    match el (if first = true then i else i + 1) with
    | .bad j => .bad j
    | .ok x j => pL el l m j false (xs ++ [x])
def pP {α : Type} (el : Nat → PR α) (l : List Tok) (i : Nat) : PR (List α) := if isB (tk l i) sLp = true then pL el l (l.length - i) (i + 1) true [] else .bad i
def pT (l : List Tok) : Nat → Nat → PR Tm
  | 0, i => .bad i
  | n + 1, i => if (tk l i).kind ≠ 1 then .bad i else
    if isB (tk l (i + 1)) sCl = true then (if (tk l (i + 2)).kind ≠ 1 then .bad (i + 2) else .ok (.mk (tk l i).text (tk l (i + 2)).text []) (i + 3)) else
    match pP (pT l n) l (i + 1) with
    | .bad j => .bad j
    | .ok L j => .ok (.mk (tk l i).text nul L) j
structure Ended (l : List Tok) : Prop where
  pos : 0 < l.length
  fin : (tk l (l.length - 1)).kind = 5
  inn : ∀ i, i < l.length - 1 → (tk l i).kind ≠ 5
theorem Ended.next {l : List Tok} (h : Ended l) {i : Nat} (hi : i < l.length) (hk : (tk l i).kind ≠ 5) : i + 1 < l.length := by
  rcases Nat.lt_or_ge (i + 1) l.length with h1 | h1
  · exact h1
  · have : i = l.length - 1 := by omega
    rw [this, h.fin] at hk
    exact absurd rfl hk
theorem isB_kind {t : Tok} {s : By} (h : isB t s = true) : t.kind ≠ 5 := by
  unfold isB at h
  rw [Bool.and_eq_true, Bool.or_eq_true, decide_eq_true_eq, decide_eq_true_eq] at h
  omega
theorem Ended.isB {l : List Tok} (h : Ended l) {i : Nat} (hi : i < l.length) {s : By} (hb : isB (tk l i) s = true) : i + 1 < l.length := h.next hi (isB_kind hb)
def Fwd {α : Type} (l : List Tok) (el : Nat → PR α) : Prop := ∀ i, i < l.length → i ≤ (el i).at ∧ (el i).at < l.length ∧ ∀ x j, el i = .ok x j → i < j
theorem pL_fwd {α : Type} {l : List Tok} (h : Ended l) {el : Nat → PR α} (he : Fwd l el) : ∀ (m i : Nat) (first : Bool) (xs : List α), i < l.length → i ≤ (pL el l m i first xs).at ∧ (pL el l m i first xs).at < l.length
  | 0, i, _, _, hi => ⟨Nat.le_refl _, hi⟩
  | m + 1, i, first, xs, hi => by
    unfold pL
    by_cases h1 : Hw.isB (tk l i) sRp = true
    · rw [if_pos h1]
      exact ⟨Nat.le_succ _, h.isB hi h1⟩
    rw [if_neg h1]
    by_cases h2 : first = false ∧ Hw.isB (tk l i) sCm = false
    · rw [if_pos h2]
      exact ⟨Nat.le_refl _, hi⟩
    rw [if_neg h2]
    have hi2 : (if first = true then i else i + 1) < l.length ∧ i ≤ (if first = true then i else i + 1) := by
      cases first
      · have h3 : Hw.isB (tk l i) sCm = true := by
          cases h4 : Hw.isB (tk l i) sCm
          · exact absurd ⟨rfl, h4⟩ h2
          · rfl
        rw [if_neg (by decide)]
        exact ⟨h.isB hi h3, Nat.le_succ _⟩
      · rw [if_pos rfl]; exact ⟨hi, Nat.le_refl _⟩
    obtain ⟨h5, h6, h7⟩ := he _ hi2.1
    cases he2 : el (if first = true then i else i + 1) with
    | bad j => rw [he2] at h5 h6; exact ⟨Nat.le_trans hi2.2 h5, h6⟩
    | ok x j =>
      rw [he2] at h5 h6
      have h8 := pL_fwd h he m j false (xs ++ [x]) h6
      exact ⟨Nat.le_trans hi2.2 (Nat.le_trans h5 h8.1), h8.2⟩
theorem pP_fwd {α : Type} {l : List Tok} (h : Ended l) {el : Nat → PR α} (he : Fwd l el) {i : Nat} (hi : i < l.length) : i ≤ (pP el l i).at ∧ (pP el l i).at < l.length ∧ ∀ xs j, pP el l i = .ok xs j → i < j := by
  unfold pP
  by_cases h1 : Hw.isB (tk l i) sLp = true
  · rw [if_pos h1]
    have h2 := pL_fwd h he (l.length - i) (i + 1) true [] (h.isB hi h1)
    exact ⟨by omega, h2.2, fun xs j e => by rw [e] at h2; have := h2.1; simp only [PR.at] at this; omega⟩
  · rw [if_neg h1]
    exact ⟨Nat.le_refl _, hi, fun xs j e => by cases e⟩
theorem pT_fwd {l : List Tok} (h : Ended l) : ∀ n, Fwd l (pT l n)
  | 0, i, hi => ⟨Nat.le_refl _, hi, fun x j e => by cases e⟩
  | n + 1, i, hi => by
    unfold pT
    by_cases h1 : (tk l i).kind ≠ 1
    · rw [if_pos h1]
      exact ⟨Nat.le_refl _, hi, fun x j e => by cases e⟩
    rw [if_neg h1]
    have hi1 := h.next hi (by omega)
    by_cases h2 : Hw.isB (tk l (i + 1)) sCl = true
    · rw [if_pos h2]
      have hi2 := h.isB hi1 h2
      by_cases h3 : (tk l (i + 2)).kind ≠ 1
      · rw [if_pos h3]
        exact ⟨by simp only [PR.at]; omega, hi2, fun x j e => by cases e⟩
      · rw [if_neg h3]
        exact ⟨by simp only [PR.at]; omega, h.next hi2 (by omega), fun x j e => by injection e; omega⟩
    rw [if_neg h2]
    obtain ⟨h4, h5, h6⟩ := pP_fwd h (pT_fwd h n) hi1
    cases hp : pP (pT l n) l (i + 1) with
    | bad j => rw [hp] at h4 h5; exact ⟨by simp only [PR.at] at *; omega, h5, fun x j e => by cases e⟩
    | ok L j => rw [hp] at h4 h5; exact ⟨by simp only [PR.at] at *; omega, h5, fun x j e => by injection e with e1 e2; simp only [PR.at] at *; omega⟩
theorem pL_size {l : List Tok} {el : Nat → PR Tm} (he : ∀ i x j, el i = .ok x j → x.size + i ≤ j) : ∀ (m i : Nat) (first : Bool) (xs : List Tm) (ys : List Tm) (j : Nat), pL el l m i first xs = .ok ys j → sizes ys + i ≤ sizes xs + j
  | 0, i, _, _, _, _, e => by cases e
  | m + 1, i, first, xs, ys, j, e => by
    unfold pL at e
    by_cases h1 : Hw.isB (tk l i) sRp = true
    · rw [if_pos h1] at e
      injection e with e1 e2
      subst e1; omega
    rw [if_neg h1] at e
    by_cases h2 : first = false ∧ Hw.isB (tk l i) sCm = false
    · rw [if_pos h2] at e; cases e
    rw [if_neg h2] at e
    cases he2 : el (if first = true then i else i + 1) with
    | bad k => rw [he2] at e; cases e
    | ok x k =>
      rw [he2] at e
      have h3 := pL_size he m k false (xs ++ [x]) ys j e
      have h4 := he _ _ _ he2
      rw [sizes_append] at h3
      simp only [sizes] at h3
      have : i ≤ (if first = true then i else i + 1) := by split <;> omega
      omega
theorem pT_size {l : List Tok} : ∀ (n i : Nat) (x : Tm) (j : Nat), pT l n i = .ok x j → x.size + i ≤ j
  | 0, i, x, j, e => by cases e
  | n + 1, i, x, j, e => by
    unfold pT at e
    by_cases h1 : (tk l i).kind ≠ 1
    · rw [if_pos h1] at e; cases e
    rw [if_neg h1] at e
    by_cases h2 : Hw.isB (tk l (i + 1)) sCl = true
    · rw [if_pos h2] at e
      by_cases h3 : (tk l (i + 2)).kind ≠ 1
      · rw [if_pos h3] at e; cases e
      · rw [if_neg h3] at e
        injection e with e1 e2
        subst e1
        simp [size, sizes]; omega
    rw [if_neg h2] at e
    cases hp : pP (pT l n) l (i + 1) with
    | bad k => rw [hp] at e; cases e
    | ok L k =>
      rw [hp] at e
      injection e with e1 e2
      subst e1; subst e2
      unfold pP at hp
      by_cases h4 : Hw.isB (tk l (i + 1)) sLp = true
      · rw [if_pos h4] at hp
        have h5 := pL_size (fun i x j h => pT_size n i x j h) _ _ _ _ _ _ hp
        rw [size_eq]
        simp only [Tm.kids]
        simp only [sizes] at h5
        omega
      · rw [if_neg h4] at hp; cases hp
end Go.Hw
