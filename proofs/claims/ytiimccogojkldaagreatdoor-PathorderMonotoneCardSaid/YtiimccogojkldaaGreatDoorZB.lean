/- The texts TP TM TL TO TN TX MP MQ TF TV PP TR TS TC TK TW TA TI TU TD TJ, one behind the other. -/
import Derived.Test.YtiimccogojkldaaGreatDoorZA
import Derived.Lib.ItoaNum
import Derived.MapKept
import Derived.WideKeyRuns
import Derived.RangeFuncRecord
import Derived.RangeFuncKeeps
import Derived.Laws.IdiomCopy
/- Terms: pure. -/
namespace Go.Hw
set_option linter.unusedVariables false
set_option linter.unusedSimpArgs false
abbrev By := ByteArray
def nul : By := ⟨#[]⟩
inductive Tm where
  | mk (name sort : By) (L : List Tm)
namespace Tm
def name : Tm → By | .mk n _ _ => n
def sort : Tm → By | .mk _ s _ => s
def kids : Tm → List Tm | .mk _ _ l => l
instance : Inhabited Tm := ⟨.mk nul nul []⟩
theorem eta (t : Tm) : .mk t.name t.sort t.kids = t := by cases t; rfl
theorem ind {P : Tm → Prop} (h : ∀ n s L, (∀ x ∈ L, P x) → P (.mk n s L)) : ∀ t, P t := by
  intro t
  refine Tm.rec (motive_1 := P) (motive_2 := fun L => ∀ x ∈ L, P x) (fun n s L ih => h n s L ih) (fun x hx => by cases hx) (fun a L ha hL x hx => ?_) t
  rcases List.mem_cons.1 hx with e | hx
  · rw [e]; exact ha
  · exact hL x hx
mutual
def size : Tm → Nat
  | .mk _ _ L => sizes L + 1
def sizes : List Tm → Nat
  | [] => 0
  | t :: L => size t + sizes L
end
mutual
def depth : Tm → Nat
  | .mk _ _ L => depths L + 1
def depths : List Tm → Nat
  | [] => 0
  | t :: L => max (depth t) (depths L)
end
mutual
def beq : Tm → Tm → Bool
  | .mk n s L, .mk m r M => decide (n = m) && (decide (s = r) && beqs L M)
def beqs : List Tm → List Tm → Bool
  | [], [] => true
  | t :: L, u :: M => beq t u && beqs L M
  | _, _ => false
end
theorem beq_eq : ∀ t u : Tm, beq t u = true ↔ t = u := by
  refine ind (fun n s L ih u => ?_)
  obtain ⟨m, r, M⟩ := u
  unfold beq
  have hL : ∀ (L : List Tm), (∀ x ∈ L, ∀ u, beq x u = true ↔ x = u) → ∀ M, beqs L M = true ↔ L = M := by
    intro L
    induction L with
    | nil => intro _ M; cases M <;> simp [beqs]
    | cons a L ihL =>
      intro h M
      cases M with
      | nil => simp [beqs]
      | cons b M =>
        unfold beqs
        rw [Bool.and_eq_true, h a (List.mem_cons_self ..), ihL (fun x hx => h x (List.mem_cons_of_mem _ hx)), List.cons.injEq]
  rw [Bool.and_eq_true, Bool.and_eq_true, decide_eq_true_eq, decide_eq_true_eq, hL L ih M, Tm.mk.injEq]
instance : DecidableEq Tm := fun t u => decidable_of_iff _ (beq_eq t u)
theorem size_pos (t : Tm) : 0 < t.size := by cases t; simp [size]
theorem size_mem {x : Tm} : ∀ {L : List Tm}, x ∈ L → x.size ≤ sizes L
  | a :: L, h => by
    rcases List.mem_cons.1 h with e | h
    · rw [e]; simp [sizes]
    · have := size_mem h; simp [sizes]; omega
theorem size_kid {t x : Tm} (h : x ∈ t.kids) : x.size < t.size := by
  obtain ⟨n, s, L⟩ := t
  have := size_mem (L := L) h
  simp [size]
  omega
theorem size_eq (t : Tm) : t.size = sizes t.kids + 1 := by cases t; rfl
theorem depth_eq (t : Tm) : t.depth = depths t.kids + 1 := by cases t; rfl
theorem depth_mem {x : Tm} : ∀ {L : List Tm}, x ∈ L → x.depth ≤ depths L
  | a :: L, h => by
    rcases List.mem_cons.1 h with e | h
    · rw [e]; simp only [depths]; omega
    · have := depth_mem h; simp only [depths]; omega
theorem sizes_append (L M : List Tm) : sizes (L ++ M) = sizes L + sizes M := by
  induction L with
  | nil => simp [sizes]
  | cons a L ih => simp [sizes, ih]; omega
theorem depths_append (L M : List Tm) : depths (L ++ M) = max (depths L) (depths M) := by
  induction L with
  | nil => simp [depths]
  | cons a L ih => simp only [List.cons_append, depths, ih]; omega
theorem length_le_sizes : ∀ L : List Tm, L.length ≤ sizes L
  | [] => Nat.le_refl _
  | a :: L => by have := length_le_sizes L; have := size_pos a; simp [sizes]; omega
end Tm
open Tm
/- the nodes in preorder, with their depths -/
mutual
def nodesD : Nat → Tm → List (Tm × Nat)
  | d, .mk n s L => (.mk n s L, d) :: nodesDs (d + 1) L
def nodesDs : Nat → List Tm → List (Tm × Nat)
  | _, [] => []
  | d, t :: L => nodesD d t ++ nodesDs d L
end
theorem nodesD_eq (d : Nat) (t : Tm) : nodesD d t = (t, d) :: nodesDs (d + 1) t.kids := by cases t; rfl
theorem nodesDs_append (d : Nat) (L M : List Tm) : nodesDs d (L ++ M) = nodesDs d L ++ nodesDs d M := by
  induction L with
  | nil => simp [nodesDs]
  | cons a L ih => simp [nodesDs, ih]
theorem nodesDs_flat (d : Nat) (L : List Tm) : nodesDs d L = L.flatMap (nodesD d) := by
  induction L with
  | nil => rfl
  | cons a L ih => simp [nodesDs, ih]
theorem nodesD_len : ∀ (t : Tm) (d : Nat), (nodesD d t).length = t.size := by
  refine ind (fun n s L ih d => ?_)
  rw [nodesD_eq]
  have : ∀ (L : List Tm) (d : Nat), (∀ x ∈ L, ∀ d, (nodesD d x).length = x.size) → (nodesDs d L).length = sizes L := by
    intro L
    induction L with
    | nil => intro d _; rfl
    | cons a L ihL =>
      intro d h
      simp only [nodesDs, List.length_append, sizes]
      rw [h a (List.mem_cons_self ..), ihL d (fun x hx => h x (List.mem_cons_of_mem _ hx))]
  simp only [kids, List.length_cons, Tm.size]
  rw [this L (d + 1) ih]
theorem nodesDs_len (L : List Tm) (d : Nat) : (nodesDs d L).length = sizes L := by
  induction L with
  | nil => rfl
  | cons a L ih => simp only [nodesDs, List.length_append, sizes, nodesD_len, ih]
/-- the subterms, in preorder -/
def sbts (t : Tm) : List Tm := (nodesD 0 t).map (·.1)
theorem nodesD_fst (t : Tm) : ∀ d e : Nat, (nodesD d t).map (·.1) = (nodesD e t).map (·.1) := by
  refine ind (P := fun t => ∀ d e : Nat, (nodesD d t).map (·.1) = (nodesD e t).map (·.1)) (fun n s L ih d e => ?_) t
  rw [nodesD_eq, nodesD_eq, nodesDs_flat, nodesDs_flat]
  simp only [kids, List.map_cons, List.map_flatMap]
  congr 1
  induction L with
  | nil => rfl
  | cons a L ihL =>
    simp only [List.flatMap_cons]
    rw [ih a (List.mem_cons_self ..) (d + 1) (e + 1), ihL (fun x hx => ih x (List.mem_cons_of_mem _ hx))]
theorem sbts_eq (t : Tm) : sbts t = t :: t.kids.flatMap sbts := by
  unfold sbts
  rw [nodesD_eq, nodesDs_flat]
  simp only [List.map_cons, List.map_flatMap]
  congr 1
  have : ∀ L : List Tm, (L.flatMap fun a => (nodesD (0 + 1) a).map (·.1)) = L.flatMap fun t => (nodesD 0 t).map (·.1) := by
    intro L
    induction L with
    | nil => rfl
    | cons a L ih => simp only [List.flatMap_cons]; rw [ih, nodesD_fst a (0 + 1) 0]
  exact this _
theorem mem_sbts_self (t : Tm) : t ∈ sbts t := by rw [sbts_eq]; exact List.mem_cons_self ..
theorem mem_sbts_kid {t x y : Tm} (h : x ∈ t.kids) (hy : y ∈ sbts x) : y ∈ sbts t := by
  rw [sbts_eq]
  exact List.mem_cons_of_mem _ (List.mem_flatMap.2 ⟨x, h, hy⟩)
end Go.Hw

/- Terms in memory. -/
namespace Go.Hw
open Go.RowKit Tm
set_option linter.unusedVariables false
set_option linter.unusedSimpArgs false
abbrev nilS : Value := .slice none 0 0
/-- the cells of a list of terms; us: the slices of their parts -/
def tCells : List Tm → List Value → List Value
  | [], _ => []
  | t :: L, us => .string t.name :: .string t.sort :: us.headD nilS :: tCells L us.tail
abbrev tg (L : List Tm) (i : Nat) : Tm := L.getD i default
abbrev ug (us : List Value) (i : Nat) : Value := us.getD i nilS
theorem tCells_len : ∀ (L : List Tm) (us : List Value), (tCells L us).length = L.length * 3
  | [], _ => rfl
  | t :: L, us => by simp [tCells, tCells_len L us.tail]; omega
theorem tCells_at : ∀ (L : List Tm) (us : List Value) (i : Nat), i < L.length →
    (tCells L us)[i * 3]? = some (.string (tg L i).name) ∧ (tCells L us)[i * 3 + 1]? = some (.string (tg L i).sort) ∧ (tCells L us)[i * 3 + 2]? = some (ug us i)
  | t :: L, us, 0, _ => by
    refine ⟨rfl, rfl, ?_⟩
    cases us <;> rfl
  | t :: L, us, i + 1, h => by
    obtain ⟨h0, h1, h2⟩ := tCells_at L us.tail i (by simpa using h)
    have e : ∀ k, (tCells (t :: L) us)[(i + 1) * 3 + k]? = (tCells L us.tail)[i * 3 + k]? := fun k => by
      rw [show (i + 1) * 3 + k = i * 3 + k + 1 + 1 + 1 by omega]
      rfl
    refine ⟨by rw [← Nat.add_zero ((i + 1) * 3), e]; exact h0, by rw [e]; exact h1, ?_⟩
    rw [e, h2]
    cases us <;> rfl
theorem tCells_snoc : ∀ (L : List Tm) (us : List Value) (t : Tm) (u : Value), us.length = L.length → tCells (L ++ [t]) (us ++ [u]) = tCells L us ++ [.string t.name, .string t.sort, u]
  | [], [], t, u, _ => rfl
  | a :: L, b :: us, t, u, h => by
    have := tCells_snoc L us t u (by simpa using h)
    simp only [List.cons_append, tCells, List.headD_cons, List.tail_cons, this]
/-- a list of terms that is read -/
inductive TlR (S : Nat → Prop) (w : World) : List Tm → Value → Prop
  | mk (L : List Tm) (us : List Value) (v : Value) (hl : us.length = L.length) (h : SlR S w 3 v L.length (tCells L us)) (hk : ∀ i, i < L.length → TlR S w (tg L i).kids (ug us i)) : TlR S w L v
theorem TlR.nil (S : Nat → Prop) (w : World) : TlR S w [] nilS := ⟨[], [], nilS, rfl, SlR.nil _ _ _, fun i h => by cases h⟩
theorem TlR.shape {S : Nat → Prop} {w : World} {L : List Tm} {v : Value} (h : TlR S w L v) : ∃ a cap, v = .slice a L.length cap := by
  cases h with
  | mk _ us _ hl h hk => exact h.shape
theorem TlR.kept {S F : Nat → Prop} {w w' : World} {L : List Tm} {v : Value} (h : TlR S w L v) (hu : Upd F w w') (hF : ∀ k, S k → ¬ F k) : TlR S w' L v := by
  induction h with
  | mk L us v hl h hk ih => exact ⟨L, us, v, hl, h.kept hu hF, ih⟩
theorem TlR.ext {S : Nat → Prop} {w w' : World} {L : List Tm} {v : Value} (h : TlR S w L v) (hu : Ext w w') : TlR S w' L v := h.kept hu (fun _ _ h => h)
theorem TlR.weaken {S T : Nat → Prop} {w : World} {L : List Tm} {v : Value} (h : TlR S w L v) (hs : ∀ k, S k → T k) : TlR T w L v := by
  induction h with
  | mk L us v hl h hk ih => exact ⟨L, us, v, hl, h.weaken hs, ih⟩
theorem TlR.le_cap {S : Nat → Prop} {w : World} {L : List Tm} {a : Option Addr} {n cap : Nat} (h : TlR S w L (.slice a n cap)) : n = L.length ∧ n ≤ cap := by
  cases h with
  | mk _ us _ hl h hk =>
    obtain ⟨a', c', e⟩ := h.shape
    injection e with e1 e2 e3
    exact ⟨e2, by rw [e2]; exact h.le_cap (by rw [e1, e2])⟩
/-- the element i, in its cells -/
theorem TlR.at_ {S : Nat → Prop} {w : World} {L : List Tm} {a : Option Addr} {n cap : Nat} (h : TlR S w L (.slice a n cap)) (hL : 0 < L.length) :
    ∃ g off, a = some ⟨g, off, none⟩ ∧ S g ∧ ∀ i, i < L.length → ∃ a' cap', w.cell? ⟨g, off + i * 3, none⟩ = some (.string (tg L i).name) ∧ w.cell? ⟨g, off + (i * 3 + 1), none⟩ = some (.string (tg L i).sort) ∧
      w.cell? ⟨g, off + (i * 3 + 2), none⟩ = some (.slice a' (tg L i).kids.length cap') ∧ TlR S w (tg L i).kids (.slice a' (tg L i).kids.length cap') := by
  cases h with
  | mk _ us _ hl h hk =>
    obtain ⟨g, off, cap', e, hc, hS, hj⟩ := h.pos hL
    injection e with e1 e2 e3
    refine ⟨g, off, e1, hS, fun i hi => ?_⟩
    obtain ⟨h0, h1, h2⟩ := tCells_at L us i hi
    obtain ⟨a', cap', e'⟩ := (hk i hi).shape
    have hk' := hk i hi
    rw [e'] at hk' h2
    exact ⟨a', cap', by rw [hj _ (by omega), h0], by rw [hj _ (by omega), h1], by rw [hj _ (by omega), h2], hk'⟩
/-- a term as a value -/
abbrev tV (t : Tm) (u : Value) : Value := .agg #[.string t.name, .string t.sort, u]
def TmR (S : Nat → Prop) (w : World) (t : Tm) (v : Value) : Prop := ∃ a cap, v = tV t (.slice a t.kids.length cap) ∧ TlR S w t.kids (.slice a t.kids.length cap)
theorem TmR.kept {S F : Nat → Prop} {w w' : World} {t : Tm} {v : Value} (h : TmR S w t v) (hu : Upd F w w') (hF : ∀ k, S k → ¬ F k) : TmR S w' t v := by
  obtain ⟨a, cap, e, h⟩ := h
  exact ⟨a, cap, e, h.kept hu hF⟩
theorem TmR.ext {S : Nat → Prop} {w w' : World} {t : Tm} {v : Value} (h : TmR S w t v) (hu : Ext w w') : TmR S w' t v := h.kept hu (fun _ _ h => h)
theorem TmR.weaken {S T : Nat → Prop} {w : World} {t : Tm} {v : Value} (h : TmR S w t v) (hs : ∀ k, S k → T k) : TmR T w t v := by
  obtain ⟨a, cap, e, h⟩ := h
  exact ⟨a, cap, e, h.weaken hs⟩
theorem TmR.of {S : Nat → Prop} {w : World} {t : Tm} {u : Value} (h : TlR S w t.kids u) : TmR S w t (tV t u) := by
  obtain ⟨a, cap, e⟩ := h.shape
  exact ⟨a, cap, by rw [e], e ▸ h⟩
end Go.Hw

/- The lexicographic path order: pure. -/
namespace Go.Hw
open Tm
set_option linter.unusedVariables false
set_option linter.unusedSimpArgs false
/-- the first parts that differ decide -/
def lexG (g : Tm → Tm → Bool) : List Tm → List Tm → Bool
  | a :: L, b :: M => if a = b then lexG g L M else g a b
  | _, _ => false
def gtF (r : By → Nat) : Nat → Tm → Tm → Bool
  | 0, _, _ => false
  | n + 1, s, t => decide (s.sort = nul) && (s.kids.any (fun k => decide (k = t) || gtF r n k t) ||
      (decide (t.sort = nul) && (t.kids.all (fun k => gtF r n s k) && (if s.name = t.name then decide (s.kids.length = t.kids.length) && lexG (gtF r n) s.kids t.kids else decide (r s.name < r t.name)))))
/-- one term is greater than another one -/
def gt (r : By → Nat) (s t : Tm) : Bool := gtF r (s.size + t.size) s t
theorem any_congr {α : Type} {L : List α} {f g : α → Bool} (h : ∀ x ∈ L, f x = g x) : L.any f = L.any g := by
  induction L with
  | nil => rfl
  | cons a L ih => rw [List.any_cons, List.any_cons, h a (List.mem_cons_self ..), ih (fun x hx => h x (List.mem_cons_of_mem _ hx))]
theorem all_congr {α : Type} {L : List α} {f g : α → Bool} (h : ∀ x ∈ L, f x = g x) : L.all f = L.all g := by
  induction L with
  | nil => rfl
  | cons a L ih => rw [List.all_cons, List.all_cons, h a (List.mem_cons_self ..), ih (fun x hx => h x (List.mem_cons_of_mem _ hx))]
theorem lexG_congr {f g : Tm → Tm → Bool} : ∀ {L M : List Tm}, (∀ a ∈ L, ∀ b ∈ M, f a b = g a b) → lexG f L M = lexG g L M
  | [], _, _ => by cases ‹List Tm› <;> rfl
  | a :: L, [], _ => rfl
  | a :: L, b :: M, h => by
    unfold lexG
    rw [lexG_congr (fun x hx y hy => h x (List.mem_cons_of_mem _ hx) y (List.mem_cons_of_mem _ hy)), h a (List.mem_cons_self ..) b (List.mem_cons_self ..)]
theorem gtF_fuel (r : By → Nat) : ∀ (n m : Nat) (s t : Tm), s.size + t.size ≤ n → s.size + t.size ≤ m → gtF r n s t = gtF r m s t
  | 0, _, s, t, h, _ => by have := size_pos s; omega
  | _ + 1, 0, s, t, _, h => by have := size_pos s; omega
  | n + 1, m + 1, s, t, h1, h2 => by
    unfold gtF
    have e1 : s.kids.any (fun k => decide (k = t) || gtF r n k t) = s.kids.any (fun k => decide (k = t) || gtF r m k t) := any_congr (fun k hk => by
      have := size_kid hk
      rw [gtF_fuel r n m k t (by omega) (by omega)])
    have e2 : t.kids.all (fun k => gtF r n s k) = t.kids.all (fun k => gtF r m s k) := all_congr (fun k hk => by
      have := size_kid hk
      rw [gtF_fuel r n m s k (by omega) (by omega)])
    have e3 : lexG (gtF r n) s.kids t.kids = lexG (gtF r m) s.kids t.kids := lexG_congr (fun a ha b hb => by
      have := size_kid ha
      have := size_kid hb
      exact gtF_fuel r n m a b (by omega) (by omega))
    rw [e1, e2, e3]
theorem gt_eq (r : By → Nat) (s t : Tm) : gt r s t = (decide (s.sort = nul) && (s.kids.any (fun k => decide (k = t) || gt r k t) ||
      (decide (t.sort = nul) && (t.kids.all (fun k => gt r s k) && (if s.name = t.name then decide (s.kids.length = t.kids.length) && lexG (gt r) s.kids t.kids else decide (r s.name < r t.name)))))) := by
  have hp := size_pos s
  have h0 : gt r s t = gtF r (s.size + t.size - 1 + 1) s t := gtF_fuel r _ _ s t (by omega) (by omega)
  rw [h0]
  generalize hn : s.size + t.size - 1 = n
  have e1 : s.kids.any (fun k => decide (k = t) || gtF r n k t) = s.kids.any (fun k => decide (k = t) || gt r k t) := any_congr (fun k hk => by
    have := size_kid hk
    rw [gtF_fuel r n (k.size + t.size) k t (by omega) (by omega)]; rfl)
  have e2 : t.kids.all (fun k => gtF r n s k) = t.kids.all (fun k => gt r s k) := all_congr (fun k hk => by
    have := size_kid hk
    rw [gtF_fuel r n (s.size + k.size) s k (by omega) (by omega)]; rfl)
  have e3 : lexG (gtF r n) s.kids t.kids = lexG (gt r) s.kids t.kids := lexG_congr (fun a ha b hb => by
    have := size_kid ha
    have := size_kid hb
    exact gtF_fuel r n (a.size + b.size) a b (by omega) (by omega))
  unfold gtF
  rw [e1, e2, e3]
/-- a part is equal or greater -/
def Cov (r : By → Nat) (s t : Tm) : Prop := ∃ k ∈ s.kids, k = t ∨ gt r k t = true
/-- greater than all parts, and first, or with greater parts -/
def Abv (r : By → Nat) (s t : Tm) : Prop := t.sort = nul ∧ (∀ k ∈ t.kids, gt r s k = true) ∧ (s.name = t.name ∧ s.kids.length = t.kids.length ∧ lexG (gt r) s.kids t.kids = true ∨ s.name ≠ t.name ∧ r s.name < r t.name)
theorem gt_iff (r : By → Nat) (s t : Tm) : gt r s t = true ↔ s.sort = nul ∧ (Cov r s t ∨ Abv r s t) := by
  rw [gt_eq]
  simp only [Bool.and_eq_true, Bool.or_eq_true, decide_eq_true_eq, List.any_eq_true, List.all_eq_true]
  unfold Cov Abv
  have : ((if s.name = t.name then decide (s.kids.length = t.kids.length) && lexG (gt r) s.kids t.kids else decide (r s.name < r t.name)) = true) ↔ (s.name = t.name ∧ s.kids.length = t.kids.length ∧ lexG (gt r) s.kids t.kids = true ∨ s.name ≠ t.name ∧ r s.name < r t.name) := by
    by_cases h : s.name = t.name
    · rw [if_pos h]; simp [h]
    · rw [if_neg h]; simp [h]
  rw [this]
theorem lexG_trans {g : Tm → Tm → Bool} : ∀ {L M K : List Tm}, (∀ a ∈ L, ∀ b ∈ M, ∀ c ∈ K, g a b = true → g b c = true → g a c = true) → (∀ a ∈ L, ∀ b ∈ M, a ∈ K → g a b = true → g b a = true → False) → L.length = M.length → M.length = K.length → lexG g L M = true → lexG g M K = true → lexG g L K = true
  | [], _, _, _, _, _, _, h, _ => by cases h
  | a :: L, [], _, _, _, h, _, _, _ => by simp at h
  | a :: L, b :: M, [], _, _, _, h, _, _ => by simp at h
  | a :: L, b :: M, c :: K, ht, hi, e1, e2, h1, h2 => by
    unfold lexG at h1 h2 ⊢
    by_cases hab : a = b
    · rw [if_pos hab] at h1
      subst hab
      by_cases hac : a = c
      · rw [if_pos hac] at h2 ⊢
        exact lexG_trans (fun x hx y hy z hz => ht x (List.mem_cons_of_mem _ hx) y (List.mem_cons_of_mem _ hy) z (List.mem_cons_of_mem _ hz)) (fun x hx y hy hz => hi x (List.mem_cons_of_mem _ hx) y (List.mem_cons_of_mem _ hy) (List.mem_cons_of_mem _ hz)) (by simpa using e1) (by simpa using e2) h1 h2
      · rw [if_neg hac] at h2 ⊢
        exact h2
    · rw [if_neg hab] at h1
      by_cases hbc : b = c
      · subst hbc
        rw [if_neg hab]
        exact h1
      · rw [if_neg hbc] at h2
        by_cases hac : a = c
        · subst hac
          exact (hi a (List.mem_cons_self ..) b (List.mem_cons_self ..) (List.mem_cons_self ..) h1 h2).elim
        · rw [if_neg hac]
          exact ht a (List.mem_cons_self ..) b (List.mem_cons_self ..) c (List.mem_cons_self ..) h1 h2
theorem lexG_irrefl (g : Tm → Tm → Bool) : ∀ L : List Tm, lexG g L L = false
  | [] => rfl
  | a :: L => by unfold lexG; rw [if_pos rfl]; exact lexG_irrefl g L
theorem gt_kid (r : By → Nat) {s k : Tm} (hs : s.sort = nul) (hk : k ∈ s.kids) : gt r s k = true := (gt_iff r s k).2 ⟨hs, .inl ⟨k, hk, .inl rfl⟩⟩
/-- transitive and irreflexive, in one induction -/
theorem gt_both (r : By → Nat) : ∀ N : Nat, (∀ s t u : Tm, s.size + t.size + u.size ≤ N → gt r s t = true → gt r t u = true → gt r s u = true) ∧ (∀ s : Tm, 3 * s.size ≤ N → gt r s s = false)
  | 0 => ⟨fun s t u h => by have := size_pos s; omega, fun s h => by have := size_pos s; omega⟩
  | N + 1 => by
    obtain ⟨iht, ihi⟩ := gt_both r N
    have hT : ∀ s t u : Tm, s.size + t.size + u.size ≤ N + 1 → gt r s t = true → gt r t u = true → gt r s u = true := by
      intro s t u hN h1 h2
      obtain ⟨hs, h1'⟩ := (gt_iff r s t).1 h1
      rcases h1' with ⟨k, hk, hkt⟩ | ⟨htv, hall, hnm⟩
      · have hsz := size_kid hk
        have hku : gt r k u = true := by
          rcases hkt with e | e
          · rw [e]; exact h2
          · exact iht k t u (by omega) e h2
        exact (gt_iff r s u).2 ⟨hs, .inl ⟨k, hk, .inr hku⟩⟩
      · obtain ⟨_, h2'⟩ := (gt_iff r t u).1 h2
        rcases h2' with ⟨k, hk, hku⟩ | ⟨huv, hall2, hnm2⟩
        · have hsz := size_kid hk
          rcases hku with e | e
          · rw [← e]; exact hall k hk
          · exact iht s k u (by omega) (hall k hk) e
        · refine (gt_iff r s u).2 ⟨hs, .inr ⟨huv, fun k hk => ?_, ?_⟩⟩
          · have hsz := size_kid hk
            exact iht s t k (by omega) h1 (hall2 k hk)
          · rcases hnm with ⟨e1, l1, x1⟩ | ⟨e1, x1⟩
            · rcases hnm2 with ⟨e2, l2, x2⟩ | ⟨e2, x2⟩
              · refine .inl ⟨e1.trans e2, l1.trans l2, lexG_trans (fun a ha b hb c hc h3 h4 => ?_) (fun a ha b hb hc h3 h4 => ?_) l1 l2 x1 x2⟩
                · have q1 := size_kid ha
                  have q2 := size_kid hb
                  have q3 := size_kid hc
                  exact iht a b c (by omega) h3 h4
                · have q1 := size_kid ha
                  have q2 := size_kid hb
                  have q3 := size_kid hc
                  rcases Nat.le_total a.size b.size with q | q
                  · have h5 := iht a b a (by omega) h3 h4
                    rw [ihi a (by omega)] at h5
                    cases h5
                  · have h5 := iht b a b (by omega) h4 h3
                    rw [ihi b (by omega)] at h5
                    cases h5
              · exact .inr ⟨by rw [e1]; exact e2, by rw [e1]; exact x2⟩
            · rcases hnm2 with ⟨e2, l2, x2⟩ | ⟨e2, x2⟩
              · exact .inr ⟨by rw [← e2]; exact e1, by rw [← e2]; exact x1⟩
              · refine .inr ⟨fun e => ?_, by omega⟩
                rw [← e] at x2
                omega
    refine ⟨hT, fun s hN => ?_⟩
    rw [Bool.eq_false_iff]
    intro h
    obtain ⟨hs, h'⟩ := (gt_iff r s s).1 h
    rcases h' with ⟨k, hk, e | e⟩ | ⟨_, _, hnm⟩
    · have := size_kid hk
      rw [e] at this
      omega
    · have hsz := size_kid hk
      have h3 := iht k s k (by omega) e (gt_kid r hs hk)
      rw [ihi k (by omega)] at h3
      cases h3
    · rcases hnm with ⟨_, _, x⟩ | ⟨x, _⟩
      · rw [lexG_irrefl] at x; cases x
      · exact x rfl
theorem gt_trans (r : By → Nat) {s t u : Tm} (h1 : gt r s t = true) (h2 : gt r t u = true) : gt r s u = true := (gt_both r _).1 s t u (Nat.le_refl _) h1 h2
theorem gt_irrefl (r : By → Nat) (s : Tm) : gt r s s = false := (gt_both r _).2 s (Nat.le_refl _)
theorem gt_asymm (r : By → Nat) {s t : Tm} (h1 : gt r s t = true) : gt r t s = false := by
  rw [Bool.eq_false_iff]
  intro h2
  have := gt_trans r h1 h2
  rw [gt_irrefl] at this
  cases this
/-- the same, where equal terms are told apart first -/
theorem gt_ne (r : By → Nat) (s t : Tm) : (decide (s ≠ t) && gt r s t) = gt r s t := by
  by_cases h : s = t
  · rw [h, gt_irrefl, Bool.and_false]
  · rw [decide_eq_true h, Bool.true_and]
end Go.Hw

/- The path order: contexts, terms without variables, substitutions. -/
namespace Go.Hw
open Tm
set_option linter.unusedVariables false
set_option linter.unusedSimpArgs false
/-- variables have no parts -/
def NoP (t : Tm) : Prop := ∀ x ∈ sbts t, x.sort ≠ nul → x.kids = []
theorem NoP.kid {t x : Tm} (h : NoP t) (hx : x ∈ t.kids) : NoP x := fun y hy => h y (mem_sbts_kid hx hy)
def subAt : Tm → List Nat → Option Tm
  | t, [] => some t
  | t, i :: p => (t.kids[i]?).bind fun x => subAt x p
def putAt : Tm → List Nat → Tm → Tm
  | _, [], u => u
  | .mk n s L, i :: p, u => .mk n s (L.set i (putAt (L.getD i default) p u))
theorem lexG_set (g : Tm → Tm → Bool) (z : Tm) : ∀ (L : List Tm) (i : Nat), i < L.length → L.getD i default ≠ z → g (L.getD i default) z = true → lexG g L (L.set i z) = true
  | [], i, h, _, _ => by simp at h
  | a :: L, 0, _, hne, hg => by
    simp only [List.set_cons_zero, lexG]
    rw [if_neg (show ¬ a = z from hne)]
    exact hg
  | a :: L, i + 1, h, hne, hg => by
    simp only [List.set_cons_succ, lexG, if_true]
    exact lexG_set g z L i (by simpa using h) hne hg
theorem gt_context (r : By → Nat) (y x : Tm) : ∀ (p : List Nat) (a : Tm), NoP a → subAt a p = some x → gt r x y = true → gt r a (putAt a p y) = true
  | [], a, _, h, hg => by
    injection h with h
    subst h
    exact hg
  | i :: p, .mk n s L, hn, h, hg => by
    unfold subAt at h
    simp only [Tm.kids] at h
    cases hx : L[i]? with
    | none => rw [hx] at h; cases h
    | some x' =>
      rw [hx] at h
      have hi : i < L.length := (List.getElem?_eq_some_iff.1 hx).1
      have hxm : x' ∈ L := List.mem_of_getElem? hx
      have hd : L.getD i default = x' := by rw [List.getD_eq_getElem?_getD, hx]; rfl
      have hs : s = nul := by
        by_cases e : s = nul
        · exact e
        · have := hn (.mk n s L) (mem_sbts_self _) e
          simp only [Tm.kids] at this
          rw [this] at hi; simp at hi
      have ih := gt_context r y x p x' (hn.kid hxm) h hg
      unfold putAt
      rw [hd]
      refine (gt_iff r _ _).2 ⟨hs, .inr ⟨hs, fun k hk => ?_, .inl ⟨rfl, by simp [Tm.kids], ?_⟩⟩⟩
      · simp only [Tm.kids] at hk
        rcases List.mem_or_eq_of_mem_set hk with h1 | h1
        · exact gt_kid r hs h1
        · rw [h1]; exact gt_trans r (gt_kid r (s := .mk n s L) hs hxm) ih
      · refine lexG_set (gt r) _ L i hi ?_ ?_
        · rw [hd]; intro e; rw [← e, gt_irrefl] at ih; cases ih
        · rw [hd]; exact ih
/-- a proper part of a part is less -/
theorem gt_sub (r : By → Nat) (x : Tm) : ∀ (p : List Nat) (a : Tm), NoP a → p ≠ [] → subAt a p = some x → gt r a x = true
  | [], a, _, h, _ => absurd rfl h
  | i :: p, .mk n s L, hn, _, h => by
    unfold subAt at h
    simp only [Tm.kids] at h
    cases hx : L[i]? with
    | none => rw [hx] at h; cases h
    | some x' =>
      rw [hx] at h
      have hi : i < L.length := (List.getElem?_eq_some_iff.1 hx).1
      have hxm : x' ∈ L := List.mem_of_getElem? hx
      have hs : s = nul := by
        by_cases e : s = nul
        · exact e
        · have := hn (.mk n s L) (mem_sbts_self _) e
          simp only [Tm.kids] at this
          rw [this] at hi; simp at hi
      have h1 := gt_kid r (s := .mk n s L) hs hxm
      cases p with
      | nil => injection h with h; rw [← h]; exact h1
      | cons j p => exact gt_trans r h1 (gt_sub r x (j :: p) x' (hn.kid hxm) (by simp) h)
/-- of two different lists of parts one is greater, where each two parts can be compared -/
theorem lexG_total {g : Tm → Tm → Bool} : ∀ {L M : List Tm}, L.length = M.length → L ≠ M → (∀ a ∈ L, ∀ b ∈ M, a ≠ b → g a b = true ∨ g b a = true) → lexG g L M = true ∨ lexG g M L = true
  | [], [], _, h, _ => absurd rfl h
  | [], b :: M, h, _, _ => by simp at h
  | a :: L, [], h, _, _ => by simp at h
  | a :: L, b :: M, hl, hne, h => by
    unfold lexG
    by_cases e : a = b
    · subst e
      simp only [if_true]
      exact lexG_total (by simpa using hl) (fun h2 => hne (by rw [h2])) (fun x hx y hy => h x (List.mem_cons_of_mem _ hx) y (List.mem_cons_of_mem _ hy))
    · rw [if_neg e, if_neg (fun h2 => e h2.symm)]
      exact h a (List.mem_cons_self ..) b (List.mem_cons_self ..) e
/-- without variables, names with one rank and one number of parts each -/
structure Grd (r : By → Nat) (ar : By → Nat) (K : By → Prop) (t : Tm) : Prop where
  op : ∀ x ∈ sbts t, x.sort = nul
  ar : ∀ x ∈ sbts t, x.kids.length = ar x.name
  kn : ∀ x ∈ sbts t, K x.name
theorem Grd.kid {r ar : By → Nat} {K : By → Prop} {t x : Tm} (h : Grd r ar K t) (hx : x ∈ t.kids) : Grd r ar K x := ⟨fun y hy => h.op y (mem_sbts_kid hx hy), fun y hy => h.ar y (mem_sbts_kid hx hy), fun y hy => h.kn y (mem_sbts_kid hx hy)⟩
theorem gt_total {r ar : By → Nat} {K : By → Prop} (hr : ∀ a b, K a → K b → r a = r b → a = b) : ∀ (N : Nat) (s t : Tm), s.size + t.size ≤ N → Grd r ar K s → Grd r ar K t → s ≠ t → gt r s t = true ∨ gt r t s = true
  | 0, s, t, h, _, _, _ => by have := size_pos s; omega
  | N + 1, s, t, hN, hs, ht, hne => by
    have so := hs.op s (mem_sbts_self s)
    have to := ht.op t (mem_sbts_self t)
    by_cases h1 : ∃ k ∈ s.kids, k = t ∨ gt r k t = true
    · exact .inl ((gt_iff r s t).2 ⟨so, .inl h1⟩)
    by_cases h2 : ∃ k ∈ t.kids, k = s ∨ gt r k s = true
    · exact .inr ((gt_iff r t s).2 ⟨to, .inl h2⟩)
    have hts : ∀ k ∈ s.kids, gt r t k = true := fun k hk => by
      have hz := size_kid hk
      rcases gt_total hr N k t (by omega) (hs.kid hk) ht (fun e => h1 ⟨k, hk, .inl e⟩) with h | h
      · exact absurd ⟨k, hk, .inr h⟩ h1
      · exact h
    have hst : ∀ k ∈ t.kids, gt r s k = true := fun k hk => by
      have hz := size_kid hk
      rcases gt_total hr N k s (by omega) (ht.kid hk) hs (fun e => h2 ⟨k, hk, .inl e⟩) with h | h
      · exact absurd ⟨k, hk, .inr h⟩ h2
      · exact h
    by_cases hn : s.name = t.name
    · have hl : s.kids.length = t.kids.length := by rw [hs.ar s (mem_sbts_self s), ht.ar t (mem_sbts_self t), hn]
      have hk : s.kids ≠ t.kids := fun e => hne (by rw [← eta s, ← eta t, hn, so, to, e])
      rcases lexG_total (g := gt r) hl hk (fun a ha b hb hab => by
        have z1 := size_kid ha
        have z2 := size_kid hb
        exact gt_total hr N a b (by omega) (hs.kid ha) (ht.kid hb) hab) with h | h
      · exact .inl ((gt_iff r s t).2 ⟨so, .inr ⟨to, hst, .inl ⟨hn, hl, h⟩⟩⟩)
      · exact .inr ((gt_iff r t s).2 ⟨to, .inr ⟨so, hts, .inl ⟨hn.symm, hl.symm, h⟩⟩⟩)
    · rcases Nat.lt_trichotomy (r s.name) (r t.name) with h | h | h
      · exact .inl ((gt_iff r s t).2 ⟨so, .inr ⟨to, hst, .inr ⟨hn, h⟩⟩⟩)
      · exact absurd (hr _ _ (hs.kn s (mem_sbts_self s)) (ht.kn t (mem_sbts_self t)) h) hn
      · exact .inr ((gt_iff r t s).2 ⟨to, .inr ⟨so, hts, .inr ⟨fun e => hn e.symm, h⟩⟩⟩)
/- a substitution: what stands for a variable -/
mutual
def sbT (σ : By → By → Tm) : Tm → Tm
  | .mk n s L => if s = nul then .mk n s (sbs σ L) else σ n s
def sbs (σ : By → By → Tm) : List Tm → List Tm
  | [] => []
  | a :: L => sbT σ a :: sbs σ L
end
theorem sbs_map (σ : By → By → Tm) : ∀ L, sbs σ L = L.map (sbT σ)
  | [] => rfl
  | a :: L => by simp [sbs, sbs_map σ L]
theorem sbT_op (σ : By → By → Tm) {t : Tm} (h : t.sort = nul) : sbT σ t = .mk t.name nul (t.kids.map (sbT σ)) := by
  obtain ⟨n, s, L⟩ := t
  have h' : s = nul := h
  subst h'
  unfold sbT
  rw [if_pos rfl, sbs_map]
  rfl
theorem lexG_map {r : By → Nat} {f : Tm → Tm} : ∀ {L M : List Tm}, (∀ a ∈ L, ∀ b ∈ M, gt r a b = true → gt r (f a) (f b) = true) → lexG (gt r) L M = true → lexG (gt r) (L.map f) (M.map f) = true
  | [], _, _, h => by cases h
  | a :: L, [], _, h => by cases h
  | a :: L, b :: M, hm, h => by
    unfold lexG at h
    simp only [List.map_cons, lexG]
    by_cases e : a = b
    · subst e
      rw [if_pos rfl] at h ⊢
      exact lexG_map (fun x hx y hy => hm x (List.mem_cons_of_mem _ hx) y (List.mem_cons_of_mem _ hy)) h
    · rw [if_neg e] at h
      have h2 := hm a (List.mem_cons_self ..) b (List.mem_cons_self ..) h
      rw [if_neg (fun e2 => by rw [e2, gt_irrefl] at h2; cases h2)]
      exact h2
theorem gt_subst (r : By → Nat) (σ : By → By → Tm) : ∀ (N : Nat) (s t : Tm), s.size + t.size ≤ N → gt r s t = true → gt r (sbT σ s) (sbT σ t) = true
  | 0, s, t, h, _ => by have := size_pos s; omega
  | N + 1, s, t, hN, hg => by
    obtain ⟨hs, h⟩ := (gt_iff r s t).1 hg
    rw [sbT_op σ hs]
    refine (gt_iff r _ _).2 ⟨rfl, ?_⟩
    rcases h with ⟨k, hk, e⟩ | ⟨ht, hall, hnm⟩
    · refine .inl ⟨sbT σ k, List.mem_map_of_mem hk, ?_⟩
      have hz := size_kid hk
      rcases e with e | e
      · exact .inl (by rw [e])
      · exact .inr (gt_subst r σ N k t (by omega) e)
    · rw [sbT_op σ ht]
      refine .inr ⟨rfl, fun k hk => ?_, ?_⟩
      · obtain ⟨x, hx, rfl⟩ := List.mem_map.1 hk
        have hz := size_kid hx
        have h1 := gt_subst r σ N s x (by omega) (hall x hx)
        rw [sbT_op σ hs] at h1
        exact h1
      · rcases hnm with ⟨e1, l1, x1⟩ | ⟨e1, x1⟩
        · refine .inl ⟨e1, by simp only [Tm.kids, List.length_map]; exact l1, ?_⟩
          exact lexG_map (fun a ha b hb h3 => by
            have z1 := size_kid ha
            have z2 := size_kid hb
            exact gt_subst r σ N a b (by omega) h3) x1
        · exact .inr ⟨e1, x1⟩
end Go.Hw

/- Numbered terms, their keys, and the path order by numbers: pure. -/
namespace Go.Hw
open Tm
set_option linter.unusedVariables false
set_option linter.unusedSimpArgs false
/-- a term with the numbers of its parts -/
abbrev Nt := Tm × List Nat
abbrev ng (N : List Nt) (i : Nat) : Nt := N.getD i (default, [])
structure Num (N : List Nt) : Prop where
  kid : ∀ i, i < N.length → ∀ k ∈ (ng N i).2, k < i
  map : ∀ i, i < N.length → (ng N i).2.map (fun k => (ng N k).1) = (ng N i).1.kids
theorem ng_left {N : List Nt} (M : List Nt) {i : Nat} (h : i < N.length) : ng (N ++ M) i = ng N i := by
  unfold ng
  rw [List.getD_eq_getElem?_getD, List.getD_eq_getElem?_getD, List.getElem?_append_left h]
theorem ng_last (N : List Nt) (x : Nt) : ng (N ++ [x]) N.length = x := by
  unfold ng
  rw [List.getD_eq_getElem?_getD, List.getElem?_concat_length]
  rfl
theorem ng_pre {N N' : List Nt} (h : N <+: N') {i : Nat} (hi : i < N.length) : ng N' i = ng N i := by
  obtain ⟨M, rfl⟩ := h
  exact ng_left M hi
theorem Num.nil : Num [] := ⟨fun i h => by simp at h, fun i h => by simp at h⟩
theorem Num.snoc {N : List Nt} (h : Num N) (t : Tm) (ks : List Nat) (h1 : ∀ k ∈ ks, k < N.length) (h2 : ks.map (fun k => (ng N k).1) = t.kids) : Num (N ++ [(t, ks)]) := by
  have hm : ∀ (l : List Nat), (∀ k ∈ l, k < N.length) → l.map (fun k => (ng (N ++ [(t, ks)]) k).1) = l.map (fun k => (ng N k).1) := fun l hl =>
    List.map_congr_left fun k hk => by rw [ng_left _ (hl k hk)]
  refine ⟨fun i hi k hk => ?_, fun i hi => ?_⟩
  · rw [List.length_append, List.length_singleton] at hi
    by_cases hl : i < N.length
    · rw [ng_left _ hl] at hk
      exact h.kid i hl k hk
    · obtain rfl : i = N.length := by omega
      rw [ng_last] at hk
      exact h1 k hk
  · rw [List.length_append, List.length_singleton] at hi
    by_cases hl : i < N.length
    · rw [ng_left _ hl, hm _ (fun k hk => Nat.lt_trans (h.kid i hl k hk) hl)]
      exact h.map i hl
    · obtain rfl : i = N.length := by omega
      rw [ng_last, hm _ h1]
      exact h2
/-- no term has two numbers -/
def Uniq (N : List Nt) : Prop := ∀ i j, i < N.length → j < N.length → (ng N i).1 = (ng N j).1 → i = j
theorem Uniq.nil : Uniq [] := fun i j h => by simp at h
theorem Uniq.snoc {N : List Nt} (h : Uniq N) (t : Tm) (ks : List Nat) (hn : ∀ i, i < N.length → (ng N i).1 ≠ t) : Uniq (N ++ [(t, ks)]) := by
  intro i j hi hj e
  rw [List.length_append, List.length_singleton] at hi hj
  by_cases h1 : i < N.length
  · rw [ng_left _ h1] at e
    by_cases h2 : j < N.length
    · rw [ng_left _ h2] at e
      exact h i j h1 h2 e
    · obtain rfl : j = N.length := by omega
      rw [ng_last] at e
      exact absurd e (hn i h1)
  · obtain rfl : i = N.length := by omega
    rw [ng_last] at e
    by_cases h2 : j < N.length
    · rw [ng_left _ h2] at e
      exact absurd e.symm (hn j h2)
    · omega
/-! ### keys -/
def nstr (n : Nat) : By := ⟨(Lib.itoa (n : Int)).toArray⟩
theorem nstr_list (n : Nat) : (nstr n).data.toList = Lib.decDigits n := by
  unfold nstr Lib.itoa
  rw [if_neg (by omega)]
  simp
def colonB : By := ⟨#[58]⟩
def spB : By := ⟨#[32]⟩
def keyK (n s : By) (ks : List Nat) : By := ks.foldl (fun b k => b ++ (spB ++ nstr k)) ((n ++ colonB) ++ s)
theorem keyK_snoc (n s : By) (ks : List Nat) (k : Nat) : keyK n s (ks ++ [k]) = keyK n s ks ++ (spB ++ nstr k) := by
  unfold keyK
  rw [List.foldl_append]
  rfl
def keyT (ks : List Nat) : List UInt8 := ks.flatMap fun k => 32 :: Lib.decDigits k
theorem app_list (a b : By) : (a ++ b).data.toList = a.data.toList ++ b.data.toList := by
  rw [ByteArray.data_append, Array.toList_append]
theorem keyK_list (n s : By) : ∀ (ks : List Nat), (keyK n s ks).data.toList = n.data.toList ++ 58 :: (s.data.toList ++ keyT ks) := by
  have h : ∀ (ks : List Nat) (b : By), (ks.foldl (fun b k => b ++ (spB ++ nstr k)) b).data.toList = b.data.toList ++ keyT ks := by
    intro ks
    induction ks with
    | nil => intro b; simp [keyT]
    | cons k ks ih =>
      intro b
      rw [List.foldl_cons, ih, app_list, app_list, nstr_list]
      simp [keyT, spB]
  intro ks
  unfold keyK
  rw [h, app_list, app_list]
  simp [colonB]
theorem split_uniq (c : UInt8) : ∀ {a a' b b' : List UInt8}, c ∉ a → c ∉ a' → a ++ c :: b = a' ++ c :: b' → a = a' ∧ b = b'
  | [], [], b, b', _, _, h => by
    injection h with _ h
    exact ⟨rfl, h⟩
  | [], x :: a', b, b', _, h2, h => by
    injection h with h _
    exact absurd (by rw [h]; exact List.mem_cons_self ..) h2
  | x :: a, [], b, b', h1, _, h => by
    injection h with h _
    exact absurd (by rw [h]; exact List.mem_cons_self ..) h1
  | x :: a, y :: a', b, b', h1, h2, h => by
    injection h with e h
    obtain ⟨r1, r2⟩ := split_uniq c (fun hh => h1 (List.mem_cons_of_mem _ hh)) (fun hh => h2 (List.mem_cons_of_mem _ hh)) h
    exact ⟨by rw [e, r1], r2⟩
/-- empty, or beginning with c -/
def Beg (c : UInt8) (l : List UInt8) : Prop := l = [] ∨ ∃ m, l = c :: m
theorem split_beg (c : UInt8) : ∀ {a a' b b' : List UInt8}, c ∉ a → c ∉ a' → Beg c b → Beg c b' → a ++ b = a' ++ b' → a = a' ∧ b = b'
  | [], [], b, b', _, _, _, _, h => ⟨rfl, h⟩
  | [], x :: a', b, b', _, h2, hb, _, h => by
    rcases hb with rfl | ⟨m, rfl⟩
    · simp at h
    · injection h with h _
      exact absurd (by rw [h]; exact List.mem_cons_self ..) h2
  | x :: a, [], b, b', h1, _, _, hb, h => by
    rcases hb with rfl | ⟨m, rfl⟩
    · simp at h
    · injection h with h _
      exact absurd (by rw [h]; exact List.mem_cons_self ..) h1
  | x :: a, y :: a', b, b', h1, h2, hb, hb', h => by
    injection h with e h
    obtain ⟨r1, r2⟩ := split_beg c (fun hh => h1 (List.mem_cons_of_mem _ hh)) (fun hh => h2 (List.mem_cons_of_mem _ hh)) hb hb' h
    exact ⟨by rw [e, r1], r2⟩
theorem keyT_beg (ks : List Nat) : Beg 32 (keyT ks) := by
  cases ks with
  | nil => exact .inl rfl
  | cons k ks => exact .inr ⟨_, rfl⟩
def valD (l : List UInt8) : Nat := l.foldl (fun a c => 10 * a + (c.toNat - 48)) 0
theorem dig_nat (k : Nat) (h : k < 10) : (UInt8.ofNat (48 + k)).toNat = 48 + k := by
  rw [UInt8.toNat_ofNat']
  omega
theorem valD_dec (m : Nat) : valD (Lib.decDigits m) = m := by
  induction m using Nat.strongRecOn with
  | _ m ih =>
    rw [Lib.decDigits]
    split
    · rename_i h
      unfold valD
      simp only [List.foldl_cons, List.foldl_nil]
      rw [dig_nat m h]
      omega
    · rename_i h
      have h1 := ih (m / 10) (by omega)
      unfold valD at h1 ⊢
      rw [List.foldl_append, h1]
      simp only [List.foldl_cons, List.foldl_nil]
      rw [dig_nat (m % 10) (by omega)]
      omega
theorem dec_inj {m n : Nat} (h : Lib.decDigits m = Lib.decDigits n) : m = n := by rw [← valD_dec m, h, valD_dec]
theorem dec_nosp (m : Nat) : (32 : UInt8) ∉ Lib.decDigits m := by
  induction m using Nat.strongRecOn with
  | _ m ih =>
    rw [Lib.decDigits]
    split
    · rename_i h
      intro hm
      rw [List.mem_singleton] at hm
      have := congrArg UInt8.toNat hm
      rw [dig_nat m h] at this
      have h2 : (32 : UInt8).toNat = 32 := rfl
      omega
    · rename_i h
      intro hm
      rw [List.mem_append, List.mem_singleton] at hm
      rcases hm with hm | hm
      · exact ih (m / 10) (by omega) hm
      · have := congrArg UInt8.toNat hm
        rw [dig_nat (m % 10) (by omega)] at this
        have h2 : (32 : UInt8).toNat = 32 := rfl
        omega
theorem keyT_inj : ∀ {ks ks' : List Nat}, keyT ks = keyT ks' → ks = ks'
  | [], [], _ => rfl
  | [], k :: ks, h => by simp [keyT] at h
  | k :: ks, [], h => by simp [keyT] at h
  | k :: ks, j :: js, h => by
    have h' : Lib.decDigits k ++ keyT ks = Lib.decDigits j ++ keyT js := by
      simpa [keyT] using h
    obtain ⟨e1, e2⟩ := split_beg 32 (dec_nosp k) (dec_nosp j) (keyT_beg ks) (keyT_beg js) h'
    rw [dec_inj e1, keyT_inj e2]
/-- neither a colon nor a space -/
def NoCS (b : By) : Prop := (58 : UInt8) ∉ b.data.toList ∧ (32 : UInt8) ∉ b.data.toList
theorem NoCS.nul : NoCS nul := ⟨by simp [Go.Hw.nul], by simp [Go.Hw.nul]⟩
theorem bytes_ext {a b : By} (h : a.data.toList = b.data.toList) : a = b := by
  cases a; cases b
  simp only [ByteArray.mk.injEq]
  exact Array.toList_inj.1 h
theorem keyK_inj {n s n' s' : By} {ks ks' : List Nat} (h1 : NoCS n) (h2 : NoCS s) (h1' : NoCS n') (h2' : NoCS s') (h : keyK n s ks = keyK n' s' ks') : n = n' ∧ s = s' ∧ ks = ks' := by
  have h3 := congrArg (fun b : By => b.data.toList) h
  simp only [keyK_list] at h3
  obtain ⟨e1, e2⟩ := split_uniq 58 h1.1 h1'.1 h3
  obtain ⟨e3, e4⟩ := split_beg 32 h2.2 h2'.2 (keyT_beg ks) (keyT_beg ks') e2
  exact ⟨bytes_ext e1, bytes_ext e3, keyT_inj e4⟩
/-! ### the order, case by case -/
theorem gt_leaf (r : By → Nat) {s t : Tm} (h : s.sort ≠ nul) : gt r s t = false := by
  rw [Bool.eq_false_iff]
  exact fun h2 => h ((gt_iff r s t).1 h2).1
theorem gt_cov (r : By → Nat) {s t k : Tm} (hs : s.sort = nul) (hk : k ∈ s.kids) (h : k = t ∨ gt r k t = true) : gt r s t = true := (gt_iff r s t).2 ⟨hs, .inl ⟨k, hk, h⟩⟩
theorem gt_var (r : By → Nat) {s t : Tm} (hn : ¬ Cov r s t) (ht : t.sort ≠ nul) : gt r s t = false := by
  rw [Bool.eq_false_iff]
  intro h
  rcases ((gt_iff r s t).1 h).2 with h | h
  · exact hn h
  · exact ht h.1
theorem gt_part (r : By → Nat) {s t k : Tm} (hn : ¬ Cov r s t) (hk : k ∈ t.kids) (h : gt r s k = false) : gt r s t = false := by
  rw [Bool.eq_false_iff]
  intro h2
  rcases ((gt_iff r s t).1 h2).2 with h3 | h3
  · exact hn h3
  · rw [h3.2.1 k hk] at h; cases h
theorem gt_name (r : By → Nat) {s t : Tm} (hn : ¬ Cov r s t) (hs : s.sort = nul) (ht : t.sort = nul) (ha : ∀ k ∈ t.kids, gt r s k = true) (hne : s.name ≠ t.name) : gt r s t = decide (r s.name < r t.name) := by
  rw [Bool.eq_iff_iff, gt_iff, decide_eq_true_eq]
  constructor
  · rintro ⟨_, h | ⟨_, _, h | h⟩⟩
    · exact absurd h hn
    · exact absurd h.1 hne
    · exact h.2
  · exact fun h => ⟨hs, .inr ⟨ht, ha, .inr ⟨hne, h⟩⟩⟩
theorem gt_len (r : By → Nat) {s t : Tm} (hn : ¬ Cov r s t) (he : s.name = t.name) (hl : s.kids.length ≠ t.kids.length) : gt r s t = false := by
  rw [Bool.eq_false_iff]
  intro h
  rcases ((gt_iff r s t).1 h).2 with h | ⟨_, _, h | h⟩
  · exact hn h
  · exact hl h.2.1
  · exact h.1 he
theorem gt_lex (r : By → Nat) {s t : Tm} (hn : ¬ Cov r s t) (hs : s.sort = nul) (ht : t.sort = nul) (ha : ∀ k ∈ t.kids, gt r s k = true) (he : s.name = t.name) (hl : s.kids.length = t.kids.length) : gt r s t = lexG (gt r) s.kids t.kids := by
  rw [Bool.eq_iff_iff, gt_iff]
  constructor
  · rintro ⟨_, h | ⟨_, _, h | h⟩⟩
    · exact absurd h hn
    · exact h.2.2
    · exact absurd he h.1
  · exact fun h => ⟨hs, .inr ⟨ht, ha, .inl ⟨he, hl, h⟩⟩⟩
theorem lexG_at (g : Tm → Tm → Bool) : ∀ (i : Nat) (L M : List Tm), i < L.length → i < M.length → (∀ j, j < i → tg L j = tg M j) → tg L i ≠ tg M i → lexG g L M = g (tg L i) (tg M i)
  | _, [], _, h, _, _, _ => by simp at h
  | _, a :: L, [], _, h, _, _ => by simp at h
  | 0, a :: L, b :: M, _, _, _, h => by
    unfold lexG
    exact if_neg h
  | i + 1, a :: L, b :: M, h1, h2, he, hne => by
    unfold lexG
    have h0 : a = b := he 0 (by omega)
    rw [if_pos h0]
    exact lexG_at g i L M (by simpa using h1) (by simpa using h2) (fun j hj => he (j + 1) (by omega)) hne
theorem lexG_all (g : Tm → Tm → Bool) {L M : List Tm} (hl : L.length = M.length) (he : ∀ j, j < L.length → tg L j = tg M j) : lexG g L M = false := by
  have : L = M := List.ext_getElem hl (fun j h1 h2 => by
    have := he j h1
    unfold tg at this
    rwa [List.getD_eq_getElem?_getD, List.getD_eq_getElem?_getD, List.getElem?_eq_getElem h1, List.getElem?_eq_getElem h2] at this)
  rw [this]
  exact lexG_irrefl g M
/- a variable occurs -/
mutual
def occ (v : Tm) : Tm → Bool
  | .mk n s L => if s = nul then occs v L else decide (n = v.name) && decide (s = v.sort)
def occs (v : Tm) : List Tm → Bool
  | [] => false
  | a :: L => occ v a || occs v L
end
theorem occs_any (v : Tm) : ∀ L, occs v L = L.any (occ v)
  | [] => rfl
  | a :: L => by rw [occs, List.any_cons, occs_any v L]
theorem occ_iff (r : By → Nat) {v : Tm} (hv : v.sort ≠ nul) (hk : v.kids = []) : ∀ s : Tm, NoP s → (occ v s = true ↔ s = v ∨ gt r s v = true) := by
  refine ind (fun n s L ih hn => ?_)
  unfold occ
  by_cases hs : s = nul
  · rw [if_pos hs, occs_any, List.any_eq_true]
    constructor
    · rintro ⟨x, hx, ho⟩
      exact .inr (gt_cov r hs hx ((ih x hx (hn.kid hx)).1 ho))
    · rintro (h | h)
      · exact absurd (by rw [← h]; exact hs) hv
      · rcases ((gt_iff r _ _).1 h).2 with ⟨k, hk, h2⟩ | h2
        · exact ⟨k, hk, (ih k hk (hn.kid hk)).2 h2⟩
        · exact absurd h2.1 hv
  · rw [if_neg hs, gt_leaf r (show (Tm.mk n s L).sort ≠ nul from hs), Bool.and_eq_true, decide_eq_true_eq, decide_eq_true_eq]
    have hL : L = [] := hn _ (mem_sbts_self _) hs
    constructor
    · rintro ⟨h1, h2⟩
      refine .inl ?_
      rw [← eta v, ← h1, ← h2, hk, hL]
    · rintro (h | h)
      · rw [← h]; exact ⟨rfl, rfl⟩
      · cases h
theorem gt_occ (r : By → Nat) {s t : Tm} (hn : ¬ Cov r s t) (hs : s.sort = nul) (ht : t.sort ≠ nul) (hk : t.kids = []) (hp : NoP s) : gt r s t = occ t s := by
  rw [gt_var r hn ht]
  refine (Bool.eq_false_iff.2 fun h => ?_).symm
  rcases (occ_iff r ht hk s hp).1 h with h2 | h2
  · exact ht (by rw [← h2]; exact hs)
  · rw [gt_var r hn ht] at h2; cases h2
end Go.Hw

/- Lists of lists in memory. -/
namespace Go.Hw
open Go.RowKit Tm
set_option linter.unusedVariables false
set_option linter.unusedSimpArgs false
abbrev natV (k : Nat) : Value := .int .i64 (k : Int)
theorem SlR.one_at {β : Type} {enc : β → Value} {d : β} {S : Nat → Prop} {w : World} {a : Option Addr} {n cap : Nat} {l : List β} (h : SlR S w 1 (.slice a n cap) l.length (l.map enc)) (hl : 0 < l.length) :
    ∃ g off, a = some ⟨g, off, none⟩ ∧ S g ∧ ∀ i, i < l.length → w.cell? ⟨g, off + i, none⟩ = some (enc (l.getD i d)) := by
  obtain ⟨g, off, c, e, _, hS, hj⟩ := SlR.pos h hl
  injection e with e1 e2 e3
  refine ⟨g, off, e1, hS, fun i hi => ?_⟩
  rw [hj i (by omega), List.getElem?_map, List.getElem?_eq_getElem hi, List.getD_eq_getElem?_getD, List.getElem?_eq_getElem hi]
  rfl
/-- a list of lists that is read -/
def LlR {β : Type} (enc : β → Value) (S : Nat → Prop) (w : World) (v : Value) (LL : List (List β)) : Prop :=
  ∃ us : List Value, us.length = LL.length ∧ SlR S w 1 v LL.length us ∧ ∀ i, i < LL.length → SlR S w 1 (ug us i) (LL.getD i []).length ((LL.getD i []).map enc)
section
variable {β : Type} {enc : β → Value} {S T F : Nat → Prop} {w w' : World} {v : Value} {LL : List (List β)}
theorem LlR.shape (h : LlR enc S w v LL) : ∃ a cap, v = .slice a LL.length cap := by
  obtain ⟨us, _, h, _⟩ := h
  exact h.shape
theorem LlR.kept (h : LlR enc S w v LL) (hu : Upd F w w') (hF : ∀ k, S k → ¬ F k) : LlR enc S w' v LL := by
  obtain ⟨us, h1, h2, h3⟩ := h
  exact ⟨us, h1, h2.kept hu hF, fun i hi => (h3 i hi).kept hu hF⟩
theorem LlR.ext (h : LlR enc S w v LL) (hu : Ext w w') : LlR enc S w' v LL := h.kept hu (fun _ _ h => h)
theorem LlR.weaken (h : LlR enc S w v LL) (hs : ∀ k, S k → T k) : LlR enc T w v LL := by
  obtain ⟨us, h1, h2, h3⟩ := h
  exact ⟨us, h1, h2.weaken hs, fun i hi => (h3 i hi).weaken hs⟩
theorem LlR.at_ {a : Option Addr} {n cap : Nat} (h : LlR enc S w (.slice a n cap) LL) (hl : 0 < LL.length) :
    ∃ g off, a = some ⟨g, off, none⟩ ∧ S g ∧ ∀ i, i < LL.length → ∃ a' cap', w.cell? ⟨g, off + i, none⟩ = some (.slice a' (LL.getD i []).length cap') ∧ SlR S w 1 (.slice a' (LL.getD i []).length cap') (LL.getD i []).length ((LL.getD i []).map enc) := by
  obtain ⟨us, h1, h2, h3⟩ := h
  obtain ⟨g, off, c, e, _, hS, hj⟩ := h2.pos hl
  injection e with e1 e2 e3
  refine ⟨g, off, e1, hS, fun i hi => ?_⟩
  have h4 := h3 i hi
  obtain ⟨a', cap', e'⟩ := h4.shape
  rw [e'] at h4
  refine ⟨a', cap', ?_, h4⟩
  rw [hj i (by omega), ← e']
  unfold ug
  rw [List.getD_eq_getElem?_getD, List.getElem?_eq_getElem (by omega)]
  rfl
end
theorem ng_map1 (N : List Nt) (i : Nat) (h : i < N.length) : tg (N.map (·.1)) i = (ng N i).1 := by
  unfold tg ng
  rw [List.getD_eq_getElem?_getD, List.getD_eq_getElem?_getD, List.getElem?_map, List.getElem?_eq_getElem h]
  rfl
theorem ng_map2 (N : List Nt) (i : Nat) (h : i < N.length) : (N.map (·.2)).getD i [] = (ng N i).2 := by
  unfold ng
  rw [List.getD_eq_getElem?_getD, List.getD_eq_getElem?_getD, List.getElem?_map, List.getElem?_eq_getElem h]
  rfl
/-- the parts by their numbers -/
theorem Num.part {N : List Nt} (h : Num N) {i : Nat} (hi : i < N.length) {k : Nat} (hk : k < (ng N i).2.length) : (ng N i).2.getD k 0 < i ∧ (ng N ((ng N i).2.getD k 0)).1 = tg (ng N i).1.kids k := by
  have h1 := h.map i hi
  have h2 := h.kid i hi
  generalize (ng N i).2 = ks at *
  generalize (ng N i).1.kids = L at *
  have hg : ks.getD k 0 = ks[k] := by rw [List.getD_eq_getElem?_getD, List.getElem?_eq_getElem hk]; rfl
  refine ⟨h2 _ (by rw [hg]; exact List.getElem_mem hk), ?_⟩
  rw [hg, ← h1]
  show _ = (ks.map (fun k => (ng N k).1)).getD k default
  rw [List.getD_eq_getElem?_getD, List.getElem?_map, List.getElem?_eq_getElem hk]
  rfl
theorem Num.len {N : List Nt} (h : Num N) {i : Nat} (hi : i < N.length) : (ng N i).2.length = (ng N i).1.kids.length := by rw [← h.map i hi, List.length_map]
theorem not_cov_of {r : By → Nat} {s t : Tm} (h : ∀ j, j < s.kids.length → ¬ (tg s.kids j = t ∨ gt r (tg s.kids j) t = true)) : ¬ Cov r s t := by
  rintro ⟨k, hk, h2⟩
  obtain ⟨i, hi, rfl⟩ := List.mem_iff_getElem.1 hk
  have h3 : tg s.kids i = s.kids[i] := by unfold tg; rw [List.getD_eq_getElem?_getD, List.getElem?_eq_getElem hi]; rfl
  exact h i hi (by rw [h3]; exact h2)
theorem all_of_tg {P : Tm → Prop} {L : List Tm} (h : ∀ j, j < L.length → P (tg L j)) : ∀ k ∈ L, P k := by
  intro k hk
  obtain ⟨i, hi, rfl⟩ := List.mem_iff_getElem.1 hk
  have h3 : tg L i = L[i] := by unfold tg; rw [List.getD_eq_getElem?_getD, List.getElem?_eq_getElem hi]; rfl
  rw [← h3]
  exact h i hi
theorem tg_in {L : List Tm} {k : Nat} (h : k < L.length) : tg L k ∈ L := by
  unfold tg; rw [List.getD_eq_getElem?_getD, List.getElem?_eq_getElem h]; exact List.getElem_mem h
abbrev bt (T : List (List Bool)) (p q : Nat) : Bool := (T.getD p []).getD q false
end Go.Hw

/- Maps in memory, as lists of entries in the order in which they came. -/
namespace Go.Hw
open Go.RowKit
set_option linter.unusedVariables false
set_option linter.unusedSimpArgs false
section
variable {κ : Type} [DecidableEq κ]
def afind (l : List (κ × Value)) (k : κ) : Option Value := (l.find? fun p => decide (p.1 = k)).map (·.2)
def aput (l : List (κ × Value)) (k : κ) (v : Value) : List (κ × Value) :=
  match l with
  | [] => [(k, v)]
  | p :: l => if p.1 = k then (k, v) :: l else p :: aput l k v
theorem afind_cons (p : κ × Value) (l : List (κ × Value)) (k : κ) : afind (p :: l) k = if p.1 = k then some p.2 else afind l k := by
  unfold afind
  rw [List.find?_cons]
  by_cases h : p.1 = k
  · rw [if_pos h, decide_eq_true h]; rfl
  · rw [if_neg h, decide_eq_false h]
theorem afind_put (l : List (κ × Value)) (k j : κ) (v : Value) : afind (aput l k v) j = if j = k then some v else afind l j := by
  induction l with
  | nil =>
    unfold aput
    rw [afind_cons]
    by_cases h : j = k
    · rw [if_pos h, if_pos h.symm]
    · rw [if_neg h, if_neg (fun e => h e.symm)]
  | cons p l ih =>
    unfold aput
    by_cases h : p.1 = k
    · rw [if_pos h, afind_cons, afind_cons]
      by_cases h2 : j = k
      · rw [if_pos h2, if_pos h2.symm]
      · rw [if_neg h2, if_neg (fun e => h2 e.symm), if_neg (fun e => h2 (by rw [← e, h]))]
    · rw [if_neg h, afind_cons, afind_cons, ih]
      by_cases h2 : j = k
      · subst h2; rw [if_neg h, if_pos rfl, if_pos rfl]
      · rw [if_neg h2, if_neg h2]
theorem aput_len (l : List (κ × Value)) (k : κ) (v : Value) : (aput l k v).length ≤ l.length + 1 := by
  induction l with
  | nil => simp [aput]
  | cons p l ih =>
    unfold aput
    split
    · simp
    · simp; omega
/-- keys that the machine finds -/
structure KeyEnc (P : Program) (kt : TypeId) (enc : κ → Value) : Prop where
  check : ∀ b x W, (Instr.checkKey b 10000 kt (enc x)).run P W = .ok () W
  find : ∀ x (es : List MapEntry) (l : List (κ × Value)) W, es.map (fun e => (e.key, e.val)) = l.map (fun p => (enc p.1, p.2)) →
    (Instr.findKey kt (enc x) es).run P W = .ok ((l.findIdx? fun p => decide (p.1 = x)).map fun i => (i, ((l[i]?).map (·.2)).getD (.bool false))) W
  same : ∀ x, Instr.sameBits 10000 (enc x) (enc x) = true
def MpR (enc : κ → Value) (w : World) (b : Nat) (l : List (κ × Value)) : Prop :=
  ∃ es clock, w.heap[b]? = some (.map es clock) ∧ es.toList.map (fun e => (e.key, e.val)) = l.map (fun p => (enc p.1, p.2)) ∧ es.toList.Pairwise (fun x y => x.born < y.born) ∧ ∀ e ∈ es.toList, e.born < clock
omit [DecidableEq κ] in
theorem MpR.made (enc : κ → Value) (w : World) : MpR enc (w.alloc (.map #[] 0)) w.heap.size [] := ⟨#[], 0, alloc0 _ _, rfl, List.Pairwise.nil, fun _ h => by cases h⟩
omit [DecidableEq κ] in
theorem MpR.kept {enc : κ → Value} {F : Nat → Prop} {w w' : World} {b : Nat} {l : List (κ × Value)} (h : MpR enc w b l) (hu : Upd F w w') (hF : ¬ F b) : MpR enc w' b l := by
  obtain ⟨es, c, h1, h2⟩ := h
  exact ⟨es, c, hu.heap h1 hF, h2⟩
omit [DecidableEq κ] in
theorem MpR.ext {enc : κ → Value} {w w' : World} {b : Nat} {l : List (κ × Value)} (h : MpR enc w b l) (hu : Ext w w') : MpR enc w' b l := h.kept hu (fun h => h)
omit [DecidableEq κ] in
theorem MpR.lt {enc : κ → Value} {w : World} {b : Nat} {l : List (κ × Value)} (h : MpR enc w b l) : b < w.heap.size := by
  obtain ⟨es, c, h1, _⟩ := h
  exact (Array.getElem?_eq_some_iff.1 h1).1
theorem idx_find (l : List (κ × Value)) (k : κ) : (l.findIdx? fun p => decide (p.1 = k)).map (fun i => ((l[i]?).map (·.2)).getD (.bool false)) = afind l k := by
  induction l with
  | nil => rfl
  | cons p l ih =>
    rw [List.findIdx?_cons, afind_cons]
    by_cases h : p.1 = k
    · rw [if_pos h, decide_eq_true h]
      rfl
    · rw [if_neg h, decide_eq_false h, ← ih]
      simp only [Bool.false_eq_true, if_false, Option.map_map]
      rfl
theorem MpR.get {P : Program} {enc : κ → Value} {kt et t : TypeId} (K : KeyEnc P kt enc) (ht : P.underlying t = some (.map kt et)) {w : World} {b : Nat} {l : List (κ × Value)} {z : Value} (hz : (zeroValue et).run P w = .ok z w) (h : MpR enc w b l) (k : κ) (c : Bool) :
    (Instr.lookup t (.map (some b)) (enc k) c).run P w = .ok (if c then .tuple #[(afind l k).getD z, .bool (afind l k).isSome] else (afind l k).getD z) w := by
  obtain ⟨es, cl, h1, h2, _⟩ := h
  have hf := K.find k es.toList l w h2
  have hc := K.check es.isEmpty k w
  rw [← idx_find]
  generalize hx : (l.findIdx? fun p => decide (p.1 = k)) = x at *
  cases x with
  | none => cases c <;> simp [Instr.lookup, run_underlying ht, MapKept.run_getObj_map h1, hc, hf, hz, Result.andThen]
  | some i => cases c <;> simp [Instr.lookup, run_underlying ht, MapKept.run_getObj_map h1, hc, hf, hz, Result.andThen]
theorem aput_idx (l : List (κ × Value)) (k : κ) (v : Value) : aput l k v = match l.findIdx? fun p => decide (p.1 = k) with | some i => l.set i (k, v) | none => l ++ [(k, v)] := by
  induction l with
  | nil => rfl
  | cons p l ih =>
    unfold aput
    rw [List.findIdx?_cons]
    by_cases h : p.1 = k
    · rw [if_pos h, decide_eq_true h]
      rfl
    · rw [if_neg h, decide_eq_false h, ih]
      cases (l.findIdx? fun p => decide (p.1 = k)) <;> rfl
theorem MpR.put {P : Program} {enc : κ → Value} {kt et t : TypeId} (K : KeyEnc P kt enc) (ht : P.underlying t = some (.map kt et)) {w : World} {b : Nat} {l : List (κ × Value)} (h : MpR enc w b l) (k : κ) (v : Value) :
    ∃ w', (Instr.mapUpdate t (.map (some b)) (enc k) v).run P w = .ok () w' ∧ MpR enc w' b (aput l k v) ∧ Upd (fun j => j = b) w w' := by
  obtain ⟨es, cl, h1, h2, h3, h4⟩ := h
  have hf := K.find k es.toList l w h2
  have hc := K.check false k w
  have hblt := (Array.getElem?_eq_some_iff.1 h1).1
  have hupd : ∀ o, Upd (fun j => j = b) w { w with heap := w.heap.setIfInBounds b o } := fun o =>
    ⟨rfl, rfl, rfl, by simp, fun i hi hF => by simp [Ne.symm (show i ≠ b from hF)]⟩
  rw [aput_idx]
  generalize hx : (l.findIdx? fun p => decide (p.1 = k)) = x at *
  cases x with
  | none =>
    refine ⟨_, by simp [Instr.mapUpdate, run_underlying ht, MapKept.run_getObj_map h1, hc, hf, MapKept.run_setObj_map _ h1, Result.andThen]; rfl, ⟨es.push { key := enc k, val := v, born := cl }, cl + 1, by simp [hblt], ?_, ?_, ?_⟩, hupd _⟩
    · simp [h2]
    · simp only [Array.toList_push]
      rw [List.pairwise_append]
      refine ⟨h3, by simp, fun x hx y hy => ?_⟩
      rw [List.mem_singleton] at hy
      subst hy
      exact h4 x hx
    · intro e he
      simp only [Array.toList_push, List.mem_append, List.mem_singleton] at he
      rcases he with he | he
      · have := h4 e he; omega
      · subst he; simp
  | some i =>
    have hi : i < l.length := by
      rw [List.findIdx?_eq_some_iff_getElem] at hx
      exact hx.1
    have hlen : es.size = l.length := by
      have := congrArg List.length h2
      simpa using this
    have hki : (l[i]'hi).1 = k := by
      rw [List.findIdx?_eq_some_iff_getElem] at hx
      simpa using hx.2.1
    have hes : (es[i]'(by omega)).key = enc k := by
      have h5 : (es.toList.map (fun e => (e.key, e.val)))[i]? = (l.map (fun p => (enc p.1, p.2)))[i]? := by rw [h2]
      rw [List.getElem?_map, List.getElem?_map, Array.getElem?_toList, Array.getElem?_eq_getElem (show i < es.size by omega), List.getElem?_eq_getElem hi] at h5
      simp only [Option.map_some] at h5
      have h6 := congrArg Prod.fst (Option.some.inj h5)
      simp only at h6
      rw [h6, hki]
    have hst : (Instr.keyThatStays (((es[i]?).map (·.key)).getD (enc k)) (enc k)).run P w = .ok (enc k) w := by
      rw [Array.getElem?_eq_getElem (show i < es.size by omega)]
      simp only [Option.map_some, Option.getD_some, hes]
      unfold Instr.keyThatStays
      rw [if_pos (K.same k)]
      rfl
    refine ⟨_, by simp [Instr.mapUpdate, run_underlying ht, MapKept.run_getObj_map h1, hc, hf, hst, MapKept.run_setObj_map _ h1, Result.andThen]; rfl, ⟨es.modify i fun e => { e with key := enc k, val := v }, cl, by simp [hblt], ?_, ?_, ?_⟩, hupd _⟩
    · rw [Array.toList_modify]
      apply List.ext_getElem?
      intro j
      have h5 : (es.toList.map (fun e => (e.key, e.val)))[j]? = (l.map (fun p => (enc p.1, p.2)))[j]? := by rw [h2]
      simp only [List.getElem?_map, List.getElem?_modify, List.getElem?_set] at h5 ⊢
      by_cases e : i = j
      · subst e
        rw [if_pos rfl, if_pos hi]
        rw [Array.getElem?_toList, Array.getElem?_eq_getElem (show i < es.size by omega)]
        simp
      · rw [if_neg e]
        cases hq : es.toList[j]? with
        | none => rw [hq] at h5; simpa using h5
        | some u => rw [hq] at h5; simpa [e] using h5
    · rw [Array.toList_modify]
      have e : (es.toList.modify i fun e => { e with key := enc k, val := v }).map (·.born) = es.toList.map (·.born) := by
        apply List.ext_getElem?
        intro j
        simp only [List.getElem?_map, List.getElem?_modify]
        cases es.toList[j]? with
        | none => rfl
        | some u => simp only [Option.map_some]; split <;> rfl
      have h6 : (es.toList.map (·.born)).Pairwise (· < ·) := List.pairwise_map.2 h3
      rw [← e] at h6
      exact List.pairwise_map.1 h6
    · intro e he
      rw [Array.toList_modify] at he
      have h7 : e.born ∈ (es.toList.modify i fun e => { e with key := enc k, val := v }).map (·.born) := List.mem_map_of_mem he
      have e2 : (es.toList.modify i fun e => { e with key := enc k, val := v }).map (·.born) = es.toList.map (·.born) := by
        apply List.ext_getElem?
        intro j
        simp only [List.getElem?_map, List.getElem?_modify]
        cases es.toList[j]? with
        | none => rfl
        | some u => simp only [Option.map_some]; split <;> rfl
      rw [e2] at h7
      obtain ⟨u, hu, he2⟩ := List.mem_map.1 h7
      rw [← he2]
      exact h4 u hu
end
/-- strings -/
theorem strKey {P : Program} {kt : TypeId} (hk : P.underlying kt = some .string) : KeyEnc P kt (fun s : ByteArray => Value.string s) where
  check b x W := MapKept.run_checkKey hk (by simp [MapKept.IsKey]) b 9999
  same x := by
    show (x == x) = true
    exact (MapKept.bytes_beq _ _).2 rfl
  find x es l W h := by
    refine MapKept.run_findKey hk ?_
    have : ∀ (es : List MapEntry) (l : List (ByteArray × Value)) (i : Nat), es.map (fun e => (e.key, e.val)) = l.map (fun p => (Value.string p.1, p.2)) →
        Instr.findNow .string (.string x) es i = some ((l.findIdx? fun p => decide (p.1 = x)).map fun j => (i + j, ((l[j]?).map (·.2)).getD (.bool false))) := by
      intro es
      induction es with
      | nil =>
        intro l i h
        have : l = [] := by cases l; rfl; simp at h
        subst this
        rfl
      | cons e es ih =>
        intro l i h
        cases l with
        | nil => simp at h
        | cons p l =>
          simp only [List.map_cons, List.cons.injEq, Prod.mk.injEq] at h
          obtain ⟨⟨h1, h2⟩, h3⟩ := h
          unfold Instr.findNow
          rw [h1]
          simp only [Instr.sameNow]
          rw [List.findIdx?_cons]
          by_cases hx : p.1 = x
          · have hb : (x == p.1) = true := (MapKept.bytes_beq _ _).2 hx.symm
            rw [hb, decide_eq_true hx]
            simp [h2]
          · have hb : (x == p.1) = false := by
              rw [Bool.eq_false_iff]
              intro e
              exact hx ((MapKept.bytes_beq _ _).1 e).symm
            rw [hb, decide_eq_false hx]
            simp only
            rw [ih l (i + 1) h3]
            cases (l.findIdx? fun p => decide (p.1 = x)) with
            | none => rfl
            | some j => simp; omega
    have h2 := this es l 0 h
    simpa using h2
end Go.Hw

/- Pairs of numbers as keys of a map. -/
namespace Go.Hw
open Go.RowKit
set_option linter.unusedVariables false
set_option linter.unusedSimpArgs false
abbrev pairV (p : Nat × Nat) : Value := .agg #[natV p.1, natV p.2]
section
variable {P : Program} {kt et : TypeId} {i : TypeInfo}
theorem part_int (hk : P.underlying et = some (.int .i64)) (xs : Array Value) (o : Nat) (v : Value) (W : World) (h : xs[o]? = some v) : (part et xs o).run P W = .ok v W :=
  run_part_plain W (by unfold Program.plainKey; rw [hk]) h
theorem int_eq (he : P.underlying et = some (.int .i64)) (d : Nat) (a c : Int) (W : World) : (Op.equalIn (d + 1) et (.int .i64 a) (.int .i64 c)).run P W = .ok (a == c) W := by
  rw [Op.equalIn]
  simp only [Sem.run_bind, run_underlying he, Result.andThen_ok, if_true, Sem.run_pure]
theorem pair_eq' (hk : P.underlying kt = some (.array 2 et)) (he : P.underlying et = some (.int .i64)) (hi : P.info? et = some i) (hc : P.cellsOf et = 1) (n : Nat) (a b c d : Int) (W : World) :
    (Op.equalIn (n + 1 + 1) kt (.agg #[.int .i64 a, .int .i64 b]) (.agg #[.int .i64 c, .int .i64 d])).run P W = .ok (a == c && b == d) W := by
  have h0 := fun x y => part_int (P := P) he #[x, y] 0 x W rfl
  have h1 := fun x y => part_int (P := P) he #[x, y] 1 y W rfl
  have h2 := fun a c => int_eq (P := P) he n a c W
  rw [Op.equalIn]
  simp only [Sem.run_bind, run_underlying hk, Result.andThen_ok, run_sizeOf W hi, hc]
  simp only [Std.Legacy.Range.forIn_eq_forIn_range', Std.Legacy.Range.size, Nat.sub_zero, Nat.add_one_sub_one, Nat.div_one]
  rw [show List.range' 0 2 = [0, 1] from rfl]
  simp only [List.forIn_cons, List.forIn_nil, Sem.run_bind, Nat.mul_one, h0, h1, h2, Result.andThen_ok, Sem.run_pure]
  by_cases e1 : a = c <;> by_cases e2 : b = d <;> simp [e1, e2, h0, h1, h2, Result.andThen]
theorem pair_eq (hk : P.underlying kt = some (.array 2 et)) (he : P.underlying et = some (.int .i64)) (hi : P.info? et = some i) (hc : P.cellsOf et = 1) (a b c d : Int) (W : World) :
    (Op.equal kt (.agg #[.int .i64 a, .int .i64 b]) (.agg #[.int .i64 c, .int .i64 d])).run P W = .ok (a == c && b == d) W := pair_eq' hk he hi hc 9998 a b c d W
theorem int_check (he : P.underlying et = some (.int .i64)) (em : Bool) (d : Nat) (a : Int) (W : World) : (Instr.checkKey em (d + 1) et (.int .i64 a)).run P W = .ok () W := by
  rw [Instr.checkKey]
  simp only [Sem.run_bind, run_underlying he, Result.andThen_ok, Sem.run_pure]
theorem pair_check' (hk : P.underlying kt = some (.array 2 et)) (he : P.underlying et = some (.int .i64)) (hi : P.info? et = some i) (hc : P.cellsOf et = 1) (em : Bool) (n : Nat) (a b : Int) (W : World) :
    (Instr.checkKey em (n + 1 + 1) kt (.agg #[.int .i64 a, .int .i64 b])).run P W = .ok () W := by
  have h0 := fun x y => part_int (P := P) he #[x, y] 0 x W rfl
  have h1 := fun x y => part_int (P := P) he #[x, y] 1 y W rfl
  have h2 := fun a => int_check (P := P) he em n a W
  rw [Instr.checkKey]
  simp only [Sem.run_bind, run_underlying hk, Result.andThen_ok, run_sizeOf W hi, hc]
  simp only [Std.Legacy.Range.forIn_eq_forIn_range', Std.Legacy.Range.size, Nat.sub_zero, Nat.add_one_sub_one, Nat.div_one]
  rw [show List.range' 0 2 = [0, 1] from rfl]
  simp only [List.forIn_cons, List.forIn_nil, Sem.run_bind, run_sizeOf W hi, hc, Nat.mul_one, h0, h1, h2, Result.andThen_ok, Sem.run_pure]
theorem pair_check (hk : P.underlying kt = some (.array 2 et)) (he : P.underlying et = some (.int .i64)) (hi : P.info? et = some i) (hc : P.cellsOf et = 1) (em : Bool) (a b : Int) (W : World) :
    (Instr.checkKey em 10000 kt (.agg #[.int .i64 a, .int .i64 b])).run P W = .ok () W := pair_check' hk he hi hc em 9998 a b W
theorem nat_eq_int (a b : Nat) : ((a : Int) == (b : Int)) = decide (a = b) := by
  rw [Bool.eq_iff_iff, beq_iff_eq, decide_eq_true_eq]
  omega
theorem pairKey (hk : P.underlying kt = some (.array 2 et)) (he : P.underlying et = some (.int .i64)) (hi : P.info? et = some i) (hc : P.cellsOf et = 1) : KeyEnc P kt pairV where
  check b x W := pair_check hk he hi hc b _ _ W
  same x := by
    show Instr.sameBits (9998 + 1 + 1) _ _ = true
    simp [Instr.sameBits]
  find x es l W h := by
    rw [run_findKey_eq W (by rw [hk])]
    have : ∀ (es : List MapEntry) (l : List ((Nat × Nat) × Value)) (i : Nat), es.map (fun e => (e.key, e.val)) = l.map (fun p => (pairV p.1, p.2)) →
        (Instr.findAsking kt (pairV x) es i).run P W = .ok ((l.findIdx? fun p => decide (p.1 = x)).map fun j => (i + j, ((l[j]?).map (·.2)).getD (.bool false))) W := by
      intro es
      induction es with
      | nil =>
        intro l i h
        have : l = [] := by cases l; rfl; simp at h
        subst this
        rfl
      | cons e es ih =>
        intro l i h
        cases l with
        | nil => simp at h
        | cons p l =>
          simp only [List.map_cons, List.cons.injEq, Prod.mk.injEq] at h
          obtain ⟨⟨h1, h2⟩, h3⟩ := h
          have hq := pair_eq hk he hi hc x.1 x.2 p.1.1 p.1.2 W
          rw [nat_eq_int, nat_eq_int] at hq
          unfold Instr.findAsking
          rw [h1, List.findIdx?_cons]
          simp only [Sem.run_bind, pairV, natV, hq, Result.andThen_ok]
          by_cases hx : p.1 = x
          · have hb : (decide (x.1 = p.1.1) && decide (x.2 = p.1.2)) = true := by rw [hx]; simp
            rw [hb, decide_eq_true hx]
            simp [h2]
          · have hb : (decide (x.1 = p.1.1) && decide (x.2 = p.1.2)) = false := by
              rw [Bool.eq_false_iff]
              intro e
              rw [Bool.and_eq_true, decide_eq_true_eq, decide_eq_true_eq] at e
              exact hx (Prod.ext e.1.symm e.2.symm)
            rw [hb, decide_eq_false hx]
            have h4 := ih l (i + 1) h3
            simp only [pairV, natV] at h4
            simp only [Bool.false_eq_true, if_false, h4]
            cases (l.findIdx? fun p => decide (p.1 = x)) with
            | none => rfl
            | some j => simp; omega
    have h2 := this es l 0 h
    simpa using h2
end
end Go.Hw

/- Well-formed terms: pure. nm: which strings are names. -/
namespace Go.Hw
open Tm
set_option linter.unusedVariables false
set_option linter.unusedSimpArgs false
section
variable (nm : By → Bool)
/-- a node at a depth is well-formed by itself -/
def okN (p : Tm × Nat) : Bool := decide (p.2 ≤ 60) && (nm p.1.name && (decide (p.1.kids.length ≤ 6) && (decide (p.1.sort = nul) || (nm p.1.sort && decide (p.1.kids.length = 0)))))
/-- the nodes are well-formed and not too many -/
def formedL (l : List (Tm × Nat)) : Bool := decide (l.length ≤ 1000) && l.all (okN nm)
def formed (t : Tm) : Bool := formedL nm (nodesD 1 t)
theorem formed_iff (t : Tm) : formed nm t = true ↔ t.size ≤ 1000 ∧ ∀ p ∈ nodesD 1 t, okN nm p = true := by
  unfold formed formedL
  rw [Bool.and_eq_true, decide_eq_true_eq, nodesD_len, List.all_eq_true]
mutual
def small : Nat → Int → Tm → Int
  | d, left, .mk n s L => if left ≤ 0 ∨ okN nm (.mk n s L, d) = false then -1 else smalls (d + 1) (left - 1) L
def smalls : Nat → Int → List Tm → Int
  | _, left, [] => left
  | d, left, t :: L => if small d left t < 0 then small d left t else smalls d (small d left t) L
end
theorem small_eq (d : Nat) (left : Int) (t : Tm) : small nm d left t = if left ≤ 0 ∨ okN nm (t, d) = false then -1 else smalls nm (d + 1) (left - 1) t.kids := by cases t; rfl
theorem small_spec : ∀ (t : Tm) (d : Nat) (left : Int), small nm d left t = if (nodesD d t).all (okN nm) = true ∧ (t.size : Int) ≤ left then left - t.size else -1 := by
  refine ind (fun n s L ih d left => ?_)
  have hL : ∀ (L : List Tm) (d : Nat) (left : Int), (∀ x ∈ L, ∀ (d : Nat) (left : Int), small nm d left x = if (nodesD d x).all (okN nm) = true ∧ (x.size : Int) ≤ left then left - x.size else -1) → 0 ≤ left →
      smalls nm d left L = if (nodesDs d L).all (okN nm) = true ∧ (sizes L : Int) ≤ left then left - sizes L else -1 := by
    intro L
    induction L with
    | nil =>
      intro d left _ h0
      unfold smalls nodesDs sizes
      rw [if_pos ⟨rfl, by omega⟩]
      simp
    | cons a L ihL =>
      intro d left h h0
      unfold smalls nodesDs sizes
      rw [h a (List.mem_cons_self ..)]
      have hp := size_pos a
      by_cases hc : (nodesD d a).all (okN nm) = true ∧ (a.size : Int) ≤ left
      · rw [if_pos hc, if_neg (by omega), ihL d (left - a.size) (fun x hx => h x (List.mem_cons_of_mem _ hx)) (by omega)]
        have e1 : (nodesD d a ++ nodesDs d L).all (okN nm) = (nodesDs d L).all (okN nm) := by rw [List.all_append, hc.1, Bool.true_and]
        rw [e1]
        by_cases h2 : (nodesDs d L).all (okN nm) = true ∧ (sizes L : Int) ≤ left - a.size
        · rw [if_pos h2, if_pos ⟨h2.1, by omega⟩]; omega
        · rw [if_neg h2, if_neg (fun h3 => h2 ⟨h3.1, by omega⟩)]
      · rw [if_neg hc, if_pos (by omega), if_neg]
        rintro ⟨h3, h4⟩
        rw [List.all_append, Bool.and_eq_true] at h3
        exact hc ⟨h3.1, by omega⟩
  rw [small_eq, nodesD_eq, List.all_cons, size_eq]
  simp only [kids]
  by_cases hc : left ≤ 0 ∨ okN nm (.mk n s L, d) = false
  · rw [if_pos hc]
    refine (if_neg ?_).symm
    rintro ⟨h3, h4⟩
    rw [Bool.and_eq_true] at h3
    rcases hc with h | h
    · omega
    · rw [h3.1] at h; cases h
  · rw [if_neg hc, hL L (d + 1) (left - 1) ih (by omega)]
    have h5 : okN nm (.mk n s L, d) = true := by
      cases h : okN nm (.mk n s L, d)
      · exact absurd (.inr h) hc
      · rfl
    simp only [h5, Bool.true_and]
    by_cases h2 : (nodesDs (d + 1) L).all (okN nm) = true ∧ (sizes L : Int) ≤ left - 1
    · rw [if_pos h2]
      refine Eq.trans ?_ (if_pos ⟨h2.1, by omega⟩).symm
      omega
    · rw [if_neg h2]
      exact (if_neg (fun h3 => h2 ⟨h3.1, by have := h3.2; omega⟩)).symm
theorem small_formed (t : Tm) : formed nm t = decide (0 ≤ small nm 1 1000 t) := by
  rw [small_spec, Bool.eq_iff_iff, formed_iff, decide_eq_true_eq, ← List.all_eq_true]
  by_cases h : (nodesD 1 t).all (okN nm) = true ∧ (t.size : Int) ≤ 1000
  · rw [if_pos h]
    exact ⟨fun _ => by omega, fun _ => ⟨by omega, h.1⟩⟩
  · rw [if_neg h]
    exact ⟨fun h2 => absurd ⟨h2.2, by omega⟩ h, fun h2 => by omega⟩
end
end Go.Hw

/- Variables and their sorts: pure. -/
namespace Go.Hw
open Tm
set_option linter.unusedVariables false
set_option linter.unusedSimpArgs false
/-- the order of strings -/
def blt (a b : By) : Bool := decide (a.data.toList < b.data.toList)
theorem by_ext {a b : By} (h : a.data.toList = b.data.toList) : a = b := by
  cases a; cases b
  simp only [ByteArray.mk.injEq]
  exact Array.toList_inj.1 h
theorem blt_irrefl (a : By) : blt a a = false := by unfold blt; simp
theorem blt_trans {a b c : By} (h1 : blt a b = true) (h2 : blt b c = true) : blt a c = true := by
  unfold blt at *
  rw [decide_eq_true_eq] at *
  exact List.lt_trans h1 h2
theorem blt_tri (a b : By) (h : a ≠ b) : blt a b = true ∨ blt b a = true := by
  unfold blt
  rw [decide_eq_true_eq, decide_eq_true_eq]
  by_cases h1 : a.data.toList < b.data.toList
  · exact .inl h1
  · refine .inr ?_
    have h2 := List.not_lt.1 h1
    rcases List.le_iff_lt_or_eq.1 h2 with h3 | h3
    · exact h3
    · exact absurd (by_ext h3.symm) h
theorem blt_asymm {a b : By} (h : blt a b = true) : blt b a = false := by
  rw [Bool.eq_false_iff]
  intro h2
  have := blt_trans h h2
  rw [blt_irrefl] at this
  cases this
abbrev Vd := By × By
def fget (m : List Vd) (n : By) : Option By := (m.find? fun p => decide (p.1 = n)).map (·.2)
theorem fget_cons (p : Vd) (m : List Vd) (n : By) : fget (p :: m) n = if p.1 = n then some p.2 else fget m n := by
  unfold fget
  rw [List.find?_cons]
  by_cases h : p.1 = n
  · rw [if_pos h, decide_eq_true h]; rfl
  · rw [if_neg h, decide_eq_false h]
theorem fget_snoc (m : List Vd) (p : Vd) (n : By) : fget (m ++ [p]) n = (fget m n).or (if p.1 = n then some p.2 else none) := by
  induction m with
  | nil => rw [List.nil_append, fget_cons]; unfold fget; simp
  | cons a m ih =>
    rw [List.cons_append, fget_cons, fget_cons, ih]
    by_cases h : a.1 = n
    · rw [if_pos h, if_pos h]; rfl
    · rw [if_neg h, if_neg h]
theorem fget_some {m : List Vd} {n s : By} (h : fget m n = some s) : (n, s) ∈ m := by
  induction m with
  | nil => cases h
  | cons a m ih =>
    rw [fget_cons] at h
    by_cases h1 : a.1 = n
    · rw [if_pos h1] at h
      injection h with h
      subst h1 h
      exact List.mem_cons_self ..
    · rw [if_neg h1] at h
      exact List.mem_cons_of_mem _ (ih h)
theorem fget_none {m : List Vd} {n : By} (h : fget m n = none) : ∀ p ∈ m, p.1 ≠ n := by
  induction m with
  | nil => intro p hp; cases hp
  | cons a m ih =>
    rw [fget_cons] at h
    by_cases h1 : a.1 = n
    · rw [if_pos h1] at h; cases h
    · rw [if_neg h1] at h
      intro p hp
      rcases List.mem_cons.1 hp with e | hp
      · rw [e]; exact h1
      · exact ih h p hp
/-- the variables of nodes -/
def vl (l : List Tm) : List Vd := l.filterMap fun x => if x.sort = nul then none else some (x.name, x.sort)
theorem vl_append (l m : List Tm) : vl (l ++ m) = vl l ++ vl m := List.filterMap_append
/-- as the program gathers them: a table -/
def sFold : List Vd → List Vd → Option (List Vd)
  | m, [] => some m
  | m, f :: fs => match fget m f.1 with
    | none => sFold (m ++ [f]) fs
    | some s => if s = f.2 then sFold m fs else none
theorem sFold_append (fs gs : List Vd) : ∀ m, sFold m (fs ++ gs) = (sFold m fs).bind fun m' => sFold m' gs := by
  induction fs with
  | nil => intro m; rfl
  | cons f fs ih =>
    intro m
    simp only [List.cons_append, sFold]
    cases fget m f.1 with
    | none => exact ih _
    | some s =>
      simp only
      split
      · exact ih _
      · rfl
/-- one sort for each name -/
def Cons (fs : List Vd) : Prop := ∀ f ∈ fs, ∀ g ∈ fs, f.1 = g.1 → f.2 = g.2
theorem sFold_spec (fs : List Vd) : ∀ (m : List Vd), Cons m → (∀ m', sFold m fs = some m' → Cons m' ∧ (∀ f, f ∈ m' ↔ f ∈ m ∨ f ∈ fs) ∧ (m.Pairwise (fun p q => p.1 ≠ q.1) → m'.Pairwise (fun p q => p.1 ≠ q.1))) ∧ (sFold m fs = none → ¬ Cons (m ++ fs)) := by
  induction fs with
  | nil =>
    intro m hm
    refine ⟨fun m' h => ?_, fun h => by cases h⟩
    injection h with h
    subst h
    exact ⟨hm, fun f => by simp, fun h => h⟩
  | cons f fs ih =>
    intro m hm
    unfold sFold
    cases hg : fget m f.1 with
    | none =>
      have hn := fget_none hg
      have hm2 : Cons (m ++ [f]) := by
        intro x hx y hy e
        rw [List.mem_append, List.mem_singleton] at hx hy
        rcases hx with hx | hx <;> rcases hy with hy | hy
        · exact hm x hx y hy e
        · subst hy; exact absurd e (hn x hx)
        · subst hx; exact absurd e.symm (hn y hy)
        · rw [hx, hy]
      obtain ⟨h1, h2⟩ := ih (m ++ [f]) hm2
      refine ⟨fun m' h => ?_, fun h => ?_⟩
      · obtain ⟨a, b, c⟩ := h1 m' h
        refine ⟨a, fun x => ?_, fun hp => c ?_⟩
        · rw [b x, List.mem_append, List.mem_singleton, List.mem_cons, or_assoc]
        · rw [List.pairwise_append]
          refine ⟨hp, List.pairwise_singleton _ _, fun x hx y hy => ?_⟩
          rw [List.mem_singleton] at hy
          rw [hy]
          exact hn x hx
      · have := h2 h
        rwa [List.append_assoc] at this
    | some s =>
      have hs := fget_some hg
      simp only
      by_cases h : s = f.2
      · rw [if_pos h]
        obtain ⟨h1, h2⟩ := ih m hm
        have hfm : f ∈ m := by
          have : (f.1, s) = f := by rw [h]
          rwa [this] at hs
        refine ⟨fun m' h => ?_, fun h3 hc => ?_⟩
        · obtain ⟨a, b, c⟩ := h1 m' h
          refine ⟨a, fun x => ?_, c⟩
          rw [b x, List.mem_cons]
          constructor
          · rintro (h | h)
            · exact .inl h
            · exact .inr (.inr h)
          · rintro (h | h | h)
            · exact .inl h
            · rw [h]; exact .inl hfm
            · exact .inr h
        · refine h2 h3 (fun x hx y hy e => ?_)
          have hin : ∀ z, z ∈ m ++ fs → z ∈ m ++ f :: fs := fun z hz => by
            rw [List.mem_append] at hz ⊢
            rcases hz with hz | hz
            · exact .inl hz
            · exact .inr (List.mem_cons_of_mem _ hz)
          exact hc x (hin x hx) y (hin y hy) e
      · rw [if_neg h]
        refine ⟨fun m' h => (by cases h), fun _ hc => h ?_⟩
        exact hc (f.1, s) (List.mem_append_left _ hs) f (List.mem_append_right _ (List.mem_cons_self ..)) rfl
/-- as the reference gathers them: ascending -/
def vadd : List Vd → Vd → List Vd × Bool
  | [], f => ([f], true)
  | g :: l, f => if blt g.1 f.1 = true then (g :: (vadd l f).1, (vadd l f).2) else if g.1 = f.1 then (g :: l, decide (g.2 = f.2)) else (f :: g :: l, true)
def vFold : List Vd → List Vd → List Vd × Bool
  | l, [] => (l, true)
  | l, f :: fs => if (vadd l f).2 = true then vFold (vadd l f).1 fs else (l, false)
def Asc (l : List Vd) : Prop := l.Pairwise fun p q => blt p.1 q.1 = true
theorem asc_get_none {l : List Vd} {f g : Vd} (h : Asc (g :: l)) (h1 : blt f.1 g.1 = true) : fget (g :: l) f.1 = none := by
  have h2 : ∀ p ∈ g :: l, p.1 ≠ f.1 := by
    intro p hp e
    rcases List.mem_cons.1 hp with h3 | h3
    · rw [h3] at e; rw [e, blt_irrefl] at h1; cases h1
    · have h4 := (List.pairwise_cons.1 h).1 p h3
      have := blt_trans h1 h4
      rw [e, blt_irrefl] at this
      cases this
  cases hc : fget (g :: l) f.1 with
  | none => rfl
  | some s => exact absurd rfl (h2 (f.1, s) (fget_some hc))
theorem vadd_spec (f : Vd) : ∀ (l : List Vd), Asc l →
    (vadd l f).2 = (match fget l f.1 with | none => true | some s => decide (s = f.2)) ∧
    ((vadd l f).2 = true → Asc (vadd l f).1 ∧ (∀ g, g ∈ (vadd l f).1 ↔ g ∈ l ∨ g = f) ∧ ∀ n, fget (vadd l f).1 n = (fget l n).or (if f.1 = n then some f.2 else none)) ∧ ((vadd l f).2 = false → (vadd l f).1 = l)
  | [], _ => by
    refine ⟨rfl, fun _ => ⟨List.pairwise_singleton _ _, fun g => by simp [vadd], fun n => ?_⟩, fun h => by cases h⟩
    show fget [f] n = _
    rw [fget_cons]
    unfold fget
    simp
  | g :: l, h => by
    obtain ⟨h1, h2⟩ := List.pairwise_cons.1 h
    obtain ⟨e1, e2, e3⟩ := vadd_spec f l h2
    unfold vadd
    by_cases hlt : blt g.1 f.1 = true
    · have hne : g.1 ≠ f.1 := fun e => by rw [e, blt_irrefl] at hlt; cases hlt
      rw [if_pos hlt, fget_cons, if_neg hne]
      refine ⟨e1, fun hq => ?_, fun hq => by show g :: (vadd l f).1 = _; rw [e3 hq]⟩
      obtain ⟨a, b, c⟩ := e2 hq
      refine ⟨List.pairwise_cons.2 ⟨fun p hp => ?_, a⟩, fun p => ?_, fun n => ?_⟩
      · rcases (b p).1 hp with hp | hp
        · exact h1 p hp
        · rw [hp]; exact hlt
      · show p ∈ g :: (vadd l f).1 ↔ _
        rw [List.mem_cons, b p, List.mem_cons, or_assoc]
      · show fget (g :: (vadd l f).1) n = _
        rw [fget_cons, fget_cons, c n]
        by_cases hn : g.1 = n
        · rw [if_pos hn, if_pos hn]; rfl
        · rw [if_neg hn, if_neg hn]
    · rw [if_neg hlt]
      by_cases heq : g.1 = f.1
      · rw [if_pos heq, fget_cons, if_pos heq]
        refine ⟨rfl, fun hq => ?_, fun _ => rfl⟩
        have hgf : g = f := by
          have := of_decide_eq_true hq
          exact Prod.ext heq this
        refine ⟨h, fun p => ?_, fun n => ?_⟩
        · constructor
          · exact fun h => .inl h
          · rintro (h | h)
            · exact h
            · rw [h, ← hgf]; exact List.mem_cons_self ..
        · show fget (g :: l) n = _
          rw [fget_cons]
          by_cases hn : g.1 = n
          · rw [if_pos hn]; rfl
          · rw [if_neg hn, if_neg (fun e => hn (by rw [heq, e]))]
            simp
      · rw [if_neg heq]
        have hfg : blt f.1 g.1 = true := by
          rcases blt_tri g.1 f.1 heq with h3 | h3
          · exact absurd h3 hlt
          · exact h3
        rw [asc_get_none h hfg]
        refine ⟨rfl, fun _ => ⟨List.pairwise_cons.2 ⟨fun p hp => ?_, h⟩, fun p => ?_, fun n => ?_⟩, fun h => by cases h⟩
        · rcases List.mem_cons.1 hp with hp | hp
          · rw [hp]; exact hfg
          · exact blt_trans hfg (h1 p hp)
        · show p ∈ f :: g :: l ↔ _
          rw [List.mem_cons]
          exact or_comm
        · show fget (f :: g :: l) n = _
          rw [fget_cons]
          by_cases hn : f.1 = n
          · rw [if_pos hn]
            have := asc_get_none h hfg
            rw [hn] at this
            rw [this, if_pos hn]; rfl
          · rw [if_neg hn, if_neg hn]
            cases fget (g :: l) n <;> rfl
/-- both agree -/
theorem vFold_spec (fs : List Vd) : ∀ (l m : List Vd), Asc l → (∀ n, fget l n = fget m n) → (∀ f, f ∈ l ↔ f ∈ m) →
    ((vFold l fs).2 = (sFold m fs).isSome) ∧ ∀ m', sFold m fs = some m' → Asc (vFold l fs).1 ∧ (∀ n, fget (vFold l fs).1 n = fget m' n) ∧ ∀ f, f ∈ (vFold l fs).1 ↔ f ∈ m' := by
  induction fs with
  | nil =>
    intro l m hl hg hmem
    refine ⟨rfl, fun m' h => ?_⟩
    injection h with h
    subst h
    exact ⟨hl, hg, hmem⟩
  | cons f fs ih =>
    intro l m hl hg hmem
    obtain ⟨e1, e2, e3⟩ := vadd_spec f l hl
    unfold vFold sFold
    rw [hg] at e1
    cases hc : fget m f.1 with
    | none =>
      rw [hc] at e1
      rw [if_pos e1]
      obtain ⟨a, b, c⟩ := e2 e1
      refine ih _ _ a (fun n => ?_) (fun x => ?_)
      · rw [c n, fget_snoc, hg]
      · rw [b x, hmem, List.mem_append, List.mem_singleton]
    | some s =>
      rw [hc] at e1
      simp only at e1 ⊢
      by_cases hs : s = f.2
      · rw [decide_eq_true hs] at e1
        rw [if_pos e1, if_pos hs]
        obtain ⟨a, b, c⟩ := e2 e1
        have hfm : f ∈ m := by
          have h4 := fget_some hc
          rw [hs] at h4
          exact h4
        refine ih _ _ a (fun n => ?_) (fun x => ?_)
        · rw [c n, hg]
          by_cases hn : f.1 = n
          · rw [← hn, hc, hs]; rfl
          · rw [if_neg hn]; simp
        · rw [b x, hmem]
          constructor
          · rintro (h | h)
            · exact h
            · rw [h]; exact hfm
          · exact fun h => .inl h
      · rw [decide_eq_false hs] at e1
        rw [if_neg (by rw [e1]; decide), if_neg hs]
        exact ⟨rfl, fun m' h => by cases h⟩
/-- the table of a term's variables -/
def sortsT (t : Tm) : Option (List Vd) := sFold [] (vl (sbts t))
theorem sortsT_iff (t : Tm) : (sortsT t).isSome = true ↔ Cons (vl (sbts t)) := by
  have hnil : Cons [] := fun f hf => by cases hf
  obtain ⟨h1, h2⟩ := sFold_spec (vl (sbts t)) [] hnil
  unfold sortsT
  cases hc : sFold [] (vl (sbts t)) with
  | none => exact ⟨fun h => (by cases h), fun h => absurd h (h2 hc)⟩
  | some m =>
    obtain ⟨a, b, _⟩ := h1 m hc
    refine ⟨fun _ x hx y hy e => a x ((b x).2 (.inr hx)) y ((b y).2 (.inr hy)) e, fun _ => rfl⟩
/-- the variables, ascending -/
def varsT (t : Tm) : List Vd := (vFold [] (vl (sbts t))).1
theorem varsT_ok (t : Tm) : (vFold [] (vl (sbts t))).2 = (sortsT t).isSome := (vFold_spec (vl (sbts t)) [] [] List.Pairwise.nil (fun _ => rfl) (fun _ => Iff.rfl)).1
/-- well-formed -/
def wf (nm : By → Bool) (t : Tm) : Bool := formed nm t && (sortsT t).isSome
end Go.Hw

/- Precedences, operations of terms, and the search for a precedence: pure. -/
namespace Go.Hw
open Tm
set_option linter.unusedVariables false
set_option linter.unusedSimpArgs false
instance byMem (s : By) (l : List By) : Decidable (s ∈ l) := decidable_of_iff (l.any (fun x => decide (x = s)) = true) (by
  rw [List.any_eq_true]
  exact ⟨fun ⟨x, hx, h⟩ => of_decide_eq_true h ▸ hx, fun h => ⟨s, h, decide_eq_true rfl⟩⟩)
/-- the index of a name; the length where it is not there -/
def ixF (l : List By) (s : By) : Nat := l.findIdx fun x => decide (x = s)
theorem ixF_le (l : List By) (s : By) : ixF l s ≤ l.length := List.findIdx_le_length
theorem ixF_lt {l : List By} {s : By} (h : s ∈ l) : ixF l s < l.length := List.findIdx_lt_length_of_exists ⟨s, h, by simp⟩
theorem ixF_mem {l : List By} {s : By} (h : ixF l s < l.length) : s ∈ l := by
  have := List.findIdx_getElem (w := h)
  rw [decide_eq_true_eq] at this
  rw [← this]
  exact List.getElem_mem h
theorem ixF_at {l : List By} {s : By} (h : s ∈ l) : l.getD (ixF l s) nul = s := by
  have h1 := ixF_lt h
  have := List.findIdx_getElem (w := h1)
  rw [decide_eq_true_eq] at this
  rw [List.getD_eq_getElem?_getD, List.getElem?_eq_getElem h1]
  exact this
theorem ixF_not {l : List By} {s : By} {j : Nat} (h : j < ixF l s) : l.getD j nul ≠ s := by
  have h1 : j < l.length := Nat.lt_of_lt_of_le h (ixF_le l s)
  have := List.not_of_lt_findIdx h
  simp only [decide_eq_false_iff_not] at this
  rw [List.getD_eq_getElem?_getD, List.getElem?_eq_getElem h1]
  simpa using this
theorem ixF_of {l : List By} {s : By} {k : Nat} (hk : k < l.length) (h1 : ∀ j, j < k → l.getD j nul ≠ s) (h2 : l.getD k nul = s) : ixF l s = k := by
  have hm : s ∈ l := by
    rw [← h2, List.getD_eq_getElem?_getD, List.getElem?_eq_getElem hk]
    exact List.getElem_mem hk
  rcases Nat.lt_trichotomy (ixF l s) k with h | h | h
  · exact absurd (ixF_at hm) (h1 _ h)
  · exact h
  · exact absurd h2 (ixF_not h)
theorem ixF_none {l : List By} {s : By} (h : ∀ j, j < l.length → l.getD j nul ≠ s) : ixF l s = l.length := by
  rcases Nat.lt_or_eq_of_le (ixF_le l s) with h1 | h1
  · exact absurd (ixF_at (ixF_mem h1)) (h _ h1)
  · exact h1
theorem ixF_inj {l : List By} {a b : By} (ha : a ∈ l) (hb : b ∈ l) (h : ixF l a = ixF l b) : a = b := by rw [← ixF_at ha, h, ixF_at hb]
theorem mem_ix {l : List By} {s : By} : s ∈ l ↔ ixF l s < l.length := ⟨ixF_lt, ixF_mem⟩
/-- all different -/
def Dif (l : List By) : Prop := l.Pairwise (· ≠ ·)
theorem Dif.ix {l : List By} (h : Dif l) {k : Nat} (hk : k < l.length) : ixF l (l.getD k nul) = k := by
  refine ixF_of hk (fun j hj => ?_) rfl
  rw [List.getD_eq_getElem?_getD, List.getD_eq_getElem?_getD, List.getElem?_eq_getElem hk, List.getElem?_eq_getElem (Nat.lt_trans hj hk)]
  exact List.pairwise_iff_getElem.1 h j k (Nat.lt_trans hj hk) hk hj
/-- a precedence -/
def precP (nm : By → Bool) (ops : List By) : Bool := decide (ops.length ≤ 100) && (List.range ops.length).all fun i => nm (ops.getD i nul) && !decide (ops.getD i nul ∈ ops.take i)
theorem precP_iff (nm : By → Bool) (ops : List By) : precP nm ops = true ↔ ops.length ≤ 100 ∧ (∀ s ∈ ops, nm s = true) ∧ Dif ops := by
  unfold precP
  rw [Bool.and_eq_true, decide_eq_true_eq, List.all_eq_true]
  refine and_congr_right fun _ => ?_
  have hget : ∀ i, (h : i < ops.length) → ops.getD i nul = ops[i] := fun i h => by rw [List.getD_eq_getElem?_getD, List.getElem?_eq_getElem h]; rfl
  constructor
  · intro h
    have h' : ∀ i, (hi : i < ops.length) → nm ops[i] = true ∧ ops[i] ∉ ops.take i := fun i hi => by
      have := h i (List.mem_range.2 hi)
      rw [Bool.and_eq_true, Bool.not_eq_true', decide_eq_false_iff_not, hget i hi] at this
      exact this
    refine ⟨fun s hs => ?_, List.pairwise_iff_getElem.2 fun i j hi hj hij e => ?_⟩
    · obtain ⟨i, hi, rfl⟩ := List.mem_iff_getElem.1 hs
      exact (h' i hi).1
    · refine (h' j hj).2 ?_
      rw [← e, List.mem_take_iff_getElem]
      exact ⟨i, by omega, rfl⟩
  · rintro ⟨h1, h2⟩ i hi
    have hi := List.mem_range.1 hi
    rw [Bool.and_eq_true, Bool.not_eq_true', decide_eq_false_iff_not, hget i hi]
    refine ⟨h1 _ (List.getElem_mem hi), fun hm => ?_⟩
    obtain ⟨j, hj, e⟩ := List.mem_take_iff_getElem.1 hm
    exact List.pairwise_iff_getElem.1 h2 j i (by omega) hi (by omega) e
theorem precP_stop {nm : By → Bool} {ops : List By} {k : Nat} (hk : k < ops.length) (h : nm (ops.getD k nul) = false ∨ ops.getD k nul ∈ ops.take k) : precP nm ops = false := by
  rw [Bool.eq_false_iff]
  intro h2
  obtain ⟨_, h3, h4⟩ := (precP_iff nm ops).1 h2
  rw [List.getD_eq_getElem?_getD, List.getElem?_eq_getElem hk] at h
  rcases h with h | h
  · rw [Option.getD_some, h3 _ (List.getElem_mem hk)] at h; cases h
  · obtain ⟨j, hj, e⟩ := List.mem_take_iff_getElem.1 h
    exact List.pairwise_iff_getElem.1 h4 j k (by omega) hk (by omega) e
/-! ### operations -/
def opN (t : Tm) : List By := (sbts t).filterMap fun x => if x.sort = nul then some x.name else none
theorem opN_mk (n s : By) (L : List Tm) : opN (.mk n s L) = (if s = nul then [n] else []) ++ L.flatMap opN := by
  unfold opN
  rw [sbts_eq, List.filterMap_cons]
  have h : ∀ M : List Tm, (M.flatMap sbts).filterMap (fun x => if x.sort = nul then some x.name else none) = M.flatMap (fun t => (sbts t).filterMap fun x => if x.sort = nul then some x.name else none) := by
    intro M
    induction M with
    | nil => rfl
    | cons a M ih => rw [List.flatMap_cons, List.filterMap_append, ih, List.flatMap_cons]
  have h2 : (Tm.mk n s L).kids.flatMap sbts = L.flatMap sbts := rfl
  rw [h2, h]
  by_cases hs : s = nul
  · have h3 : (Tm.mk n s L).sort = nul := hs
    rw [if_pos h3, if_pos hs]; rfl
  · have h3 : ¬ (Tm.mk n s L).sort = nul := hs
    rw [if_neg h3, if_neg hs]; rfl
theorem opN_len (t : Tm) : (opN t).length ≤ t.size := by
  have h1 : (opN t).length ≤ (sbts t).length := List.length_filterMap_le _ _
  have h2 : (sbts t).length = t.size := by rw [sbts, List.length_map, nodesD_len]
  omega
theorem mem_opN {t : Tm} {s : By} : s ∈ opN t ↔ ∃ x ∈ sbts t, x.sort = nul ∧ x.name = s := by
  unfold opN
  rw [List.mem_filterMap]
  constructor
  · rintro ⟨x, hx, h⟩
    split at h
    · injection h with h
      exact ⟨x, hx, by assumption, h⟩
    · cases h
  · rintro ⟨x, hx, h1, h2⟩
    exact ⟨x, hx, by rw [if_pos h1, h2]⟩
def knowsP (ops : List By) (t : Tm) : Bool := (opN t).all fun s => decide (s ∈ ops)
theorem knowsP_iff {ops : List By} {t : Tm} : knowsP ops t = true ↔ ∀ s ∈ opN t, s ∈ ops := by
  unfold knowsP
  rw [List.all_eq_true]
  exact ⟨fun h s hs => of_decide_eq_true (h s hs), fun h s hs => decide_eq_true (h s hs)⟩
/-- as the reference gathers them -/
def aIns (l : List By) (s : By) : List By := if s ∈ l then l else l ++ [s]
def aFold (l ss : List By) : List By := ss.foldl aIns l
theorem aFold_append (l a b : List By) : aFold l (a ++ b) = aFold (aFold l a) b := by unfold aFold; rw [List.foldl_append]
theorem mem_aIns {l : List By} {s x : By} : x ∈ aIns l s ↔ x ∈ l ∨ x = s := by
  unfold aIns
  by_cases h : s ∈ l
  · rw [if_pos h]
    exact ⟨.inl, fun h2 => h2.elim id (fun e => e ▸ h)⟩
  · rw [if_neg h, List.mem_append, List.mem_singleton]
theorem mem_aFold {x : By} : ∀ {ss l : List By}, x ∈ aFold l ss ↔ x ∈ l ∨ x ∈ ss
  | [], l => by simp [aFold]
  | s :: ss, l => by
    have ih := mem_aFold (x := x) (ss := ss) (l := aIns l s)
    unfold aFold at ih ⊢
    rw [List.foldl_cons, ih, mem_aIns, List.mem_cons, or_assoc]
theorem aIns_dif {l : List By} {s : By} (h : Dif l) : Dif (aIns l s) := by
  unfold aIns
  by_cases hs : s ∈ l
  · rw [if_pos hs]; exact h
  · rw [if_neg hs]
    exact List.pairwise_append.2 ⟨h, List.pairwise_singleton _ _, fun a ha b hb e => hs (by rw [List.mem_singleton] at hb; rw [← hb, ← e]; exact ha)⟩
theorem aFold_dif : ∀ {ss l : List By}, Dif l → Dif (aFold l ss)
  | [], l, h => h
  | s :: ss, l, h => aFold_dif (ss := ss) (aIns_dif h)
theorem aIns_len (l : List By) (s : By) : (aIns l s).length ≤ l.length + 1 := by
  unfold aIns
  split
  · omega
  · simp
theorem aFold_len : ∀ (ss l : List By), (aFold l ss).length ≤ l.length + ss.length
  | [], l => by simp [aFold]
  | s :: ss, l => by
    have ih := aFold_len ss (aIns l s)
    have h1 := aIns_len l s
    unfold aFold at ih ⊢
    rw [List.foldl_cons, List.length_cons]
    omega
/-- as the program gathers them: ascending -/
abbrev Ris (l : List By) : Prop := l.Pairwise fun a b => blt a b = true
def lowF (l : List By) (s : By) : Nat := l.findIdx fun x => !blt x s
def sIns (l : List By) (s : By) : List By := if s ∈ l then l else l.take (lowF l s) ++ s :: l.drop (lowF l s)
theorem mem_sIns {l : List By} {s x : By} : x ∈ sIns l s ↔ x ∈ l ∨ x = s := by
  unfold sIns
  by_cases h : s ∈ l
  · rw [if_pos h]
    exact ⟨.inl, fun h2 => h2.elim id (fun e => e ▸ h)⟩
  · rw [if_neg h, List.mem_append, List.mem_cons]
    have h1 : x ∈ l ↔ x ∈ l.take (lowF l s) ∨ x ∈ l.drop (lowF l s) := by rw [← List.mem_append, List.take_append_drop]
    rw [h1]
    constructor
    · rintro (h | h | h)
      · exact .inl (.inl h)
      · exact .inr h
      · exact .inl (.inr h)
    · rintro ((h | h) | h)
      · exact .inl h
      · exact .inr (.inr h)
      · exact .inr (.inl h)
theorem low_take {l : List By} {s x : By} (h : x ∈ l.take (lowF l s)) : blt x s = true := by
  obtain ⟨j, hj, rfl⟩ := List.mem_take_iff_getElem.1 h
  have := List.not_of_lt_findIdx (show j < lowF l s by omega)
  simpa using this
theorem low_drop {l : List By} {s x : By} (hl : Ris l) (hs : s ∉ l) (h : x ∈ l.drop (lowF l s)) : blt s x = true := by
  obtain ⟨j, hj, rfl⟩ := List.mem_drop_iff_getElem.1 h
  have h0 : lowF l s < l.length := by omega
  have h1 : (!blt l[lowF l s] s) = true := List.findIdx_getElem (p := fun x => !blt x s) (w := h0)
  have h2 : blt l[lowF l s] s = false := by simpa using h1
  have h3 : blt s l[lowF l s] = true := by
    rcases blt_tri s l[lowF l s] (fun e => hs (by rw [e]; exact List.getElem_mem h0)) with h | h
    · exact h
    · rw [h2] at h; cases h
  rcases Nat.eq_zero_or_pos j with rfl | hp
  · simpa using h3
  · have h5 := List.pairwise_iff_getElem.1 hl (lowF l s) (j + lowF l s) h0 (by omega) (by omega)
    have h6 : l[lowF l s + j]'(by omega) = l[j + lowF l s]'(by omega) := by congr 1; omega
    first
      | exact blt_trans h3 h5
      | (rw [h6]; exact blt_trans h3 h5)
theorem sIns_ris {l : List By} {s : By} (h : Ris l) : Ris (sIns l s) := by
  unfold sIns
  by_cases hs : s ∈ l
  · rw [if_pos hs]; exact h
  · rw [if_neg hs]
    refine List.pairwise_append.2 ⟨List.Pairwise.sublist (List.take_sublist _ _) h, List.pairwise_cons.2 ⟨fun x hx => low_drop h hs hx, List.Pairwise.sublist (List.drop_sublist _ _) h⟩, fun a ha b hb => ?_⟩
    have h1 := low_take ha
    rcases List.mem_cons.1 hb with rfl | hb
    · exact h1
    · exact blt_trans h1 (low_drop h hs hb)
def sFoldO (l ss : List By) : List By := ss.foldl sIns l
theorem sFoldO_append (l a b : List By) : sFoldO l (a ++ b) = sFoldO (sFoldO l a) b := by unfold sFoldO; rw [List.foldl_append]
theorem mem_sFoldO {x : By} : ∀ {ss l : List By}, x ∈ sFoldO l ss ↔ x ∈ l ∨ x ∈ ss
  | [], l => by simp [sFoldO]
  | s :: ss, l => by
    have ih := mem_sFoldO (x := x) (ss := ss) (l := sIns l s)
    unfold sFoldO at ih ⊢
    rw [List.foldl_cons, ih, mem_sIns, List.mem_cons, or_assoc]
theorem sFoldO_ris : ∀ {ss l : List By}, Ris l → Ris (sFoldO l ss)
  | [], l, h => h
  | s :: ss, l, h => sFoldO_ris (ss := ss) (sIns_ris h)
theorem sIns_len (l : List By) (s : By) : (sIns l s).length ≤ l.length + 1 := by
  unfold sIns
  split
  · omega
  · rw [List.length_append, List.length_cons, List.length_take, List.length_drop]; omega
theorem sFoldO_len : ∀ (ss l : List By), (sFoldO l ss).length ≤ l.length + ss.length
  | [], l => by simp [sFoldO]
  | s :: ss, l => by
    have ih := sFoldO_len ss (sIns l s)
    have h1 := sIns_len l s
    unfold sFoldO at ih ⊢
    rw [List.foldl_cons, List.length_cons]
    omega
theorem ris_ext : ∀ {l m : List By}, Ris l → Ris m → (∀ x, x ∈ l ↔ x ∈ m) → l = m
  | [], [], _, _, _ => rfl
  | [], b :: m, _, _, h => absurd ((h b).2 (List.mem_cons_self ..)) (by simp)
  | a :: l, [], _, _, h => absurd ((h a).1 (List.mem_cons_self ..)) (by simp)
  | a :: l, b :: m, h1, h2, h => by
    obtain ⟨a1, a2⟩ := List.pairwise_cons.1 h1
    obtain ⟨b1, b2⟩ := List.pairwise_cons.1 h2
    have e : a = b := by
      rcases List.mem_cons.1 ((h a).1 (List.mem_cons_self ..)) with e | e
      · exact e
      · rcases List.mem_cons.1 ((h b).2 (List.mem_cons_self ..)) with e2 | e2
        · exact e2.symm
        · have h3 := blt_trans (a1 b e2) (b1 a e)
          rw [blt_irrefl] at h3; cases h3
    subst e
    rw [ris_ext a2 b2 (fun x => ?_)]
    have hx := h x
    rw [List.mem_cons, List.mem_cons] at hx
    constructor
    · intro hl
      rcases hx.1 (.inr hl) with e | e
      · have := a1 x hl
        rw [e, blt_irrefl] at this; cases this
      · exact e
    · intro hl
      rcases hx.2 (.inr hl) with e | e
      · have := b1 x hl
        rw [e, blt_irrefl] at this; cases this
      · exact e
theorem Ris.dif {l : List By} (h : Ris l) : Dif l := List.Pairwise.imp (fun {a b} hab e => by rw [e, blt_irrefl] at hab; cases hab) h
/-! ### rules -/
abbrev Rl := Tm × Tm
def decP (ops : List By) (r : Rl) : Bool := gt (ixF ops) r.1 r.2
/-- the first rule that does not decrease -/
def firstP (ops : List By) (l : List Rl) : Nat := l.findIdx fun r => !decP ops r
def allDec (ops : List By) (l : List Rl) : Bool := l.all (decP ops)
theorem firstP_all (ops : List By) (l : List Rl) : decide (firstP ops l < l.length) = !allDec ops l := by
  rw [Bool.eq_iff_iff, decide_eq_true_eq, Bool.not_eq_true', Bool.eq_false_iff, ne_eq]
  unfold firstP allDec
  rw [List.findIdx_lt_length, List.all_eq_true]
  constructor
  · rintro ⟨x, hx, h⟩ h2
    rw [h2 x hx] at h; cases h
  · intro h
    refine Classical.byContradiction fun h2 => h fun x hx => ?_
    cases h3 : decP ops x
    · exact absurd ⟨x, hx, by rw [h3]; rfl⟩ h2
    · rfl
/-- the first order of the rest of some names after a beginning -/
def searchP (l : List Rl) : Nat → List By → List By → Option (List By)
  | 0, b, _ => if allDec b l = true then some b else none
  | n + 1, b, rest => (List.range (n + 1)).findSome? fun i => searchP l n (b ++ [rest.getD i nul]) (rest.eraseIdx i)
theorem erase_perm {α : Type} : ∀ (l : List α) (i : Nat) (h : i < l.length), (([l[i]] ++ l.eraseIdx i)).Perm l
  | a :: l, 0, _ => List.Perm.refl _
  | a :: l, i + 1, h => by
    have ih := erase_perm l i (by simpa using h)
    simp only [List.getElem_cons_succ, List.eraseIdx_cons_succ, List.singleton_append] at ih ⊢
    exact (List.Perm.swap _ _ _).trans (ih.cons a)
theorem searchP_some {l : List Rl} : ∀ {n : Nat} {b rest out : List By}, rest.length = n → searchP l n b rest = some out → allDec out l = true ∧ out.Perm (b ++ rest)
  | 0, b, rest, out, hn, h => by
    unfold searchP at h
    have : rest = [] := List.eq_nil_of_length_eq_zero hn
    subst this
    split at h
    · rename_i h2
      injection h with h
      subst h
      exact ⟨h2, by rw [List.append_nil]⟩
    · cases h
  | n + 1, b, rest, out, hn, h => by
    unfold searchP at h
    obtain ⟨i, hi, h⟩ := List.exists_of_findSome?_eq_some h
    have hi := List.mem_range.1 hi
    have hir : i < rest.length := by omega
    obtain ⟨h1, h2⟩ := searchP_some (by rw [List.length_eraseIdx_of_lt hir, hn]; rfl) h
    refine ⟨h1, h2.trans ?_⟩
    rw [List.append_assoc]
    refine List.Perm.append_left b ?_
    have : rest.getD i nul = rest[i] := by rw [List.getD_eq_getElem?_getD, List.getElem?_eq_getElem hir]; rfl
    rw [this]
    exact erase_perm rest i hir
end Go.Hw

/- The order in memory: numbered nodes, and the maps of names, keys and answers. -/
namespace Go.Hw
open Go.RowKit Tm
set_option linter.unusedVariables false
set_option linter.unusedSimpArgs false
abbrev strV (s : By) : Value := .string s
abbrev keyN (x : Nt) : By := keyK x.1.name x.1.sort x.2
/-- the cells of nodes: the name, is it a variable, the numbers of the parts -/
def nCells : List Nt → List Value → List Value
  | [], _ => []
  | x :: N, us => .string x.1.name :: .bool (!decide (x.1.sort = nul)) :: us.headD nilS :: nCells N us.tail
theorem nCells_len : ∀ (N : List Nt) (us : List Value), (nCells N us).length = N.length * 3
  | [], _ => rfl
  | x :: N, us => by simp [nCells, nCells_len N us.tail]; omega
theorem nCells_at : ∀ (N : List Nt) (us : List Value) (i : Nat), i < N.length →
    (nCells N us)[i * 3]? = some (.string (ng N i).1.name) ∧ (nCells N us)[i * 3 + 1]? = some (.bool (!decide ((ng N i).1.sort = nul))) ∧ (nCells N us)[i * 3 + 2]? = some (ug us i)
  | x :: N, us, 0, _ => by
    refine ⟨rfl, rfl, ?_⟩
    cases us <;> rfl
  | x :: N, us, i + 1, h => by
    obtain ⟨h0, h1, h2⟩ := nCells_at N us.tail i (by simpa using h)
    have e : ∀ k, (nCells (x :: N) us)[(i + 1) * 3 + k]? = (nCells N us.tail)[i * 3 + k]? := fun k => by
      rw [show (i + 1) * 3 + k = i * 3 + k + 1 + 1 + 1 by omega]
      rfl
    refine ⟨by rw [← Nat.add_zero ((i + 1) * 3), e]; exact h0, by rw [e]; exact h1, ?_⟩
    rw [e, h2]
    cases us <;> rfl
theorem nCells_snoc : ∀ (N : List Nt) (us : List Value) (x : Nt) (u : Value), us.length = N.length → nCells (N ++ [x]) (us ++ [u]) = nCells N us ++ [.string x.1.name, .bool (!decide (x.1.sort = nul)), u]
  | [], [], x, u, _ => rfl
  | a :: N, b :: us, x, u, h => by
    have := nCells_snoc N us x u (by simpa using h)
    simp only [List.cons_append, nCells, List.headD_cons, List.tail_cons, this]
/-- the order: B the blocks that turn, R blocks of others; tn, to: the types of nodes and of the order -/
structure OrdX (tn to : TypeId) (ops : List By) (R B : Nat → Prop) (base : Nat) (w : World) (b : Nat) (N : List Nt) (nv : Value) (br bk bd : Nat) (us : List Value) (G : Nat → Prop) (rl kl : List (By × Value)) (dl : List ((Nat × Nat) × Value)) : Prop where
  box : w.heap[b]? = some (.cells #[.map (some br), nv, .map (some bk), .map (some bd)] to (0, 0))
  rank : MpR strV w br rl
  ranks : ∀ s ∈ ops, afind rl s = some (natV (ixF ops s))
  len : us.length = N.length
  own : w.ownsRow base tn 3 nv N.length (nCells N us)
  kid : ∀ i, i < N.length → SlR G w 1 (ug us i) (ng N i).2.length ((ng N i).2.map natV)
  gs : ∀ k, G k → base ≤ k ∧ k < w.heap.size ∧ ¬ B k ∧ ¬ R k
  known : MpR strV w bk kl
  key : ∀ k v, afind kl k = some v ↔ ∃ i, i < N.length ∧ k = keyN (ng N i) ∧ v = natV i
  done : MpR pairV w bd dl
  ans : ∀ p v, afind dl p = some v → p.1 < N.length ∧ p.2 < N.length ∧ v = .bool (gt (ixF ops) (ng N p.1).1 (ng N p.2).1)
  num : Num N
  uniq : Uniq N
  ncs : ∀ i, i < N.length → NoCS (ng N i).1.name ∧ NoCS (ng N i).1.sort
  nin : ∀ i, i < N.length → (ng N i).1.sort = nul → (ng N i).1.name ∈ ops
  kb : ∀ i, i < N.length → (ng N i).2.length ≤ 1000000
  bb : B b ∧ B br ∧ B bk ∧ B bd
  bn : ∀ k, nv.ownBlock = some k → B k
  dis : b ≠ br ∧ b ≠ bk ∧ b ≠ bd ∧ br ≠ bk ∧ br ≠ bd ∧ bk ≠ bd
  dn : nv.ownBlock ≠ some b ∧ nv.ownBlock ≠ some br ∧ nv.ownBlock ≠ some bk ∧ nv.ownBlock ≠ some bd
  lt : ∀ k, B k → base ≤ k ∧ k < w.heap.size ∧ ¬ R k
def OrdR (tn to : TypeId) (ops : List By) (R B : Nat → Prop) (base : Nat) (w : World) (b : Nat) (N : List Nt) : Prop := ∃ nv br bk bd us G rl kl dl, OrdX tn to ops R B base w b N nv br bk bd us G rl kl dl
section
variable {tn to : TypeId} {ops : List By} {R R' B F : Nat → Prop} {base b : Nat} {w w' : World} {N : List Nt} {nv nv' : Value} {br bk bd : Nat} {us : List Value} {G : Nat → Prop} {rl kl : List (By × Value)} {dl : List ((Nat × Nat) × Value)}
theorem OrdX.upd (h : OrdX tn to ops R B base w b N nv br bk bd us G rl kl dl) (hu : Upd F w w') (hF : ∀ k, F k → R k) : OrdX tn to ops R B base w' b N nv br bk bd us G rl kl dl := by
  have hB : ∀ k, B k → ¬ F k := fun k hk hf => (h.lt k hk).2.2 (hF k hf)
  exact ⟨hu.heap h.box (hB _ h.bb.1), h.rank.kept hu (hB _ h.bb.2.1), h.ranks, h.len, own_kept h.own hu (fun k hk => hB _ (h.bn k hk)), fun i hi => (h.kid i hi).kept hu (fun k hk hf => (h.gs k hk).2.2.2 (hF k hf)),
    fun k hk => ⟨(h.gs k hk).1, Nat.lt_of_lt_of_le (h.gs k hk).2.1 hu.size, (h.gs k hk).2.2⟩, h.known.kept hu (hB _ h.bb.2.2.1), h.key, h.done.kept hu (hB _ h.bb.2.2.2), h.ans, h.num, h.uniq, h.ncs, h.nin, h.kb, h.bb, h.bn, h.dis, h.dn,
    fun k hk => ⟨(h.lt k hk).1, Nat.lt_of_lt_of_le (h.lt k hk).2.1 hu.size, (h.lt k hk).2.2⟩⟩
theorem OrdR.upd (h : OrdR tn to ops R B base w b N) (hu : Upd F w w') (hF : ∀ k, F k → R k) : OrdR tn to ops R B base w' b N := by
  obtain ⟨nv, br, bk, bd, us, G, rl, kl, dl, h⟩ := h
  exact ⟨nv, br, bk, bd, us, G, rl, kl, dl, h.upd hu hF⟩
theorem OrdX.ext (h : OrdX tn to ops R B base w b N nv br bk bd us G rl kl dl) (hu : Ext w w') : OrdX tn to ops R B base w' b N nv br bk bd us G rl kl dl := h.upd hu (fun _ hf => hf.elim)
theorem OrdR.ext (h : OrdR tn to ops R B base w b N) (hu : Ext w w') : OrdR tn to ops R B base w' b N := h.upd hu (fun _ hf => hf.elim)
/-- what is new is of others -/
theorem OrdX.reserve (h : OrdX tn to ops R B base w b N nv br bk bd us G rl kl dl) : OrdX tn to ops (fun k => R k ∨ w.heap.size ≤ k) B base w b N nv br bk bd us G rl kl dl :=
  ⟨h.box, h.rank, h.ranks, h.len, h.own, h.kid, fun k hk => ⟨(h.gs k hk).1, (h.gs k hk).2.1, (h.gs k hk).2.2.1, fun hr => hr.elim (h.gs k hk).2.2.2 (fun hr => by have := (h.gs k hk).2.1; omega)⟩, h.known, h.key, h.done, h.ans, h.num, h.uniq, h.ncs, h.nin, h.kb, h.bb, h.bn, h.dis, h.dn,
    fun k hk => ⟨(h.lt k hk).1, (h.lt k hk).2.1, fun hr => hr.elim (h.lt k hk).2.2 (fun hr => by have := (h.lt k hk).2.1; omega)⟩⟩
theorem OrdX.weaken (h : OrdX tn to ops R B base w b N nv br bk bd us G rl kl dl) (hr : ∀ k, R' k → R k) : OrdX tn to ops R' B base w b N nv br bk bd us G rl kl dl :=
  ⟨h.box, h.rank, h.ranks, h.len, h.own, h.kid, fun k hk => ⟨(h.gs k hk).1, (h.gs k hk).2.1, (h.gs k hk).2.2.1, fun hx => (h.gs k hk).2.2.2 (hr k hx)⟩, h.known, h.key, h.done, h.ans, h.num, h.uniq, h.ncs, h.nin, h.kb, h.bb, h.bn, h.dis, h.dn,
    fun k hk => ⟨(h.lt k hk).1, (h.lt k hk).2.1, fun hx => (h.lt k hk).2.2 (hr k hx)⟩⟩
theorem OrdR.reserve (h : OrdR tn to ops R B base w b N) : OrdR tn to ops (fun k => R k ∨ w.heap.size ≤ k) B base w b N := by
  obtain ⟨nv, br, bk, bd, us, G, rl, kl, dl, h⟩ := h
  exact ⟨nv, br, bk, bd, us, G, rl, kl, dl, h.reserve⟩
theorem OrdR.weaken (h : OrdR tn to ops R B base w b N) (hr : ∀ k, R' k → R k) : OrdR tn to ops R' B base w b N := by
  obtain ⟨nv, br, bk, bd, us, G, rl, kl, dl, h⟩ := h
  exact ⟨nv, br, bk, bd, us, G, rl, kl, dl, h.weaken hr⟩
/-- an answer is kept -/
theorem OrdX.put (h : OrdX tn to ops R B base w b N nv br bk bd us G rl kl dl) {i j : Nat} (hi : i < N.length) (hj : j < N.length) {v : Value} (hv : v = .bool (gt (ixF ops) (ng N i).1 (ng N j).1)) (hu : Upd (fun k => k = bd) w w') (hm : MpR pairV w' bd (aput dl (i, j) v)) :
    OrdX tn to ops R B base w' b N nv br bk bd us G rl kl (aput dl (i, j) v) := by
  refine ⟨hu.heap h.box h.dis.2.2.1, h.rank.kept hu h.dis.2.2.2.2.1, h.ranks, h.len, own_kept h.own hu (fun k hk e => h.dn.2.2.2 (by rw [hk, e])), fun i hi => (h.kid i hi).kept hu (fun k hk e => (h.gs k hk).2.2.1 (by rw [e]; exact h.bb.2.2.2)),
    fun k hk => ⟨(h.gs k hk).1, Nat.lt_of_lt_of_le (h.gs k hk).2.1 hu.size, (h.gs k hk).2.2⟩, h.known.kept hu h.dis.2.2.2.2.2, h.key, hm, fun p u hp => ?_, h.num, h.uniq, h.ncs, h.nin, h.kb, h.bb, h.bn, h.dis, h.dn,
    fun k hk => ⟨(h.lt k hk).1, Nat.lt_of_lt_of_le (h.lt k hk).2.1 hu.size, (h.lt k hk).2.2⟩⟩
  rw [afind_put] at hp
  split at hp
  · rename_i e
    injection hp with hp
    subst e
    exact ⟨hi, hj, by rw [← hp, hv]⟩
  · exact h.ans p u hp
/-- no term with this key is numbered -/
theorem OrdX.fresh (h : OrdX tn to ops R B base w b N nv br bk bd us G rl kl dl) {t : Tm} {ks : List Nat} (hl : ∀ k ∈ ks, k < N.length) (hm : ks.map (fun k => (ng N k).1) = t.kids) (hf : afind kl (keyN (t, ks)) = none) : ∀ i, i < N.length → (ng N i).1 ≠ t := by
  intro i hi e
  have h1 : (ng N i).2 = ks := by
    have h2 : (ng N i).2.map (fun k => (ng N k).1) = ks.map (fun k => (ng N k).1) := by rw [h.num.map i hi, e, hm]
    have hkl := h.num.kid i hi
    generalize (ng N i).2 = js at *
    refine List.ext_getElem (by have := congrArg List.length h2; simpa using this) (fun j h3 h4 => ?_)
    have h5 : (js.map (fun k => (ng N k).1))[j]'(by simpa using h3) = (ks.map (fun k => (ng N k).1))[j]'(by simpa using h4) := by simp only [h2]
    rw [List.getElem_map, List.getElem_map] at h5
    exact h.uniq _ _ (by have := hkl _ (List.getElem_mem h3); omega) (hl _ (List.getElem_mem h4)) h5
  have h2 := (h.key (keyN (t, ks)) (natV i)).2 ⟨i, hi, by unfold keyN; rw [e, h1], rfl⟩
  rw [hf] at h2
  cases h2
theorem OrdX.found (h : OrdX tn to ops R B base w b N nv br bk bd us G rl kl dl) {t : Tm} {ks : List Nat} (hm : ks.map (fun k => (ng N k).1) = t.kids) (hn : NoCS t.name ∧ NoCS t.sort) {v : Value} (hf : afind kl (keyN (t, ks)) = some v) : ∃ i, i < N.length ∧ v = natV i ∧ (ng N i).1 = t := by
  obtain ⟨i, hi, h1, h2⟩ := (h.key _ _).1 hf
  refine ⟨i, hi, h2, ?_⟩
  obtain ⟨e1, e2, e3⟩ := keyK_inj hn.1 hn.2 (h.ncs i hi).1 (h.ncs i hi).2 h1
  have h3 := h.num.map i hi
  simp only at e1 e2 e3
  rw [← e3, hm] at h3
  rw [← eta (ng N i).1, ← e1, ← e2, ← h3, eta]
/-- a new node -/
theorem OrdX.push (h : OrdX tn to ops R B base w b N nv br bk bd us G rl kl dl) {t : Tm} {ks : List Nat} {u : Value} {V R0 : Nat → Prop} (hl : ∀ k ∈ ks, k < N.length) (hm : ks.map (fun k => (ng N k).1) = t.kids) (hf : afind kl (keyN (t, ks)) = none)
    (hn : NoCS t.name ∧ NoCS t.sort) (hin : t.sort = nul → t.name ∈ ops) (hkb : ks.length ≤ 1000000)
    (hw : Upd (fun k => B k ∨ R k ∧ base ≤ k ∧ ¬ V k) w w') (hbox : w'.heap[b]? = some (.cells #[.map (some br), nv', .map (some bk), .map (some bd)] to (0, 0)))
    (hrank : MpR strV w' br rl) (hdone : MpR pairV w' bd dl) (hknown : MpR strV w' bk (aput kl (keyN (t, ks)) (natV N.length)))
    (hown : w'.ownsRow base tn 3 nv' (N.length + 1) (nCells N us ++ [.string t.name, .bool (!decide (t.sort = nul)), u])) (hbn : ∀ k, nv'.ownBlock = some k → nv.ownBlock = some k ∨ w.heap.size ≤ k ∧ k < w'.heap.size)
    (hb : base ≤ w.heap.size) (hv : SlR V w 1 u ks.length (ks.map natV)) (hV : ∀ k, V k → R k ∧ base ≤ k ∧ k < w.heap.size) (hR0 : ∀ k, R0 k → R k ∧ k < w.heap.size ∧ ¬ V k) :
    OrdX tn to ops R0 (fun k => B k ∨ w.heap.size ≤ k ∧ nv'.ownBlock = some k) base w' b (N ++ [(t, ks)]) nv' br bk bd (us ++ [u]) (fun k => G k ∨ V k) rl (aput kl (keyN (t, ks)) (natV N.length)) dl := by
  have hlen : (N ++ [(t, ks)]).length = N.length + 1 := by simp
  have hne : ∀ i, i < (N ++ [(t, ks)]).length → i < N.length ∨ i = N.length := fun i hi => by rw [hlen] at hi; omega
  have hul : ∀ {i : Nat}, i < us.length → ug (us ++ [u]) i = ug us i := fun {i} hi => by
    unfold ug
    rw [List.getD_eq_getElem?_getD, List.getD_eq_getElem?_getD, List.getElem?_append_left hi]
  have hue : ug (us ++ [u]) us.length = u := by
    unfold ug
    rw [List.getD_eq_getElem?_getD, List.getElem?_concat_length]
    rfl
  have hlt : ∀ k, B k → k < w.heap.size := fun k hk => (h.lt k hk).2.1
  have hbl := h.bb
  refine ⟨hbox, hrank, h.ranks, by simp [h.len], ?_, fun i hi => ?_, fun k hk => ?_, hknown, fun k v => ?_, hdone, fun p v hp => ?_, h.num.snoc t ks hl hm, h.uniq.snoc t ks (h.fresh hl hm hf), fun i hi => ?_, fun i hi hs => ?_, fun i hi => ?_, ⟨.inl hbl.1, .inl hbl.2.1, .inl hbl.2.2.1, .inl hbl.2.2.2⟩, fun k hk => ?_, h.dis, ?_, fun k hk => ?_⟩
  · rw [hlen, nCells_snoc N us (t, ks) u h.len]
    exact hown
  · rcases hne i hi with hi | rfl
    · rw [ng_left _ hi, hul (by rw [h.len]; exact hi)]
      exact ((h.kid i hi).kept hw (fun k hk hx => by
        rcases hx with hx | hx
        · exact (h.gs k hk).2.2.1 hx
        · exact (h.gs k hk).2.2.2 hx.1)).weaken (fun k hk => .inl hk)
    · rw [ng_last, ← h.len, hue]
      exact (hv.kept hw (fun k hk hx => by
        rcases hx with hx | hx
        · exact (h.lt k hx).2.2 (hV k hk).1
        · exact hx.2.2 hk)).weaken (fun k hk => .inr hk)
  · have hlt2 : base ≤ k ∧ k < w.heap.size ∧ ¬ B k ∧ (R k → V k) := by
      rcases hk with hk | hk
      · exact ⟨(h.gs k hk).1, (h.gs k hk).2.1, (h.gs k hk).2.2.1, fun hr => absurd hr (h.gs k hk).2.2.2⟩
      · exact ⟨(hV k hk).2.1, (hV k hk).2.2, fun hx => (h.lt k hx).2.2 (hV k hk).1, fun _ => hk⟩
    refine ⟨hlt2.1, Nat.lt_of_lt_of_le hlt2.2.1 hw.size, fun hx => ?_, fun hx => (hR0 k hx).2.2 (hlt2.2.2.2 (hR0 k hx).1)⟩
    rcases hx with hx | hx
    · exact hlt2.2.2.1 hx
    · omega
  · rw [afind_put]
    split
    · rename_i e
      subst e
      constructor
      · intro e
        injection e with e
        exact ⟨N.length, by rw [hlen]; omega, by rw [ng_last], e.symm⟩
      · rintro ⟨i, hi, e1, e2⟩
        rcases hne i hi with hi | rfl
        · rw [ng_left _ hi] at e1
          have h9 := (h.key _ (natV i)).2 ⟨i, hi, e1, rfl⟩
          rw [hf] at h9
          cases h9
        · rw [e2]
    · rename_i e
      rw [h.key]
      constructor
      · rintro ⟨i, hi, e1, e2⟩
        exact ⟨i, by rw [hlen]; omega, by rw [ng_left _ hi]; exact e1, e2⟩
      · rintro ⟨i, hi, e1, e2⟩
        rcases hne i hi with hi | rfl
        · exact ⟨i, hi, by rw [ng_left _ hi] at e1; exact e1, e2⟩
        · rw [ng_last] at e1
          exact absurd e1 e
  · obtain ⟨h1, h2, h3⟩ := h.ans p v hp
    exact ⟨by rw [hlen]; omega, by rw [hlen]; omega, by rw [ng_left _ h1, ng_left _ h2]; exact h3⟩
  · rcases hne i hi with hi | rfl
    · rw [ng_left _ hi]; exact h.ncs i hi
    · rw [ng_last]; exact hn
  · rcases hne i hi with hi | rfl
    · rw [ng_left _ hi] at hs ⊢; exact h.nin i hi hs
    · rw [ng_last] at hs ⊢; exact hin hs
  · rcases hne i hi with hi | rfl
    · rw [ng_left _ hi]; exact h.kb i hi
    · rw [ng_last]; exact hkb
  · rcases hbn k hk with h8 | h8
    · exact .inl (h.bn k h8)
    · exact .inr ⟨h8.1, hk⟩
  · have hx : ∀ c, B c → nv.ownBlock ≠ some c → nv'.ownBlock ≠ some c := fun c hc h1 e => by
      rcases hbn c e with h8 | h8
      · exact h1 h8
      · have := hlt c hc; omega
    exact ⟨hx _ hbl.1 h.dn.1, hx _ hbl.2.1 h.dn.2.1, hx _ hbl.2.2.1 h.dn.2.2.1, hx _ hbl.2.2.2 h.dn.2.2.2⟩
  · rcases hk with hk | ⟨hk, hk2⟩
    · exact ⟨(h.lt k hk).1, Nat.lt_of_lt_of_le (h.lt k hk).2.1 hw.size, fun hx => (h.lt k hk).2.2 (hR0 k hx).1⟩
    · refine ⟨by omega, ?_, fun hx => by have := (hR0 k hx).2.1; omega⟩
      rcases hbn k hk2 with h8 | h8
      · have := hlt k (h.bn k h8); omega
      · exact h8.2
/-- the node i, in its cells -/
theorem OrdX.at_ (h : OrdX tn to ops R B base w b N nv br bk bd us G rl kl dl) (hN : 0 < N.length) : ∃ g cap, nv = .slice (some ⟨g, 0, none⟩) N.length cap ∧ g ≠ bd ∧ B g ∧ ∀ i, i < N.length → ∃ a c,
    w.cell? ⟨g, 0 + i * 3, none⟩ = some (.string (ng N i).1.name) ∧ w.cell? ⟨g, 0 + (i * 3 + 1), none⟩ = some (.bool (!decide ((ng N i).1.sort = nul))) ∧ w.cell? ⟨g, 0 + (i * 3 + 2), none⟩ = some (.slice a (ng N i).2.length c) ∧ SlR G w 1 (.slice a (ng N i).2.length c) (ng N i).2.length ((ng N i).2.map natV) := by
  obtain ⟨g, cap, rfl⟩ := own_some h.own hN
  have hs := SlR.of_own h.own
  obtain ⟨g', off, c, e, _, hS, hj⟩ := hs.pos hN
  injection e with e1 e2 e3
  injection e1 with e1
  injection e1 with e1 e4
  subst e1; subst e4
  refine ⟨g, cap, rfl, fun e => h.dn.2.2.2 (by rw [← e]; rfl), h.bn g rfl, fun i hi => ?_⟩
  obtain ⟨h0, h1, h2⟩ := nCells_at N us i hi
  have hk := h.kid i hi
  obtain ⟨a, c', e'⟩ := hk.shape
  rw [e'] at hk h2
  exact ⟨a, c', by rw [hj _ (by omega), h0], by rw [hj _ (by omega), h1], by rw [hj _ (by omega), h2], hk⟩
end
end Go.Hw

/- The order by numbers: what its parts ask. -/
namespace Go.Hw
open Go.RowKit Tm
set_option linter.unusedVariables false
set_option linter.unusedSimpArgs false
theorem cov_any {r : By → Nat} {N : List Nt} (hN : Num N) (hU : Uniq N) {i j : Nat} (hi : i < N.length) (hj : j < N.length) : ((ng N i).2.any fun k => decide (k = j) || gt r (ng N k).1 (ng N j).1) = true ↔ Cov r (ng N i).1 (ng N j).1 := by
  rw [List.any_eq_true]
  unfold Cov
  rw [← hN.map i hi]
  constructor
  · rintro ⟨k, hk, h⟩
    refine ⟨(ng N k).1, List.mem_map.2 ⟨k, hk, rfl⟩, ?_⟩
    rw [Bool.or_eq_true, decide_eq_true_eq] at h
    rcases h with rfl | h
    · exact .inl rfl
    · exact .inr h
  · rintro ⟨t, ht, h⟩
    obtain ⟨k, hk, rfl⟩ := List.mem_map.1 ht
    refine ⟨k, hk, ?_⟩
    rw [Bool.or_eq_true, decide_eq_true_eq]
    rcases h with h | h
    · exact .inl (hU k j (by have := hN.kid i hi k hk; omega) hj h)
    · exact .inr h
theorem par_any {r : By → Nat} {N : List Nt} (hN : Num N) {s : Tm} {j : Nat} (hj : j < N.length) : ((ng N j).2.any fun k => !gt r s (ng N k).1) = true ↔ ∃ k ∈ (ng N j).1.kids, gt r s k = false := by
  rw [List.any_eq_true, ← hN.map j hj]
  constructor
  · rintro ⟨k, hk, h⟩
    exact ⟨(ng N k).1, List.mem_map.2 ⟨k, hk, rfl⟩, by simpa using h⟩
  · rintro ⟨t, ht, h⟩
    obtain ⟨k, hk, rfl⟩ := List.mem_map.1 ht
    exact ⟨k, hk, by rw [h]; rfl⟩
/-- names by their places -/
theorem rank_step {ops : List By} {rl : List (By × Value)} {k : Nat} (hd : Dif ops) (hk : k < ops.length) (h : ∀ s ∈ ops.take k, afind rl s = some (natV (ixF ops s))) : ∀ s ∈ ops.take (k + 1), afind (aput rl (ops.getD k nul) (natV k)) s = some (natV (ixF ops s)) := by
  intro s hs
  rw [afind_put]
  split
  · rename_i e
    rw [e, hd.ix hk]
  · rename_i e
    refine h s ?_
    rw [List.take_add_one, List.mem_append] at hs
    rcases hs with hs | hs
    · exact hs
    · rw [List.getElem?_eq_getElem hk] at hs
      simp only [Option.toList_some, List.mem_singleton] at hs
      exact absurd (by rw [hs, List.getD_eq_getElem?_getD, List.getElem?_eq_getElem hk]; rfl) e
/-- an order without nodes -/
theorem OrdX.new {tn to : TypeId} {ops : List By} {base b br bk bd : Nat} {w : World} {rl : List (By × Value)} (R : Nat → Prop) (hb : w.heap[b]? = some (.cells #[.map (some br), nilS, .map (some bk), .map (some bd)] to (0, 0))) (hr : MpR strV w br rl) (hrs : ∀ s ∈ ops, afind rl s = some (natV (ixF ops s)))
    (hk : MpR strV w bk []) (hd : MpR pairV w bd []) (h1 : base ≤ b ∧ base ≤ br ∧ base ≤ bk ∧ base ≤ bd) (h2 : b ≠ br ∧ b ≠ bk ∧ b ≠ bd ∧ br ≠ bk ∧ br ≠ bd ∧ bk ≠ bd) (h3 : ¬ R b ∧ ¬ R br ∧ ¬ R bk ∧ ¬ R bd) :
    OrdX tn to ops R (fun k => k = b ∨ k = br ∨ k = bk ∨ k = bd) base w b [] nilS br bk bd [] (fun _ => False) rl [] [] := by
  refine ⟨hb, hr, hrs, rfl, ⟨rfl, .inl ⟨rfl, rfl⟩⟩, fun i hi => absurd hi (Nat.not_lt_zero _), fun k hk => hk.elim, hk, fun k v => ⟨fun h => by simp [afind] at h, fun ⟨i, hi, _⟩ => absurd hi (Nat.not_lt_zero _)⟩, hd, fun p v h => by simp [afind] at h, Num.nil, Uniq.nil, fun i hi => absurd hi (Nat.not_lt_zero _), fun i hi => absurd hi (Nat.not_lt_zero _), fun i hi => absurd hi (Nat.not_lt_zero _),
    ⟨.inl rfl, .inr (.inl rfl), .inr (.inr (.inl rfl)), .inr (.inr (.inr rfl))⟩, fun k hk => by simp [Value.ownBlock] at hk, h2, ⟨by simp [Value.ownBlock], by simp [Value.ownBlock], by simp [Value.ownBlock], by simp [Value.ownBlock]⟩, fun k hx => ?_⟩
  have hb' := (Array.getElem?_eq_some_iff.1 hb).1
  have hr' := hr.lt
  have hk' := hk.lt
  have hd' := hd.lt
  rcases hx with rfl | rfl | rfl | rfl
  · exact ⟨h1.1, hb', h3.1⟩
  · exact ⟨h1.2.1, hr', h3.2.1⟩
  · exact ⟨h1.2.2.1, hk', h3.2.2.1⟩
  · exact ⟨h1.2.2.2, hd', h3.2.2.2⟩
end Go.Hw

/- The order of terms: pure. -/
namespace Go.Hw
open Tm
set_option linter.unusedVariables false
set_option linter.unusedSimpArgs false
def bcmp (a b : By) : Int := if blt a b = true then -1 else if blt b a = true then 1 else 0
theorem bcmp_zero (a b : By) : bcmp a b = 0 ↔ a = b := by
  unfold bcmp
  constructor
  · intro h
    by_cases e : a = b
    · exact e
    · rcases blt_tri a b e with h1 | h1
      · rw [if_pos h1] at h; omega
      · rw [if_neg (by rw [blt_asymm h1]; decide), if_pos h1] at h; omega
  · intro h
    rw [h, blt_irrefl]
    rfl
mutual
def cmpT : Tm → Tm → Int
  | .mk n s L, .mk m r M => if decide (s ≠ nul) ≠ decide (r ≠ nul) then (if s ≠ nul then -1 else 1) else if bcmp n m ≠ 0 then bcmp n m else if bcmp s r ≠ 0 then bcmp s r else if L.length ≠ M.length then (if L.length < M.length then -1 else 1) else cmps L M
def cmps : List Tm → List Tm → Int
  | a :: L, b :: M => if cmpT a b ≠ 0 then cmpT a b else cmps L M
  | _, _ => 0
end
theorem cmpT_zero : ∀ a b : Tm, cmpT a b = 0 ↔ a = b := by
  refine ind (fun n s L ih b => ?_)
  obtain ⟨m, r, M⟩ := b
  have hL : ∀ (L M : List Tm), (∀ x ∈ L, ∀ y, cmpT x y = 0 ↔ x = y) → L.length = M.length → (cmps L M = 0 ↔ L = M) := by
    intro L
    induction L with
    | nil => intro M _ h; cases M with
      | nil => simp [cmps]
      | cons b M => simp at h
    | cons a L ihL =>
      intro M h hl
      cases M with
      | nil => simp at hl
      | cons b M =>
        unfold cmps
        have h1 := h a (List.mem_cons_self ..) b
        by_cases hz : cmpT a b = 0
        · rw [if_neg (by simp [hz]), ihL M (fun x hx => h x (List.mem_cons_of_mem _ hx)) (by simpa using hl), h1.1 hz]
          simp
        · rw [if_pos hz]
          constructor
          · intro h2; exact absurd h2 hz
          · intro h2; injection h2 with h2 h3; exact absurd (h1.2 h2) hz
  unfold cmpT
  constructor
  · intro h
    by_cases h1 : decide (s ≠ nul) ≠ decide (r ≠ nul)
    · rw [if_pos h1] at h
      split at h <;> omega
    rw [if_neg h1] at h
    by_cases h2 : bcmp n m = 0
    · rw [if_neg (by simp [h2])] at h
      by_cases h3 : bcmp s r = 0
      · rw [if_neg (by simp [h3])] at h
        by_cases h4 : L.length = M.length
        · rw [if_neg (by simp [h4])] at h
          rw [(bcmp_zero n m).1 h2, (bcmp_zero s r).1 h3, (hL L M ih h4).1 h]
        · rw [if_pos h4] at h
          split at h <;> omega
      · rw [if_pos h3] at h; exact absurd h h3
    · rw [if_pos h2] at h; exact absurd h h2
  · intro h
    injection h with h1 h2 h3
    subst h1 h2 h3
    rw [if_neg (by simp), if_neg (by simp [(bcmp_zero n n).2 rfl]), if_neg (by simp [(bcmp_zero s s).2 rfl]), if_neg (by simp)]
    exact (hL L L ih rfl).2 rfl
theorem cmps_of : ∀ (L M : List Tm) (k : Nat), L.length = M.length → k < L.length → (∀ j, j < k → cmpT (L.getD j default) (M.getD j default) = 0) → cmpT (L.getD k default) (M.getD k default) ≠ 0 → cmps L M = cmpT (L.getD k default) (M.getD k default)
  | [], _, k, _, h, _, _ => by simp at h
  | a :: L, [], k, h, _, _, _ => by simp at h
  | a :: L, b :: M, 0, _, _, _, h => by
    unfold cmps
    exact if_pos h
  | a :: L, b :: M, k + 1, hl, hk, h1, h2 => by
    unfold cmps
    have h0 : cmpT a b = 0 := h1 0 (by omega)
    rw [if_neg (by simp [h0])]
    exact cmps_of L M k (by simpa using hl) (by simpa using hk) (fun j hj => h1 (j + 1) (by omega)) h2
theorem cmps_all : ∀ (L M : List Tm), L.length = M.length → (∀ j, j < L.length → cmpT (L.getD j default) (M.getD j default) = 0) → cmps L M = 0
  | [], [], _, _ => by simp [cmps]
  | [], b :: M, h, _ => by simp at h
  | a :: L, [], h, _ => by simp at h
  | a :: L, b :: M, hl, h1 => by
    unfold cmps
    have h0 : cmpT a b = 0 := h1 0 (by simp)
    rw [if_neg (by simp [h0])]
    exact cmps_all L M (by simpa using hl) (fun j hj => h1 (j + 1) (by simpa using hj))
theorem cmpT_eq (n s : By) (L : List Tm) (m r : By) (M : List Tm) : cmpT (.mk n s L) (.mk m r M) = if decide (s ≠ nul) ≠ decide (r ≠ nul) then (if s ≠ nul then -1 else 1) else if bcmp n m ≠ 0 then bcmp n m else if bcmp s r ≠ 0 then bcmp s r else if L.length ≠ M.length then (if L.length < M.length then -1 else 1) else cmps L M := by
  unfold cmpT
  rfl
end Go.Hw

/- What a round of an iterator keeps: rows of cells outside its own boxes. -/
namespace Go.Hw
open Go.RowKit Tm
set_option linter.unusedVariables false
set_option linter.unusedSimpArgs false
structure KpG (G : Nat → Prop) (A B : World) : Prop where
  size : A.heap.size ≤ B.heap.size
  cells : ∀ k cs ty m, ¬ G k → A.heap[k]? = some (.cells cs ty m) → B.heap[k]? = some (.cells cs ty m)
theorem KpG.refl (G : Nat → Prop) (A : World) : KpG G A A := ⟨Nat.le_refl _, fun _ _ _ _ _ h => h⟩
theorem KpG.trans {G : Nat → Prop} {A B C : World} (h : KpG G A B) (k : KpG G B C) : KpG G A C := ⟨Nat.le_trans h.size k.size, fun i cs ty m hG hc => k.cells i cs ty m hG (h.cells i cs ty m hG hc)⟩
theorem KpG.of_upd {F G : Nat → Prop} {A B : World} (h : Upd F A B) (hF : ∀ k, k < A.heap.size → F k → G k) : KpG G A B :=
  ⟨h.size, fun k cs ty m hG hc => (h.block k (Array.getElem?_eq_some_iff.1 hc).1 (fun hf => hG (hF k (Array.getElem?_eq_some_iff.1 hc).1 hf))).trans hc⟩
theorem KpG.of_ext {G : Nat → Prop} {A B : World} (h : Ext A B) : KpG G A B := KpG.of_upd h (fun _ _ h => h.elim)
theorem KpG.putObj {G : Nat → Prop} (W : World) (l : Nat) (o o' : Obj) (h : W.heap[l]? = some o) (hc : o.isCells = false) : KpG G W (W.putObj l o') := by
  refine ⟨by simp [World.putObj], fun k cs ty m hG hk => ?_⟩
  have hne : l ≠ k := by
    intro e
    rw [e, hk] at h
    injection h with h
    rw [← h] at hc
    cases hc
  simp only [World.putObj]
  rw [Array.getElem?_setIfInBounds_ne hne]
  exact hk
theorem KpG.cell {G : Nat → Prop} {A B : World} (h : KpG G A B) {p : Addr} {v : Value} (hp : ¬ G p.block) (hs : p.spot = none) (hc : A.cell? p = some v) : B.cell? p = some v := by
  cases hb : A.heap[p.block]? with
  | none => simp [World.cell?, hb] at hc
  | some o =>
    cases o with
    | cells cs ty m =>
      have h2 := h.cells _ _ _ _ hp hb
      simp only [World.cell?, hb] at hc
      simp only [World.cell?, h2]
      exact hc
    | _ => simp [World.cell?, hb] at hc
theorem SlR.keptK {G S : Nat → Prop} {A B : World} {size n : Nat} {v : Value} {cs : List Value} (h : SlR S A size v n cs) (hk : KpG G A B) (hS : ∀ k, S k → ¬ G k) : SlR S B size v n cs := by
  refine ⟨h.1, ?_⟩
  rcases h.2 with h2 | ⟨a, cap, e, hc, hs, hj⟩
  · exact .inl h2
  · refine .inr ⟨a, cap, e, hc, hs, fun j hjn => ?_⟩
    have hn : 0 < n := pos_of_lt hjn
    have h3 := hj j hjn
    have hlen : j < cs.length := by rw [h.1]; exact hjn
    rw [List.getElem?_eq_getElem hlen] at h3 ⊢
    exact hk.cell (hS _ (hs hn).2) (by rfl) h3
theorem TlR.keptK {G S : Nat → Prop} {A B : World} {L : List Tm} {v : Value} (h : TlR S A L v) (hk : KpG G A B) (hS : ∀ k, S k → ¬ G k) : TlR S B L v := by
  induction h with
  | mk L us v hl h hkk ih => exact ⟨L, us, v, hl, h.keptK hk hS, ih⟩
end Go.Hw

/- The reference's table by its index: pure; lists of fields in memory. -/
namespace Go.Hw
open Go.RowKit Tm
set_option linter.unusedVariables false
set_option linter.unusedSimpArgs false
abbrev vg (l : List Vd) (i : Nat) : Vd := l.getD i (nul, nul)
/-- the first place that is not before f -/
def vix (l : List Vd) (f : Vd) : Nat := match l with
  | [] => 0
  | g :: l => if blt g.1 f.1 = true then vix l f + 1 else 0
theorem vix_le (f : Vd) : ∀ l : List Vd, vix l f ≤ l.length
  | [] => Nat.le_refl _
  | g :: l => by
    unfold vix
    split
    · simpa using vix_le f l
    · simp
theorem vix_lt (f : Vd) : ∀ (l : List Vd) (j : Nat), j < vix l f → blt (vg l j).1 f.1 = true
  | [], j, h => by simp [vix] at h
  | g :: l, j, h => by
    unfold vix at h
    split at h
    · rename_i hb
      cases j with
      | zero => exact hb
      | succ j => exact vix_lt f l j (by omega)
    · simp at h
theorem vix_at (f : Vd) : ∀ (l : List Vd), vix l f < l.length → blt (vg l (vix l f)).1 f.1 = false
  | [], h => by simp at h
  | g :: l, h => by
    unfold vix at h ⊢
    by_cases hb : blt g.1 f.1 = true
    · rw [if_pos hb] at h ⊢
      exact vix_at f l (by simpa using h)
    · rw [if_neg hb]
      exact Bool.eq_false_iff.2 hb
/-- the index is found where the loop stops -/
theorem vix_uniq (l : List Vd) (f : Vd) (k : Nat) (hk : k ≤ l.length) (h1 : ∀ j, j < k → blt (vg l j).1 f.1 = true) (h2 : k < l.length → blt (vg l k).1 f.1 = false) : vix l f = k := by
  rcases Nat.lt_trichotomy (vix l f) k with h | h | h
  · have h3 := vix_at f l (by omega)
    rw [h1 _ h] at h3; cases h3
  · exact h
  · have h3 := vix_lt f l k h
    rw [h2 (by have := vix_le f l; omega)] at h3; cases h3
theorem vadd_ix (f : Vd) : ∀ l : List Vd, vadd l f = if vix l f < l.length ∧ (vg l (vix l f)).1 = f.1 then (l, decide ((vg l (vix l f)).2 = f.2)) else (l.take (vix l f) ++ f :: l.drop (vix l f), true)
  | [] => by simp [vadd, vix]
  | g :: l => by
    have ih := vadd_ix f l
    unfold vadd vix
    by_cases hb : blt g.1 f.1 = true
    · rw [if_pos hb, if_pos hb]
      have e : vg (g :: l) (vix l f + 1) = vg l (vix l f) := rfl
      by_cases hc : vix l f < l.length ∧ (vg l (vix l f)).1 = f.1
      · rw [if_pos hc] at ih
        rw [ih]
        exact (if_pos (c := vix l f + 1 < (g :: l).length ∧ (vg (g :: l) (vix l f + 1)).1 = f.1) ⟨by simpa using hc.1, hc.2⟩).symm
      · rw [if_neg hc] at ih
        rw [ih, if_neg (fun h => hc ⟨by simpa using h.1, h.2⟩)]
        simp
    · rw [if_neg hb, if_neg hb]
      by_cases hc : g.1 = f.1
      · rw [if_pos hc]
        exact (if_pos (c := 0 < (g :: l).length ∧ (vg (g :: l) 0).1 = f.1) ⟨by simp, hc⟩).symm
      · rw [if_neg hc, if_neg (fun h => hc h.2)]
        simp
/-- the cells of a list of fields -/
def fCells (l : List Vd) : List Value := l.flatMap fun f => [.string f.1, .string f.2]
theorem fCells_len (l : List Vd) : (fCells l).length = l.length * 2 := by
  induction l with
  | nil => rfl
  | cons a l ih => simp only [fCells, List.flatMap_cons, List.length_append, List.length_cons, List.length_nil] at ih ⊢; omega
theorem fCells_append (l m : List Vd) : fCells (l ++ m) = fCells l ++ fCells m := by simp [fCells]
theorem fCells_at : ∀ (l : List Vd) (i : Nat), i < l.length → (fCells l)[i * 2]? = some (.string (vg l i).1) ∧ (fCells l)[i * 2 + 1]? = some (.string (vg l i).2)
  | a :: l, 0, _ => ⟨rfl, rfl⟩
  | a :: l, i + 1, h => by
    obtain ⟨h0, h1⟩ := fCells_at l i (by simpa using h)
    have e : ∀ k, (fCells (a :: l))[(i + 1) * 2 + k]? = (fCells l)[i * 2 + k]? := fun k => by
      rw [show (i + 1) * 2 + k = i * 2 + k + 1 + 1 by omega]
      rfl
    exact ⟨by rw [← Nat.add_zero ((i + 1) * 2), e]; exact h0, by rw [e]; exact h1⟩
theorem fCells_take (l : List Vd) : ∀ k, (fCells l).take (k * 2) = fCells (l.take k) := by
  induction l with
  | nil => intro k; simp [fCells]
  | cons a l ih =>
    intro k
    cases k with
    | zero => simp [fCells]
    | succ k =>
      have h := ih k
      simp only [fCells, List.flatMap_cons, List.take_succ_cons] at h ⊢
      rw [show (k + 1) * 2 = k * 2 + 1 + 1 by omega]
      simp only [List.cons_append, List.nil_append, List.take_succ_cons, h]
theorem fCells_drop (l : List Vd) : ∀ k, (fCells l).drop (k * 2) = fCells (l.drop k) := by
  induction l with
  | nil => intro k; simp [fCells]
  | cons a l ih =>
    intro k
    cases k with
    | zero => simp [fCells]
    | succ k =>
      have h := ih k
      simp only [fCells, List.flatMap_cons, List.drop_succ_cons] at h ⊢
      rw [show (k + 1) * 2 = k * 2 + 1 + 1 by omega]
      simp only [List.cons_append, List.nil_append, List.drop_succ_cons, h]
theorem fCells_one (l : List Vd) : ∀ u ∈ fCells l, u.oneCell' = true := by
  intro u hu
  unfold fCells at hu
  rw [List.mem_flatMap] at hu
  obtain ⟨f, _, hf⟩ := hu
  simp at hf
  rcases hf with rfl | rfl <;> rfl
def FiR (S : Nat → Prop) (w : World) (v : Value) (l : List Vd) : Prop := SlR S w 2 v l.length (fCells l)
theorem FiR.shape {S : Nat → Prop} {w : World} {v : Value} {l : List Vd} (h : FiR S w v l) : ∃ a cap, v = .slice a l.length cap := SlR.shape h
theorem FiR.ext {S : Nat → Prop} {w w' : World} {v : Value} {l : List Vd} (h : FiR S w v l) (hu : Ext w w') : FiR S w' v l := SlR.kept h hu (fun _ _ h => h)
theorem FiR.at_ {S : Nat → Prop} {w : World} {a : Option Addr} {n cap : Nat} {l : List Vd} (h : FiR S w (.slice a n cap) l) (hl : 0 < l.length) :
    ∃ g off, a = some ⟨g, off, none⟩ ∧ ∀ i, i < l.length → w.cell? ⟨g, off + i * 2, none⟩ = some (.string (vg l i).1) ∧ w.cell? ⟨g, off + i * 2 + 1, none⟩ = some (.string (vg l i).2) := by
  obtain ⟨g, off, c, e, _, _, hj⟩ := SlR.pos h hl
  injection e with e1 e2 e3
  refine ⟨g, off, e1, fun i hi => ?_⟩
  obtain ⟨h0, h1⟩ := fCells_at l i hi
  exact ⟨by rw [hj _ (by omega), h0], by rw [Nat.add_assoc, hj _ (by omega), h1]⟩
end Go.Hw

/- An append to a slice without room, of length zero: no old block changes. -/
namespace Go.Hw
open Go.RowKit
set_option linter.unusedVariables false
set_option linter.unusedSimpArgs false
section
variable {P : Program} (w : World)
theorem step_append_new {o : Oper} {a : Act} {K : Act → World → Prop} {Q : Exit → Act → World → Prop} (s x : Operand) (t : TypeId)
    (ho : o.op = .call { callee := .builtin .append, args := #[s, x], argTypes := #[t, t] })
    (base : Nat) (e : TypeId) (i : TypeInfo) (z : Value) (size bytes : Nat) (ht : P.underlying t = some (.slice e)) (hi : P.info? e = some i) (hz : i.zero = some z)
    (hsize : i.size = size) (hby : i.bytes = bytes) (hzs : z.cells.size = size) (hsz : 0 < size)
    (q : Option Addr) (hs : a.eval s = .slice q 0 0) (hown : w.ownsRow base e size (.slice q 0 0) 0 [])
    (S : Nat → Prop) (sv : Value) (m : Nat) (news : List Value) (hx : a.eval x = sv) (hsl : SlR S w size sv m news) (h1 : ∀ u ∈ news, u.oneCell' = true)
    (h63 : m ≤ maxLen) (hbytes : m * bytes ≤ 140737488355328) (hbase : base ≤ w.heap.size)
    (h : ∀ v' w', Ext w w' → w'.ownsRow base e size v' m news → K (a.put o.dst v') w') : o.wp P a w K Q := by
  have hem : ∀ v' w', (Builtin.append_ #[t, t] o.type #[.slice q 0 0, sv]).run P w = .ok v' w' → w.grownBy w' (Value.ownBlock (.slice q 0 0)) → Ext w w' := by
    intro v' w' hr hgr
    refine ⟨hgr.os, hgr.tape, hgr.output, hgr.size, fun k hk _ => ?_⟩
    rcases hown.2 with ⟨hq, _⟩ | ⟨g, cap, cur, hq, hbg, hg, hnc, hcm, hcs, htake⟩
    · injection hq with hq
      subst hq
      exact hgr.block k hk (by simp [Value.ownBlock])
    · injection hq with hq h2 h3
      subst hq; subst h3
      by_cases hkg : k = g
      · subst hkg
        rcases hsl.2 with ⟨hv, hm⟩ | ⟨ad, c, hv, hc, hgg, hj⟩
        · have hr2 := run_append_owned_none (P := P) w base t o.type e i size ht hi _ 0 [] hown
          rw [hv, hr2] at hr
          injection hr with _ hr
          rw [hr]
        · have hnews : ∀ j u, news[j]? = some u → w.cell? (ad.add j) = some u := by
            intro j u hu
            have hlt : j < m * size := by rw [← hsl.1]; exact (List.getElem?_eq_some_iff.1 hu).1
            rw [← hu, ← hj j hlt]
            obtain ⟨g, off, spot⟩ := ad
            have hsp := (hgg (pos_of_lt hlt)).1
            simp only at hsp
            subst hsp
            congr 1
            unfold Addr.add
            split
            · rename_i h0; simp [h0]
            · rfl
          subst hsize
          by_cases hm : m = 0
          · subst hm
            have hn : news = [] := List.eq_nil_of_length_eq_zero (by rw [hsl.1]; simp)
            subst hn
            rw [hv, run_append_room (P := P) w t o.type e i ht hi k 0 0 cur hg ad 0 c [] (by simp) hnews h1 (Nat.le_refl _) (by simp)] at hr
            injection hr with _ hr
            rw [← hr, setRow_heap w k cur _ e _ hg, hg]
            simp
          · rw [hv, run_append_grow (P := P) w t o.type e i z ht hi hz ⟨k, 0, none⟩ 0 0 [] (by simp) (fun j v h => by simp at h) ad m c news hsl.1 hnews (by omega) (by simp only [maxLen] at h63; omega) (growslice_fits (by omega) (by subst hby; simpa using hbytes))] at hr
            injection hr with _ hr
            rw [← hr]
            exact Go.heap_alloc_old w.drew _ (by simpa using hk)
      · exact hgr.block k hk (by simp [Value.ownBlock]; exact hkg)
  rcases hsl.2 with ⟨hv, hm⟩ | ⟨ad, c, hv, hc, hgg, hj⟩
  · have hr := run_append_owned_none (P := P) w base t o.type e i size ht hi _ 0 [] hown
    have hn : news = [] := List.eq_nil_of_length_eq_zero (by rw [hsl.1, hm]; simp)
    subst hn; subst hm
    unfold Oper.wp execOp
    simp only [ho, resolve, invoke, builtin, Sem.run_bind, Sem.run_pure, Result.andThen_ok, List.map_toArray, List.map_cons, List.map_nil, hs, hx, hv, hr]
    exact h _ w (Upd.refl _ w) hown
  · have hnews : ∀ j u, news[j]? = some u → w.cell? (ad.add j) = some u := by
      intro j u hu
      have hlt : j < m * size := by rw [← hsl.1]; exact (List.getElem?_eq_some_iff.1 hu).1
      rw [← hu, ← hj j hlt]
      obtain ⟨g, off, spot⟩ := ad
      have hsp := (hgg (pos_of_lt hlt)).1
      simp only at hsp
      subst hsp
      congr 1
      unfold Addr.add
      split
      · rename_i h0; simp [h0]
      · rfl
    obtain ⟨v', w', hr, h2, h3, h4⟩ := run_append_own (P := P) w base t o.type e i z size bytes ht hi hz hsize hby hzs hsz _ 0 [] hown ad m c news hsl.1 hnews h1 (by omega) (by simpa using hbytes) hbase
    have hE := hem v' w' (by rw [hv]; exact hr) h3
    unfold Oper.wp execOp
    simp only [ho, resolve, invoke, builtin, Sem.run_bind, Sem.run_pure, Result.andThen_ok, List.map_toArray, List.map_cons, List.map_nil, hs, hx, hv, hr]
    exact h v' w' hE (by simpa using h2)
end
end Go.Hw

/- Insertion into a row of one's own: what the cells become. -/
namespace Go.Hw
open Go.RowKit
set_option linter.unusedVariables false
set_option linter.unusedSimpArgs false
def setL (cur : Array Value) : Nat → List Value → Array Value
  | _, [] => cur
  | o, v :: r => setL (cur.setIfInBounds o v) (o + 1) r
theorem setL_size : ∀ (vs : List Value) (cur : Array Value) (o : Nat), (setL cur o vs).size = cur.size
  | [], _, _ => rfl
  | v :: r, cur, o => by unfold setL; rw [setL_size r, Array.size_setIfInBounds]
theorem setL_at : ∀ (vs : List Value) (cur : Array Value) (o j : Nat), o + vs.length ≤ cur.size → (setL cur o vs)[j]? = if o ≤ j ∧ j < o + vs.length then vs[j - o]? else cur[j]?
  | [], cur, o, j, h => by
    unfold setL
    rw [if_neg (by simp only [List.length_nil]; omega)]
  | v :: r, cur, o, j, h => by
    unfold setL
    simp only [List.length_cons] at h ⊢
    rw [setL_at r _ (o + 1) j (by rw [Array.size_setIfInBounds]; omega)]
    by_cases h1 : o = j
    · subst h1
      rw [if_neg (by omega), if_pos (by omega), Array.getElem?_setIfInBounds_self_of_lt (by omega)]
      simp
    · by_cases h2 : o + 1 ≤ j ∧ j < o + 1 + r.length
      · rw [if_pos h2, if_pos (by omega), show j - o = (j - (o + 1)) + 1 by omega, List.getElem?_cons_succ]
      · rw [if_neg h2, if_neg (by omega), Array.getElem?_setIfInBounds_ne h1]
theorem setCells_heap {b : Nat} {t : TypeId} : ∀ (vs : List Value) (o : Nat) (w : World) (cur : Array Value), w.heap[b]? = some (.cells cur t (0, 0)) → (w.setCells b o vs).heap[b]? = some (.cells (setL cur o vs) t (0, 0))
  | [], _, _, _, h => h
  | v :: r, o, w, cur, h => by
    unfold World.setCells setL
    exact setCells_heap r (o + 1) _ _ (setBlock h o v)
theorem setCells_upd {b : Nat} : ∀ (vs : List Value) (o : Nat) (w : World), Upd (fun k => k = b) w (w.setCells b o vs)
  | [], _, w => Upd.refl _ w
  | v :: r, o, w => by
    unfold World.setCells
    exact ((Upd.refl (fun k => k = b) w).setCell (p := ⟨b, o, none⟩) (.inl rfl) v).trans (setCells_upd r (o + 1) _)
/-- a row out of what its block holds -/
theorem own_mk {w : World} {base e g cap n : Nat} {cur : Array Value} {xs : List Value} (hl : xs.length = n) (hb : base ≤ g) (hg : w.heap[g]? = some (.cells cur e (0, 0))) (hn : n ≤ cap) (hm : cap ≤ maxLen) (hs : cur.size = cap) (ht : ∀ j, j < n → cur[j]? = xs[j]?) :
    w.ownsRow base e 1 (.slice (some ⟨g, 0, none⟩) n cap) n xs := by
  refine ⟨by omega, .inr ⟨g, cap, cur, rfl, hb, hg, hn, hm, by omega, ?_⟩⟩
  apply List.ext_getElem?
  intro j
  rw [Nat.mul_one, List.getElem?_take]
  by_cases h : j < n
  · rw [if_pos h, ← ht j h, Array.getElem?_toList]
  · rw [if_neg h, List.getElem?_eq_none (by omega)]
theorem ins_at {α : Type} (cs : List α) (x : α) (i j : Nat) (hi : i ≤ cs.length) : (cs.take i ++ x :: cs.drop i)[j]? = if j < i then cs[j]? else if j = i then some x else cs[j - 1]? := by
  by_cases h1 : j < i
  · rw [if_pos h1, List.getElem?_append_left (by simp; omega), List.getElem?_take_of_lt h1]
  · rw [if_neg h1, List.getElem?_append_right (by simp; omega)]
    have hl : (cs.take i).length = i := by simp; omega
    rw [hl]
    by_cases h2 : j = i
    · subst h2; rw [if_pos rfl, Nat.sub_self]; rfl
    · rw [if_neg h2, show j - i = (j - i - 1) + 1 by omega, List.getElem?_cons_succ, List.getElem?_drop]
      congr 1
      omega
end Go.Hw

/- Rules in memory: as lists of their terms. -/
namespace Go.Hw
open Go.RowKit Tm
set_option linter.unusedVariables false
set_option linter.unusedSimpArgs false
abbrev rg (L : List Rl) (i : Nat) : Rl := L.getD i (default, default)
def flR (L : List Rl) : List Tm := L.flatMap fun r => [r.1, r.2]
theorem flR_len (L : List Rl) : (flR L).length = 2 * L.length := by
  induction L with
  | nil => rfl
  | cons a L ih => unfold flR at ih ⊢; rw [List.flatMap_cons, List.length_append, ih]; simp; omega
theorem flR_append (A B : List Rl) : flR (A ++ B) = flR A ++ flR B := by unfold flR; rw [List.flatMap_append]
theorem flR_at : ∀ (L : List Rl) (i : Nat), i < L.length → tg (flR L) (2 * i) = (rg L i).1 ∧ tg (flR L) (2 * i + 1) = (rg L i).2
  | r :: L, 0, _ => ⟨rfl, rfl⟩
  | r :: L, i + 1, h => by
    have ih := flR_at L i (by simpa using h)
    have e : flR (r :: L) = r.1 :: r.2 :: flR L := rfl
    rw [e, show 2 * (i + 1) = 2 * i + 1 + 1 by omega]
    exact ih
theorem rg_mem {L : List Rl} {i : Nat} (h : i < L.length) : rg L i ∈ L := by unfold rg; rw [List.getD_eq_getElem?_getD, List.getElem?_eq_getElem h]; exact List.getElem_mem h
theorem rg_snoc (L : List Rl) (k : Nat) (h : k < L.length) : L.take (k + 1) = L.take k ++ [rg L k] := by
  rw [List.take_add_one]
  congr 1
  unfold rg
  rw [List.getD_eq_getElem?_getD, List.getElem?_eq_getElem h]
  rfl
theorem mem_flR {L : List Rl} {t : Tm} : t ∈ flR L ↔ ∃ r ∈ L, t = r.1 ∨ t = r.2 := by
  unfold flR
  rw [List.mem_flatMap]
  constructor
  · rintro ⟨r, hr, h⟩
    simp at h
    exact ⟨r, hr, h⟩
  · rintro ⟨r, hr, h⟩
    exact ⟨r, hr, by simpa using h⟩
/-- a list of rules that is read -/
def RuR (S : Nat → Prop) (w : World) (L : List Rl) (v : Value) : Prop := ∃ a cap, v = .slice a L.length cap ∧ TlR S w (flR L) (.slice a (2 * L.length) (2 * cap))
section
variable {S T F : Nat → Prop} {w w' : World} {L : List Rl} {v : Value}
theorem RuR.shape (h : RuR S w L v) : ∃ a cap, v = .slice a L.length cap := by
  obtain ⟨a, cap, e, _⟩ := h
  exact ⟨a, cap, e⟩
theorem RuR.kept (h : RuR S w L v) (hu : Upd F w w') (hF : ∀ k, S k → ¬ F k) : RuR S w' L v := by
  obtain ⟨a, cap, e, h⟩ := h
  exact ⟨a, cap, e, h.kept hu hF⟩
theorem RuR.ext (h : RuR S w L v) (hu : Ext w w') : RuR S w' L v := h.kept hu (fun _ _ h => h)
theorem RuR.weaken (h : RuR S w L v) (hs : ∀ k, S k → T k) : RuR T w L v := by
  obtain ⟨a, cap, e, h⟩ := h
  exact ⟨a, cap, e, h.weaken hs⟩
theorem RuR.at_ {a : Option Addr} {n cap : Nat} (h : RuR S w L (.slice a n cap)) (hL : 0 < L.length) :
    ∃ g off, a = some ⟨g, off, none⟩ ∧ S g ∧ ∀ i, i < L.length → ∃ xa xc ya yc, w.cell? ⟨g, off + i * 6, none⟩ = some (.string (rg L i).1.name) ∧ w.cell? ⟨g, off + i * 6 + 1, none⟩ = some (.string (rg L i).1.sort) ∧ w.cell? ⟨g, off + i * 6 + 2, none⟩ = some (.slice xa (rg L i).1.kids.length xc) ∧
      w.cell? ⟨g, off + i * 6 + 3, none⟩ = some (.string (rg L i).2.name) ∧ w.cell? ⟨g, off + i * 6 + 4, none⟩ = some (.string (rg L i).2.sort) ∧ w.cell? ⟨g, off + i * 6 + 5, none⟩ = some (.slice ya (rg L i).2.kids.length yc) ∧
      TlR S w (rg L i).1.kids (.slice xa (rg L i).1.kids.length xc) ∧ TlR S w (rg L i).2.kids (.slice ya (rg L i).2.kids.length yc) := by
  obtain ⟨a', cap', e, h⟩ := h
  injection e with e1 e2 e3
  subst e1
  have hf := flR_len L
  obtain ⟨g, off, e, hS, hat⟩ := h.at_ (by omega)
  refine ⟨g, off, e, hS, fun i hi => ?_⟩
  obtain ⟨f1, f2⟩ := flR_at L i hi
  obtain ⟨xa, xc, h0, h1, h2, h3⟩ := hat (2 * i) (by omega)
  obtain ⟨ya, yc, k0, k1, k2, k3⟩ := hat (2 * i + 1) (by omega)
  rw [f1] at h0 h1 h2 h3
  rw [f2] at k0 k1 k2 k3
  refine ⟨xa, xc, ya, yc, ?_, ?_, ?_, ?_, ?_, ?_, h3, k3⟩
  · rw [show off + i * 6 = off + 2 * i * 3 by omega]; exact h0
  · rw [show off + i * 6 + 1 = off + (2 * i * 3 + 1) by omega]; exact h1
  · rw [show off + i * 6 + 2 = off + (2 * i * 3 + 2) by omega]; exact h2
  · rw [show off + i * 6 + 3 = off + (2 * i + 1) * 3 by omega]; exact k0
  · rw [show off + i * 6 + 4 = off + ((2 * i + 1) * 3 + 1) by omega]; exact k1
  · rw [show off + i * 6 + 5 = off + ((2 * i + 1) * 3 + 2) by omega]; exact k2
end
end Go.Hw

/- Terms that are not large: pure. -/
namespace Go.Hw
open Tm
set_option linter.unusedVariables false
set_option linter.unusedSimpArgs false
mutual
/-- nodes down to a depth, up to a limit -/
def ndF (d : Nat) (left : Int) : Tm → Int
  | .mk n s L => if left ≤ 0 ∨ d = 0 ∨ 100 < n.size ∨ 100 < s.size then -1 else ndFs (d - 1) (left - 1) L
def ndFs (d : Nat) (left : Int) : List Tm → Int
  | [] => left
  | a :: L => if left < 0 then left else ndFs d (ndF d left a) L
end
theorem ndF_mk (d : Nat) (left : Int) (n s : By) (L : List Tm) : ndF d left (.mk n s L) = if left ≤ 0 ∨ d = 0 ∨ 100 < n.size ∨ 100 < s.size then -1 else ndFs (d - 1) (left - 1) L := by unfold ndF; rfl
theorem ndFs_neg (d : Nat) (left : Int) (L : List Tm) (h : left < 0) : ndFs d left L = left := by
  cases L with
  | nil => simp [ndFs]
  | cons a L => simp [ndFs, h]
theorem ndFs_snoc (d : Nat) (x : Tm) : ∀ (L : List Tm) (left : Int), ndFs d left (L ++ [x]) = if ndFs d left L < 0 then ndFs d left L else ndF d (ndFs d left L) x
  | [], left => by
    simp only [List.nil_append, ndFs]
    by_cases h : left < 0 <;> simp [h]
  | a :: L, left => by
    simp only [List.cons_append, ndFs]
    by_cases h : left < 0
    · simp only [h, if_true]
    · simp only [h, if_false]
      exact ndFs_snoc d x L _
theorem ndFs_app (d : Nat) (M : List Tm) : ∀ (L : List Tm) (left : Int), ndFs d left L < 0 → ndFs d left (L ++ M) = ndFs d left L
  | [], left, h => by
    simp only [ndFs] at h
    simp only [List.nil_append, ndFs]
    exact ndFs_neg d left M h
  | a :: L, left, h => by
    simp only [List.cons_append, ndFs] at h ⊢
    by_cases h2 : left < 0
    · simp only [h2, if_true]
    · simp only [h2, if_false] at h ⊢
      exact ndFs_app d M L _ h
theorem ndF_bd : ∀ (t : Tm) (d : Nat) (left : Int), -1 ≤ left → -1 ≤ ndF d left t ∧ ndF d left t ≤ max left (-1) ∧ (0 ≤ ndF d left t → ndF d left t + t.size = left) := by
  refine Tm.ind (fun n s L ih => ?_)
  have hs : ∀ (M : List Tm), (∀ x ∈ M, x ∈ L) → ∀ (d : Nat) (left : Int), -1 ≤ left → -1 ≤ ndFs d left M ∧ ndFs d left M ≤ left ∧ (0 ≤ ndFs d left M → ndFs d left M + sizes M = left) := by
    intro M
    induction M with
    | nil => intro _ d left h; simp only [ndFs, sizes]; exact ⟨h, by omega, fun _ => by omega⟩
    | cons a M ihM =>
      intro hM d left h
      simp only [ndFs, sizes]
      by_cases h2 : left < 0
      · simp only [h2, if_true]; exact ⟨h, by omega, fun h3 => by omega⟩
      · simp only [h2, if_false]
        obtain ⟨h3, h4, h5⟩ := ih a (hM a (List.mem_cons_self ..)) d left h
        obtain ⟨h6, h7, h8⟩ := ihM (fun x hx => hM x (List.mem_cons_of_mem _ hx)) d _ h3
        refine ⟨h6, by omega, fun h9 => ?_⟩
        have := h8 h9
        have := h5 (by omega)
        omega
  intro d left h
  rw [ndF_mk, size_eq]
  split
  · exact ⟨by omega, by omega, fun h => by omega⟩
  · rename_i hn
    obtain ⟨h1, h2, h3⟩ := hs L (fun _ h => h) (d - 1) (left - 1) (by omega)
    refine ⟨h1, by omega, fun h4 => ?_⟩
    have := h3 h4
    simp only [Tm.kids]
    omega
def largeB (t : Tm) : Bool := decide (ndF 12 30 t < 0)
theorem small_of {t : Tm} (h : largeB t = false) : t.size ≤ 30 := by
  have h1 := (ndF_bd t 12 30 (by omega))
  have h2 := of_decide_eq_false h
  have := h1.2.2 (by omega)
  omega
end Go.Hw

/- Insertion of a string into a row that stands ahead of others: pure. -/
namespace Go.Hw
set_option linter.unusedVariables false
set_option linter.unusedSimpArgs false
/-- the row while s is being put into its place in A, ahead of R -/
def insS (A : List By) (s : By) (k : Nat) (R : List By) : List By := A.take k ++ s :: (A.drop k ++ R)
theorem insS_len (A : List By) (s : By) (k : Nat) (R : List By) (h : k ≤ A.length) : (insS A s k R).length = A.length + 1 + R.length := by
  unfold insS; simp; omega
theorem insS_end (A : List By) (s : By) (R : List By) : insS A s A.length R = A ++ s :: R := by unfold insS; simp
theorem insS_at (A : List By) (s : By) (k : Nat) (R : List By) (h : k ≤ A.length) : (insS A s k R).getD k nul = s := by
  unfold insS
  rw [List.getD_eq_getElem?_getD, List.getElem?_append_right (by simp; omega)]
  simp [Nat.min_eq_left h]
theorem insS_pred (A : List By) (s : By) (k : Nat) (R : List By) (h : k + 1 ≤ A.length) : (insS A s (k + 1) R).getD k nul = A.getD k nul := by
  unfold insS
  rw [List.getD_eq_getElem?_getD, List.getElem?_append_left (by simp; omega), List.getElem?_take_of_lt (by omega), List.getD_eq_getElem?_getD]
theorem insS_step (A : List By) (s : By) (k : Nat) (R : List By) (h : k + 1 ≤ A.length) : ((insS A s (k + 1) R).set k s).set (k + 1) (A.getD k nul) = insS A s k R := by
  have hk : k < A.length := by omega
  have e1 : A.take (k + 1) = A.take k ++ [A.getD k nul] := by
    rw [List.take_add_one, List.getD_eq_getElem?_getD, List.getElem?_eq_getElem hk]; rfl
  have e2 : A.drop k = A.getD k nul :: A.drop (k + 1) := by
    rw [List.drop_eq_getElem_cons hk, List.getD_eq_getElem?_getD, List.getElem?_eq_getElem hk]; rfl
  unfold insS
  rw [e1, e2]
  have hl : (A.take k).length = k := by simp; omega
  generalize A.take k = T at *
  generalize A.getD k nul = a at *
  generalize A.drop (k + 1) = D at *
  subst hl
  simp
theorem insS_perm (A : List By) (s : By) (k : Nat) (R : List By) : (insS A s k R).Perm (A ++ s :: R) := by
  have e : A ++ s :: R = A.take k ++ (A.drop k ++ s :: R) := by rw [← List.append_assoc, List.take_append_drop]
  rw [e]
  unfold insS
  exact List.Perm.append_left _ (List.perm_middle.symm)
/-- in its place -/
theorem insS_sorted {A : List By} {s : By} {k : Nat} (hs : Ris A) (hne : ∀ a ∈ A, a ≠ s) (hk : k ≤ A.length) (hu : ∀ a ∈ A.drop k, blt s a = true) (hd : k = 0 ∨ blt s (A.getD (k - 1) nul) = false) : Ris (A.take k ++ s :: A.drop k) := by
  have hlow : ∀ a ∈ A.take k, blt a s = true := by
    intro a ha
    rcases hd with h0 | h0
    · subst h0; simp at ha
    · rcases Nat.eq_zero_or_pos k with hz | hz
      · subst hz; simp at ha
      · have hk1 : k - 1 < A.length := by omega
        have hg : A.getD (k - 1) nul = A[k - 1] := by rw [List.getD_eq_getElem?_getD, List.getElem?_eq_getElem hk1]; rfl
        rw [hg] at h0
        have hlast : blt A[k - 1] s = true := by
          rcases blt_tri A[k - 1] s (hne _ (List.getElem_mem hk1)) with h | h
          · exact h
          · rw [h] at h0; cases h0
        obtain ⟨i, hi, rfl⟩ := List.mem_iff_getElem.1 ha
        have hi2 : i < k := by simp at hi; omega
        rw [List.getElem_take]
        rcases Nat.lt_or_ge i (k - 1) with h | h
        · exact blt_trans (List.pairwise_iff_getElem.1 hs i (k - 1) (by omega) hk1 h) hlast
        · have he : i = k - 1 := by omega
          subst he
          exact hlast
  have hs' := hs
  rw [Ris, ← List.take_append_drop k A, List.pairwise_append] at hs'
  obtain ⟨s1, s2, s3⟩ := hs'
  refine List.pairwise_append.2 ⟨s1, List.pairwise_cons.2 ⟨hu, s2⟩, fun a ha b hb => ?_⟩
  rcases List.mem_cons.1 hb with rfl | hb
  · exact hlow a ha
  · exact s3 a ha b hb
theorem insS_up {A : List By} {s : By} {k : Nat} (hk : k + 1 ≤ A.length) (hu : ∀ a ∈ A.drop (k + 1), blt s a = true) (h : blt s (A.getD k nul) = true) : ∀ a ∈ A.drop k, blt s a = true := by
  intro a ha
  have hk' : k < A.length := by omega
  rw [List.drop_eq_getElem_cons hk'] at ha
  rcases List.mem_cons.1 ha with rfl | ha
  · rw [List.getD_eq_getElem?_getD, List.getElem?_eq_getElem hk'] at h; exact h
  · exact hu a ha
end Go.Hw
