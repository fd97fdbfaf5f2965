/- Scripts that are generated, and what is measured of them. Plain lists and numbers. -/
import Derived.Test.YthpekfpeoglbgaaGreatDoorP2
namespace Go.Proofs.YthpekfpeoglbgaaGreatDoor
set_option linter.unusedVariables false
set_option linter.unusedSimpArgs false

/-- an operation -/
structure OpM where
  code : Int
  args : List Int
deriving DecidableEq
instance : Inhabited OpM := ⟨⟨0, []⟩⟩
/-! ### the tables -/
def nW (kind : Int) : Nat := if kind = 1 then 8 else if kind = 2 then 4 else if kind = 3 then 7 else if kind = 4 then 5 else if kind = 5 then 5 else if kind = 6 then 4 else 0
def arL (kind : Int) : List Int :=
  if kind = 1 then [2, 1, 1, 1, 1, 1, 1, 0] else if kind = 2 then [1, 0, 0, 0] else if kind = 3 then [2, 1, 1, 2, 2, 2, 0] else if kind = 4 then [0, 2, 2, 1, 0] else if kind = 5 then [3, 2, 4, 4, 0] else if kind = 6 then [-1, -1, -1, 0] else []
theorem arL_length (kind : Int) : (arL kind).length = nW kind := by unfold arL nW; (repeat' split) <;> rfl
def ar (kind code : Int) : Int := (arL kind).getD (code - 1).toNat 0
def knownB (kind : Int) : Bool := decide (1 ≤ kind ∧ kind ≤ 6)
theorem nW_known (kind : Int) : (0 < nW kind) ↔ (1 ≤ kind ∧ kind ≤ 6) := by unfold nW; (repeat' split) <;> omega
theorem nW_le (kind : Int) : nW kind ≤ 8 := by unfold nW; (repeat' split) <;> omega
theorem arL_bd (kind : Int) : ∀ x ∈ arL kind, -1 ≤ x ∧ x ≤ 4 := by unfold arL; (repeat' split) <;> simp
theorem ar_bd (kind code : Int) : -1 ≤ ar kind code ∧ ar kind code ≤ 4 := by
  unfold ar
  generalize (code - 1).toNat = k
  by_cases h : k < (arL kind).length
  · exact arL_bd kind _ (by simp [h])
  · simp [List.getD, List.getElem?_eq_none (by omega : (arL kind).length ≤ k)]
/-- an operation with characters -/
def charsB (kind code : Int) : Bool := decide (kind = 6 ∧ code ≠ 4)
theorem ar_neg (kind code : Int) (h1 : 1 ≤ code) (h2 : code ≤ nW kind) : ar kind code < 0 ↔ charsB kind code = true := by
  have hk := (nW_known kind).1 (by omega)
  have : kind = 1 ∨ kind = 2 ∨ kind = 3 ∨ kind = 4 ∨ kind = 5 ∨ kind = 6 := by omega
  rcases this with rfl | rfl | rfl | rfl | rfl | rfl <;> simp only [nW] at h2 <;> simp at h2
  all_goals
    have : code = 1 ∨ code = 2 ∨ code = 3 ∨ code = 4 ∨ code = 5 ∨ code = 6 ∨ code = 7 ∨ code = 8 := by omega
    rcases this with rfl | rfl | rfl | rfl | rfl | rfl | rfl | rfl <;> first | omega | decide
def keyB (n : Int) : Bool := decide (-1048576 ≤ n ∧ n ≤ 1048576)
def chrB (n : Int) : Bool := decide (0 ≤ n ∧ n ≤ 255)
/-- an operation that there is -/
def validOp (kind : Int) (o : OpM) : Bool :=
  decide (1 ≤ o.code ∧ o.code ≤ nW kind) && (if ar kind o.code < 0 then decide (1 ≤ o.args.length ∧ o.args.length ≤ 64) && o.args.all chrB else decide ((o.args.length : Int) = ar kind o.code) && o.args.all keyB)
def validL (kind : Int) (l : List OpM) : Bool := knownB kind && decide (l.length ≤ 2000) && l.all (validOp kind)

/-! ### the numbers -/
def nx (s : Int) : Int := s * 48271 % 2147483647
def sq (seed : Int) : Nat → Int
  | 0 => seed
  | k + 1 => nx (sq seed k)
theorem nx_bd (s : Int) : 0 ≤ nx s ∧ nx s < 2147483647 := by unfold nx; omega
theorem sq_bd (seed : Int) (h0 : 0 ≤ seed) (h : seed < 2147483647) (k : Nat) : 0 ≤ sq seed k ∧ sq seed k < 2147483647 := by
  cases k with
  | zero => exact ⟨h0, h⟩
  | succ k => exact nx_bd _
def sqL (seed : Int) (n : Nat) : List Int := (List.range n).map (sq seed)
theorem sqL_length (seed : Int) (n : Nat) : (sqL seed n).length = n := by simp [sqL]
theorem sqL_get (seed : Int) (n k : Nat) (h : k < n) : (sqL seed n).getD k 0 = sq seed k := by simp [sqL, h]
theorem sqL_succ (seed : Int) (n : Nat) : sqL seed (n + 1) = sqL seed n ++ [sq seed n] := by simp [sqL, List.range_succ]

/-! ### the choice of a code -/
def pick : List Int → Int → Nat
  | [], _ => 0
  | w :: ws, x => if x < w then 0 else pick ws (x - w) + 1
theorem sum_drop (ws : List Int) (j : Nat) (h : j < ws.length) : (ws.drop j).sum = ws.getD j 0 + (ws.drop (j + 1)).sum := by
  rw [List.drop_eq_getElem_cons h, List.sum_cons]; simp [h]
theorem sum_take (ws : List Int) (j : Nat) (h : j < ws.length) : (ws.take (j + 1)).sum = (ws.take j).sum + ws.getD j 0 := by
  rw [List.take_succ_eq_append_getElem h, List.sum_append]; simp [h]
theorem pick_drop (ws : List Int) (j : Nat) (x : Int) (h : j < ws.length) : pick (ws.drop j) x = if x < ws.getD j 0 then 0 else pick (ws.drop (j + 1)) (x - ws.getD j 0) + 1 := by
  rw [List.drop_eq_getElem_cons h]; simp [pick, h]
theorem drop_pos (ws : List Int) (j : Nat) (x : Int) (h0 : 0 ≤ x) (h : x < (ws.drop j).sum) : j < ws.length := by
  rcases Nat.lt_or_ge j ws.length with h1 | h1
  · exact h1
  · rw [List.drop_eq_nil_of_le h1] at h; simp at h; omega
theorem pick_spec : ∀ (ws : List Int) (x : Int), 0 ≤ x → x < ws.sum → pick ws x < ws.length ∧ 0 < ws.getD (pick ws x) 0 := by
  intro ws; induction ws with
  | nil => intro x h0 h; simp at h; omega
  | cons w ws ih =>
    intro x h0 h
    simp only [List.sum_cons] at h
    unfold pick
    by_cases hx : x < w
    · rw [if_pos hx]; simp; omega
    · rw [if_neg hx]
      have := ih (x - w) (by omega) (by omega)
      simp; simpa using this
theorem sum_nonneg : ∀ (ws : List Int), (∀ x ∈ ws, 0 ≤ x) → 0 ≤ ws.sum := by
  intro ws; induction ws with
  | nil => intro _; simp
  | cons w ws ih => intro h; have := h w (by simp); have := ih (fun x hx => h x (by simp [hx])); simp; omega
theorem sum_pos : ∀ (ws : List Int), (∀ x ∈ ws, 0 ≤ x) → (∃ x ∈ ws, 0 < x) → 0 < ws.sum := by
  intro ws; induction ws with
  | nil => intro _ h; obtain ⟨x, h, _⟩ := h; simp at h
  | cons w ws ih =>
    intro h ⟨x, hx, hp⟩
    have h1 := h w (by simp)
    have h2 := sum_nonneg ws (fun x hx => h x (by simp [hx]))
    simp only [List.sum_cons]
    rcases List.mem_cons.1 hx with rfl | hx
    · omega
    · have := ih (fun x hx => h x (by simp [hx])) ⟨x, hx, hp⟩; omega
theorem sum_le : ∀ (ws : List Int), (∀ x ∈ ws, 0 ≤ x ∧ x ≤ 2000) → ws.sum ≤ 2000 * ws.length := by
  intro ws; induction ws with
  | nil => intro _; simp
  | cons w ws ih => intro h; have := h w (by simp); have := ih (fun x hx => h x (by simp [hx])); simp; omega
theorem getD_mem0 {l : List Int} {i : Nat} (h : i < l.length) : l.getD i 0 ∈ l := by simp [h]

/-! ### profiles -/
structure Prof where
  kind : Int
  ws : List Int
  low : Int
  high : Int
def wtB (n : Int) : Bool := decide (0 ≤ n ∧ n ≤ 2000)
/-- the bounds of a profile -/
def spanB (p : Prof) : Bool := decide (-1048576 ≤ p.low ∧ p.high ≤ 1048576 ∧ p.low ≤ p.high) && (decide (p.kind ≠ 6) || decide (0 ≤ p.low ∧ p.high ≤ 255))
def validP (p : Prof) : Bool := knownB p.kind && decide (p.ws.length = nW p.kind) && spanB p && (p.ws.all wtB && p.ws.any (fun n => decide (0 < n)))
structure VP (p : Prof) : Prop where
  k1 : 1 ≤ p.kind
  k6 : p.kind ≤ 6
  len : p.ws.length = nW p.kind
  low : -1048576 ≤ p.low
  high : p.high ≤ 1048576
  le : p.low ≤ p.high
  chr : p.kind = 6 → 0 ≤ p.low ∧ p.high ≤ 255
  ws : ∀ x ∈ p.ws, 0 ≤ x ∧ x ≤ 2000
  some : ∃ x ∈ p.ws, 0 < x
theorem validP_iff (p : Prof) : validP p = true ↔ VP p := by
  unfold validP knownB spanB wtB
  simp only [Bool.and_eq_true, Bool.or_eq_true, decide_eq_true_eq, List.all_eq_true, List.any_eq_true]
  constructor
  · rintro ⟨⟨⟨a, b⟩, c, d⟩, e, f⟩
    exact ⟨a.1, a.2, b, c.1, c.2.1, c.2.2, fun h => by rcases d with d | d; exact absurd h d; exact d, e, f⟩
  · rintro ⟨a, b, c, d, e, f, g, h, i⟩
    exact ⟨⟨⟨⟨a, b⟩, c⟩, ⟨d, e, f⟩, by by_cases hk : p.kind = 6; exact .inr (g hk); exact .inl hk⟩, h, i⟩
theorem VP.sum_pos {p : Prof} (h : VP p) : 0 < p.ws.sum := YthpekfpeoglbgaaGreatDoor.sum_pos _ (fun x hx => (h.ws x hx).1) h.some
theorem VP.sum_le {p : Prof} (h : VP p) : p.ws.sum ≤ 16000 := by
  have := YthpekfpeoglbgaaGreatDoor.sum_le _ h.ws; have := nW_le p.kind; have := h.len; omega

/-! ### what is generated -/
def gCode (p : Prof) (seed : Int) (at_ : Nat) : Int := (pick p.ws (sq seed at_ % p.ws.sum) : Int) + 1
def gChr (p : Prof) (seed : Int) (at_ : Nat) : Bool := charsB p.kind (gCode p seed at_)
def gAt (p : Prof) (seed : Int) (at_ : Nat) : Nat := if gChr p seed at_ then at_ + 2 else at_ + 1
def gK (p : Prof) (seed : Int) (at_ : Nat) : Nat := if gChr p seed at_ then (1 + sq seed (at_ + 1) % 3).toNat else (ar p.kind (gCode p seed at_)).toNat
def gArg (p : Prof) (seed : Int) (i : Nat) : Int := p.low + sq seed i % (p.high - p.low + 1)
def gArgs (p : Prof) (seed : Int) (a k : Nat) : List Int := (List.range k).map fun i => gArg p seed (a + i)
theorem gArgs_length (p : Prof) (seed : Int) (a k : Nat) : (gArgs p seed a k).length = k := by simp [gArgs]
theorem gArgs_succ (p : Prof) (seed : Int) (a k : Nat) : gArgs p seed a (k + 1) = gArgs p seed a k ++ [gArg p seed (a + k)] := by simp [gArgs, List.range_succ]
def gOp (p : Prof) (seed : Int) (at_ : Nat) : OpM := ⟨gCode p seed at_, gArgs p seed (gAt p seed at_) (gK p seed at_)⟩
def gPos (p : Prof) (seed : Int) : Nat → Nat
  | 0 => 1
  | k + 1 => gAt p seed (gPos p seed k) + gK p seed (gPos p seed k)
def gens (p : Prof) (seed : Int) (n : Nat) : List OpM := (List.range n).map fun i => gOp p seed (gPos p seed i)
theorem gens_length (p : Prof) (seed : Int) (n : Nat) : (gens p seed n).length = n := by simp [gens]
theorem gens_succ (p : Prof) (seed : Int) (n : Nat) : gens p seed (n + 1) = gens p seed n ++ [gOp p seed (gPos p seed n)] := by simp [gens, List.range_succ]
theorem gens_take (p : Prof) (seed : Int) (m n : Nat) (h : m ≤ n) : (gens p seed n).take m = gens p seed m := by
  unfold gens; rw [← List.map_take, List.take_range]; congr 2; omega
theorem gK_le (p : Prof) (seed : Int) (a : Nat) : gK p seed a ≤ 4 := by
  unfold gK; have := ar_bd p.kind (gCode p seed a); split <;> omega
theorem gAt_le (p : Prof) (seed : Int) (a : Nat) : gAt p seed a + gK p seed a ≤ a + 5 := by
  unfold gAt gK; have := ar_bd p.kind (gCode p seed a); split <;> omega
theorem gPos_le (p : Prof) (seed : Int) : ∀ n, gPos p seed n ≤ 5 * n + 1 := by
  intro n; induction n with
  | zero => simp [gPos]
  | succ n ih => have := gAt_le p seed (gPos p seed n); unfold gPos; omega
theorem gPick (p : Prof) (seed : Int) (a : Nat) (h : VP p) : pick p.ws (sq seed a % p.ws.sum) < p.ws.length ∧ 0 < p.ws.getD (pick p.ws (sq seed a % p.ws.sum)) 0 :=
  pick_spec _ _ (Int.emod_nonneg _ (by have := h.sum_pos; omega)) (Int.emod_lt_of_pos _ h.sum_pos)
theorem gCode_bd (p : Prof) (seed : Int) (a : Nat) (h : VP p) : 1 ≤ gCode p seed a ∧ gCode p seed a ≤ nW p.kind := by
  have := (gPick p seed a h).1; rw [h.len] at this; unfold gCode; omega
theorem gArg_bd (p : Prof) (seed : Int) (a : Nat) (h : VP p) : p.low ≤ gArg p seed a ∧ gArg p seed a ≤ p.high := by
  have := h.le
  have h1 := Int.emod_nonneg (sq seed a) (b := p.high - p.low + 1) (by omega)
  have h2 := Int.emod_lt_of_pos (sq seed a) (b := p.high - p.low + 1) (by omega)
  unfold gArg; omega
theorem gArgs_bd (p : Prof) (seed : Int) (a k : Nat) (h : VP p) : ∀ x ∈ gArgs p seed a k, p.low ≤ x ∧ x ≤ p.high := by
  intro x hx; simp only [gArgs, List.mem_map] at hx; obtain ⟨i, _, rfl⟩ := hx; exact gArg_bd p seed _ h
theorem gOp_valid (p : Prof) (seed : Int) (a : Nat) (h : VP p) : validOp p.kind (gOp p seed a) = true := by
  have hc := gCode_bd p seed a h
  have hn := ar_neg p.kind (gCode p seed a) hc.1 hc.2
  have hb := ar_bd p.kind (gCode p seed a)
  have hx := gArgs_bd p seed (gAt p seed a) (gK p seed a) h
  have := h.low; have := h.high
  unfold validOp
  simp only [gOp, gArgs_length, Bool.and_eq_true]
  refine ⟨decide_eq_true hc, ?_⟩
  by_cases hch : charsB p.kind (gCode p seed a) = true
  · rw [if_pos (hn.2 hch)]
    have hk : p.kind = 6 := by unfold charsB at hch; simp only [decide_eq_true_eq] at hch; exact hch.1
    have hr := h.chr hk
    have hK : gK p seed a = (1 + sq seed (a + 1) % 3).toNat := by unfold gK gChr; rw [if_pos hch]
    simp only [Bool.and_eq_true, decide_eq_true_eq, List.all_eq_true]
    refine ⟨by omega, fun x h => ?_⟩
    have := hx x h
    unfold chrB; simp only [decide_eq_true_eq]; omega
  · have hng : ¬ ar p.kind (gCode p seed a) < 0 := fun h => hch (hn.1 h)
    rw [if_neg hng]
    have hK : gK p seed a = (ar p.kind (gCode p seed a)).toNat := by unfold gK gChr; rw [if_neg hch]
    simp only [Bool.and_eq_true, decide_eq_true_eq, List.all_eq_true]
    refine ⟨by omega, fun x h => ?_⟩
    have := hx x h
    unfold keyB; simp only [decide_eq_true_eq]; omega
theorem gens_valid (p : Prof) (seed : Int) (n : Nat) (h : VP p) (hn : n ≤ 2000) : validL p.kind (gens p seed n) = true := by
  unfold validL knownB
  simp only [Bool.and_eq_true, decide_eq_true_eq, gens_length, List.all_eq_true]
  refine ⟨⟨⟨h.k1, h.k6⟩, hn⟩, fun o ho => ?_⟩
  simp only [gens, List.mem_map] at ho
  obtain ⟨i, _, rfl⟩ := ho
  exact gOp_valid p seed _ h

/-! ### what is measured -/
def codesL (l : List OpM) : List Int := l.map (·.code)
def argsL (l : List OpM) : List Int := (l.map (·.args)).flatten
theorem argsL_snoc (l : List OpM) (o : OpM) : argsL (l ++ [o]) = argsL l ++ o.args := by simp [argsL]
def mWs (kind : Int) (l : List OpM) : List Int := (List.range (nW kind)).map fun i : Nat => cnt ((i : Int) + 1) (codesL l)
def minL : List Int → Int
  | [] => 0
  | x :: r => r.foldl min x
def maxL : List Int → Int
  | [] => 0
  | x :: r => r.foldl max x
theorem minL_snoc (l : List Int) (x : Int) (h : l ≠ []) : minL (l ++ [x]) = min (minL l) x := by
  cases l with
  | nil => exact absurd rfl h
  | cons y r => simp [minL]
theorem maxL_snoc (l : List Int) (x : Int) (h : l ≠ []) : maxL (l ++ [x]) = max (maxL l) x := by
  cases l with
  | nil => exact absurd rfl h
  | cons y r => simp [maxL]
theorem minmax_in : ∀ (l : List Int), l ≠ [] → (∀ x ∈ l, minL l ≤ x ∧ x ≤ maxL l) ∧ minL l ∈ l ∧ maxL l ∈ l := by
  intro l
  suffices h : ∀ n (l : List Int), l.length = n + 1 → (∀ x ∈ l, minL l ≤ x ∧ x ≤ maxL l) ∧ minL l ∈ l ∧ maxL l ∈ l by
    intro hl
    cases hn : l.length with
    | zero => exact absurd (List.eq_nil_of_length_eq_zero hn) hl
    | succ n => exact h n l hn
  clear l
  intro n; induction n with
  | zero =>
    intro l hl
    match l, hl with
    | [x], _ => simp [minL, maxL]
  | succ n ih =>
    intro l hl
    have hne : l ≠ [] := by intro e; subst e; simp at hl
    obtain ⟨r, x, rfl⟩ : ∃ r x, l = r ++ [x] := ⟨l.dropLast, l.getLast hne, (List.dropLast_concat_getLast hne).symm⟩
    have hr : r.length = n + 1 := by simpa using hl
    have hrne : r ≠ [] := by intro e; subst e; simp at hr
    obtain ⟨a, b, c⟩ := ih r hr
    rw [minL_snoc r x hrne, maxL_snoc r x hrne]
    refine ⟨fun y hy => ?_, ?_, ?_⟩
    · rcases List.mem_append.1 hy with h | h
      · have := a y h; omega
      · simp at h; subst h; omega
    · rw [List.mem_append]
      by_cases h : minL r ≤ x
      · left; rw [Int.min_eq_left h]; exact b
      · right; rw [Int.min_eq_right (by omega)]; simp
    · rw [List.mem_append]
      by_cases h : x ≤ maxL r
      · left; rw [Int.max_eq_left h]; exact c
      · right; rw [Int.max_eq_right (by omega)]; simp
def meas (kind : Int) (l : List OpM) : Prof := ⟨kind, mWs kind l, minL (argsL l), maxL (argsL l)⟩
theorem validL_iff (kind : Int) (l : List OpM) : validL kind l = true ↔ (1 ≤ kind ∧ kind ≤ 6) ∧ l.length ≤ 2000 ∧ ∀ o ∈ l, validOp kind o = true := by
  unfold validL knownB; simp [and_assoc]
theorem validOp_code {kind : Int} {o : OpM} (h : validOp kind o = true) : 1 ≤ o.code ∧ o.code ≤ nW kind := by
  unfold validOp at h; simp only [Bool.and_eq_true, decide_eq_true_eq] at h; exact h.1
theorem validOp_len {kind : Int} {o : OpM} (h : validOp kind o = true) : o.args.length ≤ 64 := by
  have hb := ar_bd kind o.code
  unfold validOp at h; simp only [Bool.and_eq_true, decide_eq_true_eq] at h
  have h2 := h.2
  split at h2 <;> simp only [Bool.and_eq_true, decide_eq_true_eq] at h2 <;> omega
theorem validOp_args {kind : Int} {o : OpM} (hk : 1 ≤ kind ∧ kind ≤ 6) (h : validOp kind o = true) : ∀ x ∈ o.args, -1048576 ≤ x ∧ x ≤ 1048576 ∧ (kind = 6 → 0 ≤ x ∧ x ≤ 255) := by
  have hc := validOp_code h
  have hn := ar_neg kind o.code hc.1 hc.2
  unfold validOp at h; simp only [Bool.and_eq_true, decide_eq_true_eq] at h
  have h2 := h.2
  intro x hx
  by_cases hneg : ar kind o.code < 0
  · rw [if_pos hneg] at h2
    simp only [Bool.and_eq_true, decide_eq_true_eq, List.all_eq_true] at h2
    have := h2.2 x hx
    unfold chrB at this; simp only [decide_eq_true_eq] at this
    exact ⟨by omega, by omega, fun _ => this⟩
  · rw [if_neg hneg] at h2
    simp only [Bool.and_eq_true, decide_eq_true_eq, List.all_eq_true] at h2
    have := h2.2 x hx
    unfold keyB at this; simp only [decide_eq_true_eq] at this
    refine ⟨this.1, this.2, fun h6 => ?_⟩
    exfalso
    subst h6
    have hcs : o.code = 4 := by
      have : ¬ charsB 6 o.code = true := fun hh => hneg (hn.2 hh)
      unfold charsB at this; simp at this; exact this
    rw [hcs] at h2
    have : ar 6 4 = 0 := by decide
    rw [this] at h2
    have : o.args = [] := List.eq_nil_of_length_eq_zero (by omega)
    rw [this] at hx; simp at hx
theorem argsL_mem {l : List OpM} {x : Int} (h : x ∈ argsL l) : ∃ o ∈ l, x ∈ o.args := by
  unfold argsL at h; simp at h; obtain ⟨_, ⟨a, ha, rfl⟩, hx⟩ := h; exact ⟨a, ha, hx⟩
theorem argsL_len (l : List OpM) (h : ∀ o ∈ l, o.args.length ≤ 64) : (argsL l).length ≤ 64 * l.length := by
  induction l with
  | nil => simp [argsL]
  | cons o l ih =>
    have h1 := h o (by simp)
    have h2 := ih (fun o ho => h o (by simp [ho]))
    unfold argsL at h2 ⊢; simp at h2 ⊢; omega
theorem codesL_length (l : List OpM) : (codesL l).length = l.length := by simp [codesL]
theorem meas_valid {kind : Int} {l : List OpM} (h : validL kind l = true) (hl : l ≠ []) : VP (meas kind l) := by
  obtain ⟨hk, hlen, hv⟩ := (validL_iff kind l).1 h
  have hA : argsL l ≠ [] → (-1048576 ≤ minL (argsL l) ∧ maxL (argsL l) ≤ 1048576 ∧ minL (argsL l) ≤ maxL (argsL l)) ∧ (kind = 6 → 0 ≤ minL (argsL l) ∧ maxL (argsL l) ≤ 255) := by
    intro hne
    obtain ⟨a, b, c⟩ := minmax_in _ hne
    have h1 := (a _ c).1
    obtain ⟨o1, p1, q1⟩ := argsL_mem b
    obtain ⟨o2, p2, q2⟩ := argsL_mem c
    have r1 := validOp_args hk (hv o1 p1) _ q1
    have r2 := validOp_args hk (hv o2 p2) _ q2
    exact ⟨⟨r1.1, r2.2.1, h1⟩, fun h6 => ⟨(r1.2.2 h6).1, (r2.2.2 h6).2⟩⟩
  have hA' : (-1048576 ≤ minL (argsL l) ∧ maxL (argsL l) ≤ 1048576 ∧ minL (argsL l) ≤ maxL (argsL l)) ∧ (kind = 6 → 0 ≤ minL (argsL l) ∧ maxL (argsL l) ≤ 255) := by
    by_cases hne : argsL l = []
    · rw [hne]; simp [minL, maxL]
    · exact hA hne
  refine ⟨hk.1, hk.2, by simp [meas, mWs], hA'.1.1, hA'.1.2.1, hA'.1.2.2, hA'.2, ?_, ?_⟩
  · intro x hx
    simp only [meas, mWs, List.mem_map] at hx
    obtain ⟨i, _, rfl⟩ := hx
    have := cnt_bd ((i : Int) + 1) (codesL l)
    rw [codesL_length] at this
    omega
  · obtain ⟨o, ho⟩ : ∃ o, o ∈ l := List.exists_mem_of_ne_nil l hl
    have hc := validOp_code (hv o ho)
    refine ⟨cnt ((((o.code - 1).toNat : Nat) : Int) + 1) (codesL l), ?_, ?_⟩
    · simp only [meas, mWs, List.mem_map]
      exact ⟨(o.code - 1).toNat, by simp; omega, rfl⟩
    · have e : (((o.code - 1).toNat : Nat) : Int) + 1 = o.code := by omega
      rw [e]
      unfold cnt
      have : o.code ∈ (codesL l).filter (· == o.code) := by simp [codesL]; exact ⟨o, ho, rfl⟩
      have := List.length_pos_of_mem this
      omega
theorem meas_span {p : Prof} (seed : Int) (n : Nat) (h : VP p) : (p.low ≤ minL (argsL (gens p seed n)) ∧ maxL (argsL (gens p seed n)) ≤ p.high) ∨ (minL (argsL (gens p seed n)) = 0 ∧ maxL (argsL (gens p seed n)) = 0) := by
  by_cases hne : argsL (gens p seed n) = []
  · right; rw [hne]; simp [minL, maxL]
  · left
    obtain ⟨a, b, c⟩ := minmax_in _ hne
    have key : ∀ x ∈ argsL (gens p seed n), p.low ≤ x ∧ x ≤ p.high := by
      intro x hx
      obtain ⟨o, ho, hx⟩ := argsL_mem hx
      simp only [gens, List.mem_map] at ho
      obtain ⟨i, _, rfl⟩ := ho
      exact gArgs_bd p seed _ _ h x hx
    exact ⟨(key _ b).1, (key _ c).2⟩
end Go.Proofs.YthpekfpeoglbgaaGreatDoor
