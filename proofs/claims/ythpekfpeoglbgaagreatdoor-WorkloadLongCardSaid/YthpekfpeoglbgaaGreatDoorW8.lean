/- Searches among operations. -/
import Derived.Test.YthpekfpeoglbgaaGreatDoorW4
namespace Go.Proofs.YthpekfpeoglbgaaGreatDoor
open Go.RowKit Go.Hw
set_option linter.unusedVariables false
set_option linter.unusedSimpArgs false

/-- the first true; -1 -/
def idxB : List Bool → Int
  | [] => -1
  | x :: r => if x then 0 else if idxB r < 0 then -1 else idxB r + 1
theorem idxB_any (l : List Bool) : decide (0 ≤ idxB l) = l.any id ∧ -1 ≤ idxB l := by
  induction l with
  | nil => simp [idxB]
  | cons x r ih =>
    obtain ⟨h1, h2⟩ := ih
    unfold idxB
    cases x with
    | true => simp
    | false =>
      simp only [List.any_cons, id, Bool.false_or]
      rw [← h1]
      by_cases h : idxB r < 0
      · simp [h]
      · simp [h]; omega
theorem idxB_step (l : List Bool) (k : Nat) (h : ∀ j, j < k → l.getD j false = false) (hk : k < l.length) (hp : l.getD k false = true) : idxB l = k := by
  induction l generalizing k with
  | nil => simp at hk
  | cons x r ih =>
    unfold idxB
    cases k with
    | zero => simp at hp; simp [hp]
    | succ k =>
      have h0 := h 0 (by omega)
      simp at h0
      have := ih k (fun j hj => by have := h (j + 1) (by omega); simpa using this) (by simpa using hk) (by simpa using hp)
      simp [h0, this]; omega
theorem idxB_none (l : List Bool) (h : ∀ j, j < l.length → l.getD j false = false) : idxB l = -1 := by
  induction l with
  | nil => rfl
  | cons x r ih =>
    have h0 := h 0 (by simp)
    simp at h0
    have := ih (fun j hj => by have := h (j + 1) (by simpa using hj); simpa using this)
    unfold idxB
    simp [h0, this]
def opB (p : OpM → Bool) (l : List OpV) : List Bool := l.map fun o => p o.op
theorem opB_get (p : OpM → Bool) (l : List OpV) (j : Nat) (h : j < l.length) : (opB p l).getD j false = p (l.getD j .zero).op := by simp [opB, h]
theorem opB_length (p : OpM → Bool) (l : List OpV) : (opB p l).length = l.length := by simp [opB]
theorem opB_any (p : OpM → Bool) (l : List OpV) : (opB p l).any id = l.any fun o => p o.op := by simp [opB, List.any_map, Function.comp_def]
theorem OpsR.shape {S : Nat → Prop} {w : World} {v : Value} {l : List OpV} (h : OpsR S w v l) : ∃ a cap, v = .slice a l.length cap := h.row.shape
theorem OpsR.shapeAt {S : Nat → Prop} {w : World} {v : Value} {l : List OpV} (h : OpsR S w v l) {i : Nat} (hi : i < l.length) : ∃ a cap, (l.getD i .zero).v = .slice a (l.getD i .zero).op.args.length cap := (h.arg _ (getD_mem hi)).shape

set_option maxHeartbeats 1000000 in
theorem idx_op0 (k : FuncId) (p : OpM → Bool) (S : Nat → Prop) (v : Value) (l : List OpV) (w : World) (h : OpsR S w v l) (hl : l.length ≤ 100000000)
    (hen : ∀ args W, Sem.run Tryz.prog (callFunc k args) W = .ok (.enter k args) W)
    (hp : ∀ o ∈ l, ∀ W, Ext w W → Calls Tryz.prog k #[.agg #[.int .i64 o.op.code, o.v]] W fun e w' => e = .returned (.bool (p o.op)) ∧ Ext W w') :
    Calls Tryz.prog 61 #[v, .func (.func k) #[] #[]] w fun e w' => e = .returned (.int .i64 (idxB (opB p l))) ∧ Ext w w' := by
  obtain ⟨a, cap, hv⟩ := h.shape
  subst hv
  have HN := Lib.hid h
  have HP := Lib.hid hp
  obtain ⟨R, hR⟩ : ∃ R, R = idxB (opB p l) := ⟨_, rfl⟩
  rw [← hR]
  have HR := Lib.hid hR
  clear h hp hR
  go_enter Tryz.func61, Tryz.ntmps61
  go_wp2_with fail
  go_loopg [5, 8] l.length (fun gk s5 i wr => ∃ j : Nat, i = .int .i64 j ∧ gk = l.length - j ∧ j ≤ l.length ∧ Hid (∀ i, i < j → (opB p l).getD i false = false) ∧ Hid (Ext w wr))
  case atStart => exact ⟨0, rfl, rfl, Nat.zero_le _, fun i h => absurd h (Nat.not_lt_zero _), Upd.refl _ _⟩
  case round =>
    obtain ⟨j, rfl, rfl, hj, Hj, HE⟩ := hrel
    by_cases hlt : j < l.length
    · obtain ⟨g, off, cap', hv, hc, hg, c0, c1, _⟩ := (HN.out.kept HE.out (fun _ _ h => h)).at hlt
      injection hv with e1 e2 e3
      subst e1; subst e3
      have HC := Lib.hid (HP.out _ (getD_mem hlt) wr HE.out)
      obtain ⟨a2, cap2, hv2⟩ := HN.out.shapeAt hlt
      have i0' : (0 : Int) ≤ (j : Int) := by omega
      have i1' : (j : Int) < (l.length : Int) := by omega
      have Hs := Lib.hid (idxB_step (opB p l) j Hj.out (by rw [opB_length]; exact hlt))
      rw [opB_get p l j hlt] at Hs
      have HJ : Hid (p (l.getD j .zero).op = false → ∀ i, i < j + 1 → (opB p l).getD i false = false) := fun h i hi => by
        by_cases e : i = j
        · subst e; rw [opB_get p l i hlt]; exact h
        · exact Hj.out i (by omega)
      have hsz := HE.out.size
      rw [hv2] at c1 HC
      clear hg e2 hc hv2
      cases hpx : p (l.getD j .zero).op with
      | true =>
        rw [hpx] at HC
        obtain rfl : R = j := HR.out.trans (Hs.out hpx)
        clear hpx HR Hs
        generalize (l.getD j .zero).op.code = X at *
        generalize (l.getD j .zero).op.args.length = Y at *
        go_wp2_with fail
        refine HC.out.mono ?_
        rintro e w2 ⟨rfl, h2⟩
        have H2 := Lib.hid (HE.out.ext h2)
        clear h2
        go_wp2_with fail
        go_ret
        exact ⟨rfl, H2.out⟩
      | false =>
        rw [hpx] at HC
        have HJ2 := Lib.hid (HJ.out hpx)
        clear hpx Hs HJ
        generalize (l.getD j .zero).op.code = X at *
        generalize (l.getD j .zero).op.args.length = Y at *
        go_wp2_with fail
        refine HC.out.mono ?_
        rintro e w2 ⟨rfl, h2⟩
        have H2 := Lib.hid (HE.out.ext h2)
        clear h2
        go_wp2_with fail
        go_roundg (l.length - (j + 1))
        case measure => omega
        case rel => exact ⟨j + 1, by go_num, rfl, by omega, HJ2, H2⟩
    · obtain rfl : R = -1 := HR.out.trans (idxB_none _ (fun i hi => Hj.out i (by rw [opB_length] at hi; omega)))
      clear HR
      go_wp2_with fail
      go_ret
      exact ⟨rfl, HE.out⟩

theorem con_op0 (k : FuncId) (p : OpM → Bool) (S : Nat → Prop) (v : Value) (l : List OpV) (w : World) (h : OpsR S w v l) (hl : l.length ≤ 100000000)
    (hen : ∀ args W, Sem.run Tryz.prog (callFunc k args) W = .ok (.enter k args) W)
    (hp : ∀ o ∈ l, ∀ W, Ext w W → Calls Tryz.prog k #[.agg #[.int .i64 o.op.code, o.v]] W fun e w' => e = .returned (.bool (p o.op)) ∧ Ext W w') :
    Calls Tryz.prog 33 #[v, .func (.func k) #[] #[]] w fun e w' => e = .returned (.bool (l.any fun o => p o.op)) ∧ Ext w w' := by
  have C := idx_op0 k  p S v l w h hl hen hp
  have hb := idxB_any (opB p l)
  rw [← opB_any, ← hb.1]
  replace hb := hb.2
  generalize idxB (opB p l) = r at *
  obtain ⟨a, cap, hv⟩ := h.shape
  subst hv
  have HC := Lib.hid C
  clear C h hp
  go_enter Tryz.func33, Tryz.ntmps33
  go_wp2_with fail
  refine HC.out.mono ?_
  rintro e w2 ⟨rfl, h2⟩
  have H2 := Lib.hid h2
  clear h2
  go_wp2_with fail
  go_ret
  exact ⟨rfl, H2.out⟩

set_option maxHeartbeats 1000000 in
theorem idx_op1 (k : FuncId) (pc : Value) (p : OpM → Bool) (S : Nat → Prop) (v : Value) (l : List OpV) (w : World) (h : OpsR S w v l) (hl : l.length ≤ 100000000)
    (hen : ∀ args W, Sem.run Tryz.prog (callFunc k args) W = .ok (.enter k args) W)
    (hp : ∀ o ∈ l, ∀ W, Ext w W → Calls Tryz.prog k #[.agg #[.int .i64 o.op.code, o.v], pc] W fun e w' => e = .returned (.bool (p o.op)) ∧ Ext W w') :
    Calls Tryz.prog 61 #[v, .func (.func k) #[] #[pc]] w fun e w' => e = .returned (.int .i64 (idxB (opB p l))) ∧ Ext w w' := by
  obtain ⟨a, cap, hv⟩ := h.shape
  subst hv
  have HN := Lib.hid h
  have HP := Lib.hid hp
  obtain ⟨R, hR⟩ : ∃ R, R = idxB (opB p l) := ⟨_, rfl⟩
  rw [← hR]
  have HR := Lib.hid hR
  clear h hp hR
  go_enter Tryz.func61, Tryz.ntmps61
  go_wp2_with fail
  go_loopg [5, 8] l.length (fun gk s5 i wr => ∃ j : Nat, i = .int .i64 j ∧ gk = l.length - j ∧ j ≤ l.length ∧ Hid (∀ i, i < j → (opB p l).getD i false = false) ∧ Hid (Ext w wr))
  case atStart => exact ⟨0, rfl, rfl, Nat.zero_le _, fun i h => absurd h (Nat.not_lt_zero _), Upd.refl _ _⟩
  case round =>
    obtain ⟨j, rfl, rfl, hj, Hj, HE⟩ := hrel
    by_cases hlt : j < l.length
    · obtain ⟨g, off, cap', hv, hc, hg, c0, c1, _⟩ := (HN.out.kept HE.out (fun _ _ h => h)).at hlt
      injection hv with e1 e2 e3
      subst e1; subst e3
      have HC := Lib.hid (HP.out _ (getD_mem hlt) wr HE.out)
      obtain ⟨a2, cap2, hv2⟩ := HN.out.shapeAt hlt
      have i0' : (0 : Int) ≤ (j : Int) := by omega
      have i1' : (j : Int) < (l.length : Int) := by omega
      have Hs := Lib.hid (idxB_step (opB p l) j Hj.out (by rw [opB_length]; exact hlt))
      rw [opB_get p l j hlt] at Hs
      have HJ : Hid (p (l.getD j .zero).op = false → ∀ i, i < j + 1 → (opB p l).getD i false = false) := fun h i hi => by
        by_cases e : i = j
        · subst e; rw [opB_get p l i hlt]; exact h
        · exact Hj.out i (by omega)
      have hsz := HE.out.size
      rw [hv2] at c1 HC
      clear hg e2 hc hv2
      cases hpx : p (l.getD j .zero).op with
      | true =>
        rw [hpx] at HC
        obtain rfl : R = j := HR.out.trans (Hs.out hpx)
        clear hpx HR Hs
        generalize (l.getD j .zero).op.code = X at *
        generalize (l.getD j .zero).op.args.length = Y at *
        go_wp2_with fail
        refine HC.out.mono ?_
        rintro e w2 ⟨rfl, h2⟩
        have H2 := Lib.hid (HE.out.ext h2)
        clear h2
        go_wp2_with fail
        go_ret
        exact ⟨rfl, H2.out⟩
      | false =>
        rw [hpx] at HC
        have HJ2 := Lib.hid (HJ.out hpx)
        clear hpx Hs HJ
        generalize (l.getD j .zero).op.code = X at *
        generalize (l.getD j .zero).op.args.length = Y at *
        go_wp2_with fail
        refine HC.out.mono ?_
        rintro e w2 ⟨rfl, h2⟩
        have H2 := Lib.hid (HE.out.ext h2)
        clear h2
        go_wp2_with fail
        go_roundg (l.length - (j + 1))
        case measure => omega
        case rel => exact ⟨j + 1, by go_num, rfl, by omega, HJ2, H2⟩
    · obtain rfl : R = -1 := HR.out.trans (idxB_none _ (fun i hi => Hj.out i (by rw [opB_length] at hi; omega)))
      clear HR
      go_wp2_with fail
      go_ret
      exact ⟨rfl, HE.out⟩

theorem con_op1 (k : FuncId) (pc : Value) (p : OpM → Bool) (S : Nat → Prop) (v : Value) (l : List OpV) (w : World) (h : OpsR S w v l) (hl : l.length ≤ 100000000)
    (hen : ∀ args W, Sem.run Tryz.prog (callFunc k args) W = .ok (.enter k args) W)
    (hp : ∀ o ∈ l, ∀ W, Ext w W → Calls Tryz.prog k #[.agg #[.int .i64 o.op.code, o.v], pc] W fun e w' => e = .returned (.bool (p o.op)) ∧ Ext W w') :
    Calls Tryz.prog 33 #[v, .func (.func k) #[] #[pc]] w fun e w' => e = .returned (.bool (l.any fun o => p o.op)) ∧ Ext w w' := by
  have C := idx_op1 k pc p S v l w h hl hen hp
  have hb := idxB_any (opB p l)
  rw [← opB_any, ← hb.1]
  replace hb := hb.2
  generalize idxB (opB p l) = r at *
  obtain ⟨a, cap, hv⟩ := h.shape
  subst hv
  have HC := Lib.hid C
  clear C h hp
  go_enter Tryz.func33, Tryz.ntmps33
  go_wp2_with fail
  refine HC.out.mono ?_
  rintro e w2 ⟨rfl, h2⟩
  have H2 := Lib.hid h2
  clear h2
  go_wp2_with fail
  go_ret
  exact ⟨rfl, H2.out⟩

/-- few's test -/
theorem clo43_any (o : OpM) (v : Value) (w : World) (S : Nat → Prop) (h : NumR S w v o.args) : Calls Tryz.prog 34 #[.agg #[.int .i64 o.code, v]] w fun e w' => e = .returned (.bool (decide ((70 : Int) < o.args.length))) ∧ Ext w w' := by
  obtain ⟨a, cap, hv⟩ := h.shape
  subst hv
  clear h
  generalize o.args.length = m at *
  go_enter Tryz.func34, Tryz.ntmps34
  go_wp2_with fail
  go_ret
  exact ⟨rfl, (Upd.refl _ w).alloc _⟩
/-- Valid's test -/
theorem clo49_any (kind : Int) (o : OpM) (v : Value) (w : World) (S : Nat → Prop) (h : NumR S w v o.args) (hl : o.args.length ≤ 100000000) (g : Nat) (hg : w.heap[g]? = some (.cells #[.int .i64 kind] 3)) :
    Calls Tryz.prog 36 #[.agg #[.int .i64 o.code, v], .pointer (some ⟨g, 0, none⟩)] w fun e w' => e = .returned (.bool (!validOp kind o)) ∧ Ext w w' := by
  obtain ⟨a, cap, hv⟩ := h.shape
  subst hv
  have c0 : w.cell? ⟨g, 0, none⟩ = some (.int .i64 kind) := cellRow hg 0 _ rfl
  have hgl : g < w.heap.size := (Array.getElem?_eq_some_iff.1 hg).1
  have hu : Ext w (w.alloc (.cells #[.int .i64 o.code, .slice a o.args.length cap] 40)) := (Upd.refl _ w).alloc _
  have HC := Lib.hid (vop_any kind o _ (w.alloc (.cells #[.int .i64 o.code, .slice a o.args.length cap] 40)) S (h.kept hu (fun _ _ h => h)) hl)
  have HU := Lib.hid hu
  clear h hg hu hl
  generalize validOp kind o = B at *
  generalize o.args.length = m at *
  generalize o.code = c at *
  go_enter Tryz.func36, Tryz.ntmps36
  go_wp2_with fail
  refine HC.out.mono ?_
  rintro e w2 ⟨rfl, h2⟩
  have H2 := Lib.hid (HU.out.ext h2)
  clear h2
  go_wp2_with fail
  go_ret
  exact ⟨rfl, H2.out⟩

theorem all_not (p : OpM → Bool) (l : List OpV) : (!(l.any fun o => !p o.op)) = (l.map (·.op)).all p := by
  induction l with
  | nil => rfl
  | cons x r ih => simp at ih ⊢; rw [ih]; simp
def opsL (l : List OpV) : List OpM := l.map (·.op)
theorem opsL_length (l : List OpV) : (opsL l).length = l.length := by simp [opsL]
theorem OpsR.len {S : Nat → Prop} {w : World} {v : Value} {l : List OpV} (h : OpsR S w v l) : True := trivial

/-- workload.Valid -/
theorem valid_any (kind : Int) (v : Value) (l : List OpV) (w : World) (S : Nat → Prop) (h : OpsR S w v l) (hl : l.length ≤ 100000000) (ha : ∀ o ∈ l, o.op.args.length ≤ 100000000) :
    Calls Tryz.prog 14 #[.int .i64 kind, v] w fun e w' => e = .returned (.bool (validL kind (opsL l))) ∧ Ext w w' := by
  obtain ⟨a, cap, hv⟩ := h.shape
  subst hv
  obtain ⟨R, hR⟩ : ∃ R, R = validL kind (opsL l) := ⟨_, rfl⟩
  rw [← hR]
  have HR : Hid (R = (knownB kind && decide (l.length ≤ 2000) && (opsL l).all (validOp kind))) := by rw [hR]; unfold validL; rw [opsL_length]; rfl
  clear hR
  have hu : Ext w (w.alloc (.cells #[.int .i64 kind] 3)) := (Upd.refl _ w).alloc _
  have hb : (w.alloc (.cells #[.int .i64 kind] 3)).heap[w.heap.size]? = some (.cells #[.int .i64 kind] 3) := alloc0 _ _
  have HK := Lib.hid (known_any kind (w.alloc (.cells #[.int .i64 kind] 3)))
  have HC : Hid (∀ W, Ext (w.alloc (.cells #[.int .i64 kind] 3)) W → Calls Tryz.prog 33 #[.slice a l.length cap, .func (.func 36) #[] #[.pointer (some ⟨w.heap.size, 0, none⟩)]] W fun e w' => e = .returned (.bool (l.any fun o => !validOp kind o.op)) ∧ Ext W w') := by
    intro W hW
    have hR := (h.kept hu (fun _ _ h => h)).kept hW (fun _ _ h => h)
    refine con_op1 36 _ (fun o => !validOp kind o) S _ l W hR hl Tryz.call36 (fun o ho W' hW' => ?_)
    exact clo49_any kind o.op o.v W' S ((hR.arg o ho).kept hW' (fun _ _ h => h)) (ha o ho) w.heap.size (hW'.heap (hW.heap hb (fun h => h)) (fun h => h))
  have HA := Lib.hid (all_not (validOp kind) l)
  have HU := Lib.hid hu
  clear h ha hu hb
  generalize (l.any fun o => !validOp kind o.op) = A1 at *
  cases hk : knownB kind with
  | false =>
    rw [hk] at HK HR
    obtain rfl : R = false := by rw [HR.out]; rfl
    clear HR hk
    go_enter Tryz.func14, Tryz.ntmps14
    go_wp2_with fail
    refine HK.out.mono ?_
    rintro e w2 ⟨rfl, h2⟩
    have H2 := Lib.hid (HU.out.ext h2)
    clear h2
    go_wp2_with fail
    go_ret
    exact ⟨rfl, H2.out⟩
  | true =>
    rw [hk] at HK HR
    clear hk
    by_cases h2 : l.length ≤ 2000
    · have hr : R = !A1 := by rw [HR.out, HA.out]; simp [h2, opsL]
      subst hr
      clear HR
      go_enter Tryz.func14, Tryz.ntmps14
      go_wp2_with fail
      refine HK.out.mono ?_
      rintro e w2 ⟨rfl, h2⟩
      have H2 := Lib.hid h2
      clear h2
      go_wp2_with fail
      refine (HC.out _ H2.out).mono ?_
      rintro e w3 ⟨rfl, h3⟩
      have H3 := Lib.hid ((HU.out.ext H2.out).ext h3)
      clear h3
      go_wp2_with fail
      go_ret
      exact ⟨rfl, H3.out⟩
    · obtain rfl : R = false := by rw [HR.out]; simp [h2]
      clear HR
      go_enter Tryz.func14, Tryz.ntmps14
      go_wp2_with fail
      refine HK.out.mono ?_
      rintro e w2 ⟨rfl, h2⟩
      have H2 := Lib.hid (HU.out.ext h2)
      clear h2
      go_wp2_with fail
      go_ret
      exact ⟨rfl, H2.out⟩

/-- what the laws take -/
def fewB (l : List OpM) (n : Int) : Bool := (decide ((l.length : Int) ≤ n) || decide (2000 < l.length ∧ l.length < 2005)) && l.all fun o => decide (o.args.length ≤ 70)
set_option maxRecDepth 100000 in
theorem few_any (n : Int) (v : Value) (l : List OpV) (w : World) (S : Nat → Prop) (h : OpsR S w v l) (hn : n ≤ 2000) (hl : l.length ≤ maxLen) :
    Calls Tryz.prog 13 #[v, .int .i64 n] w fun e w' => e = .returned (.bool (fewB (opsL l) n)) ∧ Ext w w' := by
  obtain ⟨a, cap, hv⟩ := h.shape
  subst hv
  obtain ⟨R, hR⟩ : ∃ R, R = fewB (opsL l) n := ⟨_, rfl⟩
  rw [← hR]
  have HR : Hid (R = ((decide ((l.length : Int) ≤ n) || decide (2000 < l.length ∧ l.length < 2005)) && (opsL l).all fun o => decide (o.args.length ≤ 70))) := by rw [hR]; unfold fewB; rw [opsL_length]; rfl
  clear hR
  have hp : ∀ o : OpM, (!decide ((70 : Int) < o.args.length)) = decide (o.args.length ≤ 70) := by
    intro o
    by_cases h : o.args.length ≤ 70
    · simp [h]; omega
    · simp [h]; omega
  have HA : Hid ((!(l.any fun o => decide ((70 : Int) < o.op.args.length))) = (opsL l).all fun o => decide (o.args.length ≤ 70)) := by
    have := all_not (fun o : OpM => decide (o.args.length ≤ 70)) l
    simp only [← hp, Bool.not_not] at this
    simp only [← hp]
    exact this
  have HC : Hid (l.length ≤ 100000000 → Calls Tryz.prog 33 #[.slice a l.length cap, .func (.func 34) #[] #[]] w fun e w' => e = .returned (.bool (l.any fun o => decide ((70 : Int) < o.op.args.length))) ∧ Ext w w') := by
    intro h8
    exact con_op0 34 (fun o => decide ((70 : Int) < o.args.length)) S _ l w h h8 Tryz.call34 (fun o ho W' hW' => clo43_any o.op o.v W' S ((h.arg o ho).kept hW' (fun _ _ h => h)))
  clear h hp
  generalize (l.any fun o => decide ((70 : Int) < o.op.args.length)) = A1 at *
  unfold maxLen at hl
  by_cases h1 : (l.length : Int) ≤ n
  · have hr : R = !A1 := by rw [HR.out, HA.out]; simp [h1]
    subst hr
    have C := HC.out (by omega)
    have HC2 := Lib.hid C
    clear HR C HC hl
    go_enter Tryz.func13, Tryz.ntmps13
    go_wp2_with fail
    refine HC2.out.mono ?_
    rintro e w2 ⟨rfl, h2⟩
    have H2 := Lib.hid h2
    clear h2
    go_wp2_with fail
    go_ret
    exact ⟨rfl, H2.out⟩
  · have t1 : decide ((l.length : Int) ≤ n) = false := by simpa using h1
    by_cases h2 : 2000 < l.length
    · have t2 : decide ((2000 : Int) < l.length) = true := by simp; omega
      by_cases h3 : l.length < 2005
      · have hr : R = !A1 := by rw [HR.out, HA.out]; simp [h2, h3]
        subst hr
        have C := HC.out (by omega)
        have t3 : decide ((l.length : Int) < 2005) = true := by simp; omega
        have HC2 := Lib.hid C
        clear HR C HC hl h1 h2 h3
        go_enter Tryz.func13, Tryz.ntmps13
        go_wp2_with fail
        refine HC2.out.mono ?_
        rintro e w2 ⟨rfl, h2⟩
        have H2 := Lib.hid h2
        clear h2
        go_wp2_with fail
        go_ret
        exact ⟨rfl, H2.out⟩
      · obtain rfl : R = false := by rw [HR.out]; simp [h1, h3]
        have t3 : decide ((l.length : Int) < 2005) = false := by simp; omega
        clear HR h1 h2 h3
        go_enter Tryz.func13, Tryz.ntmps13
        go_wp2_with fail
        go_ret
        exact ⟨rfl, Upd.refl _ _⟩
    · obtain rfl : R = false := by rw [HR.out]; simp [h1, h2]
      have t2 : decide ((2000 : Int) < l.length) = false := by simp; omega
      clear HR h1 h2
      go_enter Tryz.func13, Tryz.ntmps13
      go_wp2_with fail
      go_ret
      exact ⟨rfl, Upd.refl _ _⟩

end Go.Proofs.YthpekfpeoglbgaaGreatDoor
