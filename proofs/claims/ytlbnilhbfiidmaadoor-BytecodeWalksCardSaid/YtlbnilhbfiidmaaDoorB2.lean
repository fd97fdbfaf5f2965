/- The parts of head. -/
import Derived.Test.YtlbnilhbfiidmaaDoorB1
namespace Go.Proofs.YtlbnilhbfiidmaaDoor
open Go.RowKit Go.Hw
set_option linter.unusedVariables false
set_option linter.unusedSimpArgs false

theorem ext_of {w w' : World} (h : Below w.heap.size w w') : Ext w w' := ⟨h.os, h.tape, h.output, h.size, fun k hk _ => h.block k hk⟩
theorem ext_drew {w w' : World} (h : ∃ q, w' = w.drewN q) : Ext w w' := by obtain ⟨q, rfl⟩ := h; exact (Upd.refl _ w).drewN' _
theorem enters (f : FuncId) (fn : Func) (cd : Code) (hf : Tryd.prog.funcs[f]? = some fn) (hname : (fn.name == "runtime.NumGoroutine") = false) (hb : fn.body = some cd) (args : Array Value) (w : World) : (callFunc f args).run Tryd.prog w = .ok (.enter f args) w := enters_of hf hname hb args w
/-- head's first test -/
theorem clo24 (n : Int) (w : World) : Calls Tryd.prog 24 #[.int .i64 n] w fun e w' => e = .returned (.bool (!fldB n)) ∧ w' = w := by
  by_cases p1 : n < 0
  · rw [show fldB n = false by unfold fldB; exact decide_eq_false (by omega)]
    go_enter Tryd.func24, Tryd.ntmps24
    go_wp2_with fail
    go_ret
    exact ⟨rfl, rfl⟩
  · by_cases p2 : 12 < n
    · rw [show fldB n = false by unfold fldB; exact decide_eq_false (by omega)]
      go_enter Tryd.func24, Tryd.ntmps24
      go_wp2_with fail
      go_ret
      exact ⟨rfl, rfl⟩
    · rw [show fldB n = true by unfold fldB; exact decide_eq_true (by omega)]
      go_enter Tryd.func24, Tryd.ntmps24
      go_wp2_with fail
      go_ret
      exact ⟨rfl, rfl⟩
theorem any_not {α : Type} (p : α → Bool) (l : List α) : (l.any fun x => !p x) = !l.all p := by
  induction l with
  | nil => rfl
  | cons x r ih => simp only [List.any_cons, List.all_cons, ih, Bool.not_and]
/-- the fields' test -/
theorem flds_x (a fv : Value) (c : Cd) (w : World) (h : CdR w a fv c) : Calls Tryd.prog 23 #[a, .func (.func 24) #[] #[]] w fun e w' => e = .returned (.bool (!c.fields.all fldB)) ∧ Ext w w' := by
  have hl := h.l1
  rcases Nat.eq_zero_or_pos c.fields.length with h0 | h0
  · have e0 : c.fields = [] := List.eq_nil_of_length_eq_zero h0
    obtain ⟨x, cap, hv⟩ := h.flds.shape
    rw [hv, e0]
    exact (Tryd.slices_ContainsFunc_empty (α := Int) x cap _ w).mono fun e w' ⟨h1, h2⟩ => ⟨h1, h2 ▸ Upd.refl _ _⟩
  · obtain ⟨g, off, cap, hv, hc, _⟩ := h.fld h0
    rw [hv]
    refine (Tryd.slices_ContainsFunc (α := Int) (.int .i64) (fun n => !fldB n) 24 #[] (fun args w => enters 24 _ _ Tryd.func24 (by kernel_rfl) rfl args w) g off c.fields.length cap c.fields w ?_ (Nat.le_refl _) (by omega) ?_).mono ?_
    · intro W x _
      exact (clo24 x W).mono fun e w' ⟨h1, h2⟩ => ⟨h1, 0, h2⟩
    · intro j hj
      obtain ⟨g', off', cap', hv', _, hc'⟩ := h.fld hj
      rw [hv] at hv'
      injection hv' with e1 _ _
      injection e1 with e1
      injection e1 with e1 e2 _
      subst e1; subst e2
      rw [hc']; simp [hj]
    · rintro e w' ⟨rfl, hq⟩
      rw [List.take_length, any_not]
      exact ⟨rfl, ext_drew hq⟩
theorem get!_getD (l : List Fn) (j : Nat) : l[j]! = l.getD j default := by
  rw [List.getElem!_eq_getElem?_getD]; rfl
theorem CdR.row5 {w : World} {a fv : Value} {c : Cd} (h : CdR w a fv c) {g off cap : Nat} (hv : fv = .slice (some ⟨g, off, none⟩) c.funcs.length cap) : ∀ j, j < c.funcs.length → ∀ i v, (fnCells c.funcs[j]!)[i]? = some v → w.cell? ⟨g, off + j * 5 + i, none⟩ = some v := by
  intro j hj i v hi
  obtain ⟨g', off', cap', hv', _, c0, c1, c2, c3, c4, _⟩ := h.at hj
  rw [hv] at hv'
  injection hv' with e1 _ _
  injection e1 with e1
  injection e1 with e1 e2 _
  subst e1; subst e2
  rw [get!_getD] at hi
  match i, hi with
  | 0, hi => rw [← hi]; exact c0
  | 1, hi => rw [← hi]; exact c1
  | 2, hi => rw [← hi]; exact c2
  | 3, hi => rw [← hi]; exact c3
  | 4, hi => rw [← hi]; exact c4
  | i + 5, hi => exact absurd hi (by simp [fnCells])
/-- head's second test -/
theorem clo27 (x : Fn) (B : Nat) (nm : ByteArray) (w : World) (hB : w.cell? ⟨B, 0, none⟩ = some (.string nm)) : Calls Tryd.prog 27 #[.agg (fnCells x).toArray, .pointer (some ⟨B, 0, none⟩)] w fun e w' => e = .returned (.bool (decide (x.name = nm))) ∧ Ext w w' := by
  obtain ⟨n1, p1, l1, r1, _, v1⟩ := x
  have hlt : B < w.heap.size := World.block_lt_of_cell? _ _ hB
  have e : ∀ y, (n1.toList == nm.toList) = y → decide (n1 = nm) = y := fun y h => by
    rw [← h]
    by_cases q : n1 = nm
    · rw [(Lib.bytes_beq_iff _ _).2 q, decide_eq_true q]
    · rw [(Lib.bytes_beq_false_iff _ _).2 q, decide_eq_false q]
  obtain ⟨y, hy⟩ : ∃ y, (n1.toList == nm.toList) = y := ⟨_, rfl⟩
  show Calls _ _ #[.agg #[.string n1, .int .i64 p1, .int .i64 l1, .bool r1, v1], .pointer (some ⟨B, 0, none⟩)] _ _
  rw [e y hy]
  have HY := Lib.hid hy
  clear e hy
  go_enter Tryd.func27, Tryd.ntmps27
  go_wp2_with fail
  rw [HY.out]
  go_ret
  exact ⟨rfl, (Upd.refl _ w).alloc _⟩
theorem tw_x (a fv : Value) (c : Cd) (w : World) (h : CdR w a fv c) (j : Nat) (hj : j < c.funcs.length) (g off cap : Nat) (hv : fv = .slice (some ⟨g, off, none⟩) c.funcs.length cap) (B : Nat) (hB : w.cell? ⟨B, 0, none⟩ = some (.string (c.funcs.getD j default).name)) :
    Calls Tryd.prog 26 #[.slice (some ⟨g, off, none⟩) j cap, .func (.func 27) #[] #[.pointer (some ⟨B, 0, none⟩)]] w fun e w' => e = .returned (.bool (twB c.funcs j)) ∧ Ext w w' := by
  have hl := h.l2
  have hr := h.row5 hv
  have hBl : B < w.heap.size := World.block_lt_of_cell? _ _ hB
  have hg : g < w.heap.size := World.block_lt_of_cell? _ _ (hr j hj 0 _ rfl)
  refine (Tryd.slices_ContainsFunc_f26 (α := Fn) 5 (fun w => by kernel_rfl) (fun w => by kernel_rfl) fnCells (fun _ => rfl) (fun x => decide (x.name = (c.funcs.getD j default).name)) 27 #[.pointer (some ⟨B, 0, none⟩)] (fun args w => enters 27 _ _ Tryd.func27 (by kernel_rfl) rfl args w) g off j cap c.funcs w ?_ (by omega) (by omega) hg hr).mono ?_
  · intro W x hW
    have hB' : W.cell? ⟨B, 0, none⟩ = some (.string (c.funcs.getD j default).name) := (hW.cell (p := ⟨B, 0, none⟩) hBl).trans hB
    refine (clo27 x B _ W hB').mono fun e w' ⟨h1, h2⟩ => ⟨h1, ?_⟩
    exact hW.trans (h2.below.mono hW.size)
  · rintro e w' ⟨rfl, hq⟩
    exact ⟨rfl, ext_of hq⟩

end Go.Proofs.YtlbnilhbfiidmaaDoor
