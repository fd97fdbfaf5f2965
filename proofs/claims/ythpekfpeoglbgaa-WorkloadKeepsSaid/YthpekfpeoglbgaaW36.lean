/- Keeps: the test of an argument. -/
import Derived.Test.YthpekfpeoglbgaaW26
namespace Go.Proofs.Ythpekfpeoglbgaa
open Go.RowKit Go.Hw
set_option linter.unusedVariables false
set_option linter.unusedSimpArgs false

set_option maxHeartbeats 400000 in
theorem clo28_any (x lo hi : Int) (b : Nat) (w : World) (c2 : w.cell? ⟨b, 2, none⟩ = some (.int .i64 lo)) (c3 : w.cell? ⟨b, 3, none⟩ = some (.int .i64 hi)) (h1 : lo ≤ x) (h2 : x ≤ hi) :
    Calls Try.prog 28 #[.int .i64 x, .pointer (some ⟨b, 0, none⟩)] w fun e w' => e = .returned (.bool false) ∧ w = w' := by
  have t1 : decide (x < lo) = false := by simp; omega
  have t2 : decide (hi < x) = false := by simp; omega
  go_enter Try.func28, Try.ntmps28
  go_wp2_with fail
  go_ret
  exact ⟨rfl, rfl⟩
section
variable {P : Program} {w : World}
/-- x[:h] -/
theorem wpList_slice_h {ops : Array Oper} {rest : List Oper} {o : Oper} {a : Act} {Q : Exit → Act → World → Prop} (hgd : Region.wanted o (yielded ops a.tmps) = true) (t : TypeId) (x h : Operand)
    (ho : o.op = .slice t x none (some h) none) (size : Nat) (ht : P.underlying t = some (.slice (P.elem t))) (hsz : ∀ w, (sizeOf (P.elem t)).run P w = .ok size w)
    (ad : Option Addr) (n cap : Nat) (hx : a.eval x = .slice ad n cap) (kh : IntKind) (j : Nat) (hh : a.eval h = .int kh (j : Int)) (hj : j ≤ cap)
    (hn : wpList P ops Q rest (a.put o.dst (sliced ad 0 j cap size)) w) : wpList P ops Q (o :: rest) a w := by
  unfold wpList
  rw [if_pos hgd]
  left
  unfold Oper.wp execOp
  have hr := run_slice_h (P := P) w t ad n cap ht kh (j : Int) (by omega) (by omega)
  simp only [hsz, Result.andThen_ok, Int.toNat_natCast] at hr
  simp only [ho, run_sliceAt_slice (P := P) w t _ _ _ _ ht, Sem.run_bind, Sem.run_pure, Result.andThen_ok, Option.map_some, Option.map_none, hx, hh, hr]
  exact hn
end
set_option maxHeartbeats 1000000 in
theorem idx_int1 (k : FuncId) (pc : Value) (p : Int → Bool) (S : Nat → Prop) (v : Value) (l : List Int) (w : World) (h : NumR S w v l) (hl : l.length ≤ 100000000)
    (hen : ∀ args W, Sem.run Try.prog (callFunc k args) W = .ok (.enter k args) W)
    (hp : ∀ x ∈ l, ∀ W, Ext w W → Calls Try.prog k #[.int .i64 x, pc] W fun e w' => e = .returned (.bool (p x)) ∧ Ext W w') :
    Calls Try.prog 51 #[v, .func (.func k) #[] #[pc]] w fun e w' => e = .returned (.int .i64 (idxP p l)) ∧ Ext w w' := by
  obtain ⟨a, cap, hv⟩ := h.shape
  subst hv
  have HN := Lib.hid h
  have HP := Lib.hid hp
  obtain ⟨R, hR⟩ : ∃ R, R = idxP p l := ⟨_, rfl⟩
  rw [← hR]
  have HR := Lib.hid hR
  clear h hp hR
  go_enter Try.func51, Try.ntmps51
  go_wp2_with fail
  go_loopg [5, 8] l.length (fun gk s5 i wr => ∃ j : Nat, i = .int .i64 j ∧ gk = l.length - j ∧ j ≤ l.length ∧ Hid (∀ i, i < j → p (l.getD i 0) = false) ∧ Hid (Ext w wr))
  case atStart => exact ⟨0, rfl, rfl, Nat.zero_le _, fun i h => absurd h (Nat.not_lt_zero _), Upd.refl _ _⟩
  case round =>
    obtain ⟨j, rfl, rfl, hj, Hj, HE⟩ := hrel
    by_cases hlt : j < l.length
    · obtain ⟨g, off, cap', hv, hc, hg, hc'⟩ := (HN.out.kept HE.out (fun _ _ h => h)).pos (by omega)
      injection hv with e1 e2 e3
      subst e1; subst e3
      have hcel : wr.cell? ⟨g, off + j, none⟩ = some (.int .i64 (l.getD j 0)) := by rw [← nums_get l j hlt]; exact hc' j (by omega)
      have HC := Lib.hid (HP.out _ (getD_mem0 hlt) wr HE.out)
      have i0' : (0 : Int) ≤ (j : Int) := by omega
      have i1' : (j : Int) < (l.length : Int) := by omega
      have Hs := Lib.hid (idxP_step p l j Hj.out hlt)
      clear hc' hg e2 hc
      have HJ : Hid (p (l.getD j 0) = false → ∀ i, i < j + 1 → p (l.getD i 0) = false) := fun h i hi => by
        by_cases e : i = j
        · subst e; exact h
        · exact Hj.out i (by omega)
      have hsz := HE.out.size
      cases hpx : p (l.getD j 0) with
      | true =>
        rw [hpx] at HC
        obtain rfl : R = j := HR.out.trans (Hs.out hpx)
        have HPX := Lib.hid hpx
        clear hpx HR Hs
        generalize l.getD j 0 = X at *
        go_wp2_with fail
        refine HC.out.mono ?_
        rintro e w2 ⟨rfl, h2⟩
        have H2 := Lib.hid (HE.out.ext h2)
        clear h2
        go_wp2_with fail
        go_ret
        exact ⟨rfl, H2.out⟩
      | false =>
        rw [hpx] at HC
        have HJ2 := Lib.hid (HJ.out hpx)
        clear hpx Hs HJ
        generalize l.getD j 0 = X at *
        go_wp2_with fail
        refine HC.out.mono ?_
        rintro e w2 ⟨rfl, h2⟩
        have H2 := Lib.hid (HE.out.ext h2)
        clear h2
        go_wp2_with fail
        go_roundg (l.length - (j + 1))
        case measure => omega
        case rel => exact ⟨j + 1, by go_num, rfl, by omega, HJ2, H2⟩
    · obtain rfl : R = -1 := HR.out.trans (idxP_none p l (fun i hi => Hj.out i (by omega)))
      clear HR
      go_wp2_with fail
      go_ret
      exact ⟨rfl, HE.out⟩

theorem con_int1 (k : FuncId) (pc : Value) (p : Int → Bool) (S : Nat → Prop) (v : Value) (l : List Int) (w : World) (h : NumR S w v l) (hl : l.length ≤ 100000000)
    (hen : ∀ args W, Sem.run Try.prog (callFunc k args) W = .ok (.enter k args) W)
    (hp : ∀ x ∈ l, ∀ W, Ext w W → Calls Try.prog k #[.int .i64 x, pc] W fun e w' => e = .returned (.bool (p x)) ∧ Ext W w') :
    Calls Try.prog 27 #[v, .func (.func k) #[] #[pc]] w fun e w' => e = .returned (.bool (l.any p)) ∧ Ext w w' := by
  have C := idx_int1 k pc p S v l w h hl hen hp
  have hb := idxP_any p l
  rw [← hb.1]
  replace hb := hb.2
  generalize idxP p l = r at *
  obtain ⟨a, cap, hv⟩ := h.shape
  subst hv
  have HC := Lib.hid C
  clear C h hp
  go_enter Try.func27, Try.ntmps27
  go_wp2_with fail
  refine HC.out.mono ?_
  rintro e w2 ⟨rfl, h2⟩
  have H2 := Lib.hid h2
  clear h2
  go_wp2_with fail
  go_ret
  exact ⟨rfl, H2.out⟩


end Go.Proofs.Ythpekfpeoglbgaa
