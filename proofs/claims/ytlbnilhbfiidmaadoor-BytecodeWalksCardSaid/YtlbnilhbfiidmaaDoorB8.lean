/- wrong. -/
import Derived.Test.YtlbnilhbfiidmaaDoorB6
import Derived.Test.YtlbnilhbfiidmaaDoorB7
namespace Go.Proofs.YtlbnilhbfiidmaaDoor
open Go.RowKit Go.Hw
set_option linter.unusedVariables false
set_option linter.unusedSimpArgs false

structure IP where
  p : Int × Int
  h : I64 p.1 ∧ I64 p.2
instance : Inhabited IP := ⟨⟨(0, 0), by unfold I64; omega, by unfold I64; omega⟩⟩
def encI (x : IP) : List Value := [.int .i64 x.p.1, .int .i64 x.p.2]
def ipL (l : List (Int × Int)) (h : ∀ p ∈ l, I64 p.1 ∧ I64 p.2) : List IP := l.pmap (fun p hp => IP.mk p hp) h
theorem ipL_len (l : List (Int × Int)) (h : ∀ p ∈ l, I64 p.1 ∧ I64 p.2) : (ipL l h).length = l.length := by simp [ipL]
theorem ipL_get (l : List (Int × Int)) (h : ∀ p ∈ l, I64 p.1 ∧ I64 p.2) (k : Nat) (hk : k < (ipL l h).length) : ((ipL l h)[k]).p = l.getD k (0, 0) := by
  have : k < l.length := by rw [ipL_len] at hk; exact hk
  have e : (ipL l h)[k] = ⟨l[k], h _ (List.getElem_mem this)⟩ := List.getElem_pmap (fun p hp => IP.mk p hp) h hk
  rw [e, List.getD_eq_getElem?_getD, List.getElem?_eq_getElem this]
  rfl
theorem idx_fnot {α : Type} (L : List α) (d : α) (q : α → Bool) (p : Nat → Bool) (hp : ∀ k (hk : k < L.length), p k = q L[k]) : ∀ n i, i + n = L.length → Lib.idxByFrom (fun _ y => !q y) d (L.drop i) i = fnot p n i
  | 0, i, h => by rw [List.drop_eq_nil_of_le (by omega)]; rfl
  | n + 1, i, h => by
    have hi : i < L.length := by omega
    rw [List.drop_eq_getElem_cons hi]
    unfold Lib.idxByFrom fnot
    rw [hp i hi]
    cases hq : q L[i] with
    | true =>
      rw [if_neg (by simp [hq]), if_pos rfl]
      exact idx_fnot L d q p hp n (i + 1) (by omega)
    | false => rw [if_pos (by simp [hq]), if_neg (by decide)]
/-- the test within wrong -/
theorem clo29 (a fv : Value) (c : Cd) (f : Fn) (op x : Int) (w : World) (h : CdR w a fv c) (hf : FnR w f) (hop : I64 op) (B1 B2 : Nat) (hB1 : w.heap[B1]? = some (.cells #[a, .int .i64 c.glob, fv] 25)) (hB2 : w.heap[B2]? = some (.cells #[.string f.name, .int .i64 f.params, .int .i64 f.locals, .bool f.result, f.v] 39)) :
    Calls Tryd.prog 29 #[.agg #[.int .i64 op, .int .i64 x], .pointer (some ⟨B1, 0, none⟩), .pointer (some ⟨B2, 0, none⟩)] w fun e w' => e = .returned (.bool (!rightB c f op x)) ∧ Ext w w' := by
  have hu : Ext w (w.alloc (.cells #[.int .i64 op, .int .i64 x] 46)) := (Upd.refl _ w).alloc _
  have HC := Lib.hid (operand_x a fv c f op x (w.alloc (.cells #[.int .i64 op, .int .i64 x] 46)) (h.kept hu) (hf.kept hu) hop)
  have HU := Lib.hid hu
  obtain ⟨⟨xa, ca, rfl⟩, xf, cf, rfl⟩ := h.shapes
  obtain ⟨xv, cv, hxv⟩ := hf.shape
  rw [hxv] at HC hB2
  have k0 := cellRow hB1 0 _ rfl
  have k1 := cellRow hB1 1 _ rfl
  have k2 := cellRow hB1 2 _ rfl
  have m0 := cellRow hB2 0 _ rfl
  have m1 := cellRow hB2 1 _ rfl
  have m2 := cellRow hB2 2 _ rfl
  have m3 := cellRow hB2 3 _ rfl
  have m4 := cellRow hB2 4 _ rfl
  have hb1 : B1 < w.heap.size := (Array.getElem?_eq_some_iff.1 hB1).1
  have hb2 : B2 < w.heap.size := (Array.getElem?_eq_some_iff.1 hB2).1
  have hb1' : ¬ B1 = w.heap.size := by omega
  have hb2' : ¬ B2 = w.heap.size := by omega
  generalize rightB c f op x = R at *
  generalize f.name = NM at *
  generalize f.params = PA at *
  generalize f.locals = LO at *
  generalize f.result = RE at *
  clear h hf hB1 hB2 hxv hu hop
  go_enter Tryd.func29, Tryd.ntmps29
  go_wp2_with fail
  refine HC.out.mono ?_
  rintro e w6 ⟨rfl, h6⟩
  have H6 := Lib.hid (HU.out.ext h6)
  clear h6
  go_wp2_with fail
  go_ret
  exact ⟨rfl, H6.out⟩
theorem idx_none (a : Option Addr) (cap : Nat) (fv : Value) (w : World) : Calls Tryd.prog 28 #[.slice a 0 cap, fv] w fun e w' => e = .returned (.int .i64 (-1)) ∧ w = w' := by
  go_enter Tryd.func28, Tryd.ntmps28
  go_wp2_with fail
  go_loopg [5, 8] 0 (fun gk _ i wr => i = .int .i64 0 ∧ gk = 0 ∧ wr = w)
  case atStart => exact ⟨rfl, rfl, rfl⟩
  case round =>
    obtain ⟨rfl, rfl, rfl⟩ := hrel
    go_wp2_with fail
    go_ret
    exact ⟨rfl, rfl⟩
theorem ext_heap {w w' : World} (h : Ext w w') {b : Nat} {o : Obj} (hb : w.heap[b]? = some o) : w'.heap[b]? = some o := h.heap hb (fun h => h)
theorem idx_x (a fv : Value) (c : Cd) (f : Fn) (w : World) (h : CdR w a fv c) (hf : FnR w f) (B1 B2 : Nat) (hB1 : w.heap[B1]? = some (.cells #[a, .int .i64 c.glob, fv] 25)) (hB2 : w.heap[B2]? = some (.cells #[.string f.name, .int .i64 f.params, .int .i64 f.locals, .bool f.result, f.v] 39)) :
    Calls Tryd.prog 28 #[f.v, .func (.func 29) #[] #[.pointer (some ⟨B1, 0, none⟩), .pointer (some ⟨B2, 0, none⟩)]] w fun e w' => e = .returned (.int .i64 (rowBad c f)) ∧ Ext w w' := by
  have hl := hf.len
  rcases Nat.eq_zero_or_pos f.code.length with h0 | h0
  · obtain ⟨x, cap, hv⟩ := hf.shape
    rw [hv, h0]
    have e : rowBad c f = -1 := by unfold rowBad; rw [h0]; rfl
    rw [e]
    exact (idx_none x cap _ w).mono fun e w' ⟨h1, h2⟩ => ⟨h1, h2 ▸ Upd.refl _ _⟩
  · obtain ⟨g, off, cap, hv, hc, d0, d1⟩ := hf.at h0
    have hg : g < w.heap.size := World.block_lt_of_cell? _ _ d0
    rw [hv]
    have hL := ipL_len f.code hf.ib
    refine (Tryd.slices_IndexFunc_f28 (α := IP) 2 (fun w => by kernel_rfl) (fun w => by kernel_rfl) encI (fun _ => rfl) (fun y => !rightB c f y.p.1 y.p.2) 29 #[.pointer (some ⟨B1, 0, none⟩), .pointer (some ⟨B2, 0, none⟩)] (fun args w => enters 29 _ _ Tryd.func29 (by kernel_rfl) rfl args w) g off f.code.length cap (ipL f.code hf.ib) w ?_ (by omega) (by omega) hg ?_).mono ?_
    · intro W y hW
      have hE : Ext w W := ext_of hW
      refine (clo29 a fv c f y.p.1 y.p.2 W (h.kept hE) (hf.kept hE) y.h.1 B1 B2 (ext_heap hE hB1) (ext_heap hE hB2)).mono fun e w' ⟨h1, h2⟩ => ⟨h1, ?_⟩
      exact hW.trans (h2.below.mono hW.size)
    · intro j hj i v hi
      have hj' : j < f.code.length := by omega
      obtain ⟨g', off', cap', hv', _, e0, e1⟩ := hf.at hj'
      rw [hv] at hv'
      injection hv' with q1 _ _
      injection q1 with q1
      injection q1 with q1 q2 _
      subst q1; subst q2
      have hz : ((ipL f.code hf.ib)[j]!).p = f.code.getD j (0, 0) := by
        rw [List.getElem!_eq_getElem?_getD, List.getElem?_eq_getElem hj]
        exact ipL_get _ _ _ hj
      match i, hi with
      | 0, hi => rw [← hi]; show _ = some (Value.int .i64 ((ipL f.code hf.ib)[j]!).p.1); rw [hz]; exact e0
      | 1, hi => rw [← hi]; show _ = some (Value.int .i64 ((ipL f.code hf.ib)[j]!).p.2); rw [hz]; exact e1
      | i + 2, hi => exact absurd hi (by simp [encI])
    · rintro e w' ⟨rfl, hq⟩
      refine ⟨?_, ext_of hq⟩
      have hk := idx_fnot (ipL f.code hf.ib) default (fun y => rightB c f y.p.1 y.p.2) (badI c f) (fun k hk => by unfold badI; rw [ipL_get]) f.code.length 0 (by omega)
      rw [List.drop_zero] at hk
      unfold rowBad
      rw [← hk, List.take_of_length_le (by omega)]
      rfl

set_option maxRecDepth 100000 in
set_option maxHeartbeats 4000000 in
/-- wrong -/
theorem wrong_x (a fv : Value) (c : Cd) (w : World) (h : CdR w a fv c) : Calls Tryd.prog 17 #[.agg #[a, .int .i64 c.glob, fv]] w fun e w' => e = .returned (.tuple #[.int .i64 (wrP c).1, .int .i64 (wrP c).2.1, .bool (wrP c).2.2]) ∧ Ext w w' := by
  obtain ⟨⟨xa, ca, rfl⟩, xf, cf, rfl⟩ := h.shapes
  have HN := Lib.hid h
  have HX : Hid (∀ W, Ext (w.alloc (.cells #[.slice xa c.fields.length ca, .int .i64 c.glob, .slice xf c.funcs.length cf] 25)) W → W.heap[w.heap.size]? = some (.cells #[.slice xa c.fields.length ca, .int .i64 c.glob, .slice xf c.funcs.length cf] 25)) := fun W hW => hW.heap (alloc0 w _) (fun h => h)
  have HE0 : Hid (Ext w (w.alloc (.cells #[.slice xa c.fields.length ca, .int .i64 c.glob, .slice xf c.funcs.length cf] 25))) := (Upd.refl _ w).alloc _
  have hl1 := h.l1
  have hl2 := h.l2
  clear h
  obtain ⟨⟨x1, x2, x3⟩, hX⟩ : ∃ X, wrP c = X := ⟨_, rfl⟩
  rw [hX]
  have HX0 : Hid (wrF c c.funcs.length 0 = (x1, x2, x3)) := hX
  clear hX
  dsimp only
  go_enter Tryd.func17, Tryd.ntmps17
  go_wp2_with fail
  go_loopg [5, 6, 7, 11] c.funcs.length (fun gk _ _ _ s11 wr => ∃ i : Nat, s11 = .int .i64 i ∧ gk = c.funcs.length - i ∧ i ≤ c.funcs.length ∧ Hid (wrF c gk i = (x1, x2, x3)) ∧ Hid (Ext (w.alloc (.cells #[.slice xa c.fields.length ca, .int .i64 c.glob, .slice xf c.funcs.length cf] 25)) wr))
  case atStart => exact ⟨0, rfl, rfl, Nat.zero_le _, HX0, Upd.refl _ _⟩
  case round =>
    obtain ⟨i, rfl, rfl, hi, HW, HE⟩ := hrel
    have hz := HX.out wr HE.out
    have k0 := cellRow hz 0 _ rfl
    have k1 := cellRow hz 1 _ rfl
    have k2 := cellRow hz 2 _ rfl
    clear hz
    by_cases hlt : i < c.funcs.length
    · have hW := HW.out
      rw [sub_succ' hlt] at hW
      unfold wrF at hW
      obtain ⟨f0, hf0⟩ : ∃ f0, (c.funcs.getD i default) = f0 := ⟨_, rfl⟩
      have HF := (HN.out.kept (HE0.out.ext HE.out)).at hlt
      rw [hf0] at hW HF
      clear hf0
      obtain ⟨g, off, cap', hv, hcap, c0, c1, c2, c3, c4, hf⟩ := HF
      have HN2 := Lib.hid (HN.out.kept (HE0.out.ext HE.out))
      injection hv with e1 e2 e3
      subst e1; subst e3
      obtain ⟨x2', cap2, hv2⟩ := hf.shape
      have hl3 := hf.len
      have i0' : (0 : Int) ≤ (i : Int) := by omega
      have i1' : (i : Int) < (c.funcs.length : Int) := by omega
      have hu : Ext wr (wr.alloc (.cells #[.string f0.name, .int .i64 f0.params, .int .i64 f0.locals, .bool f0.result, f0.v] 39)) := (Upd.refl _ wr).alloc _
      have HC := Lib.hid (idx_x _ _ c f0 _ (HN2.out.kept hu) (hf.kept hu) w.heap.size wr.heap.size (ext_heap hu (HX.out _ HE.out)) (alloc0 wr _))
      have hge := fnot_ge (badI c f0) f0.code.length 0
      obtain ⟨Y, hY⟩ : ∃ Y, rowBad c f0 = Y := ⟨_, rfl⟩
      rw [show fnot (badI c f0) f0.code.length 0 = Y from hY] at hge
      rw [hY] at hW HC
      have HU := Lib.hid (HE.out.alloc (.cells #[.string f0.name, .int .i64 f0.params, .int .i64 f0.locals, .bool f0.result, f0.v] 39))
      rw [hv2] at c4 HC HU
      clear e2 hf hu hY hv2 HN2
      by_cases hy : Y < 0
      · rw [if_pos hy] at hW
        have HW2 := Lib.hid hW
        clear hW HW
        generalize f0.name = NM at *
        generalize f0.params = PA at *
        generalize f0.locals = LO at *
        generalize f0.result = RE at *
        generalize f0.code.length = CL at *
        go_wp2_with fail
        refine HC.out.mono ?_
        rintro e w6 ⟨rfl, h6⟩
        have H6 := Lib.hid (HU.out.ext h6)
        clear h6
        have hy1 : ¬ (0 ≤ Y) := by omega
        go_wp2_with fail
        go_roundg (c.funcs.length - (i + 1))
        case measure => omega
        case rel => exact ⟨i + 1, by go_num, rfl, by omega, HW2, H6⟩
      · rw [if_neg hy] at hW
        injection hW with q1 q2
        injection q2 with q2 q3
        subst q1; subst q2; subst q3
        clear HW HX0
        generalize f0.name = NM at *
        generalize f0.params = PA at *
        generalize f0.locals = LO at *
        generalize f0.result = RE at *
        generalize f0.code.length = CL at *
        go_wp2_with fail
        refine HC.out.mono ?_
        rintro e w6 ⟨rfl, h6⟩
        have H6 := Lib.hid (HU.out.ext h6)
        clear h6
        have hy1 : 0 ≤ Y := by omega
        go_wp2_with fail
        exact bodyPost_ret (v := .tuple #[.int .i64 i, .int .i64 Y, .bool true]) (by simp [results, Tryd.results17, go_sem]) rfl ⟨rfl, HE0.out.ext H6.out⟩
    · have hW := HW.out
      rw [show c.funcs.length - i = 0 by omega] at hW
      unfold wrF at hW
      injection hW with q1 q2
      injection q2 with q2 q3
      subst q1; subst q2; subst q3
      clear HW HX0
      go_wp2_with fail
      exact bodyPost_ret (v := .tuple #[.int .i64 0, .int .i64 0, .bool false]) (by simp [results, Tryd.results17, go_sem]) rfl ⟨rfl, HE0.out.ext HE.out⟩

end Go.Proofs.YtlbnilhbfiidmaaDoor
