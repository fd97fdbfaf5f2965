/- ref.wrong. -/
import Derived.Test.YtlbnilhbfiidmaaDoorB5
import Derived.Test.YtlbnilhbfiidmaaDoorL2
namespace Go.Proofs.YtlbnilhbfiidmaaDoor
open Go.RowKit Go.Hw
set_option linter.unusedVariables false
set_option linter.unusedSimpArgs false

def badI (c : Cd) (f : Fn) (k : Nat) : Bool := rightB c f (f.code.getD k (0, 0)).1 (f.code.getD k (0, 0)).2
def fnot (p : Nat → Bool) : Nat → Nat → Int
  | 0, _ => -1
  | n + 1, k => if p k then fnot p n (k + 1) else k
def rowBad (c : Cd) (f : Fn) : Int := fnot (badI c f) f.code.length 0
def wrF (c : Cd) : Nat → Nat → Int × Int × Bool
  | 0, _ => (0, 0, false)
  | n + 1, i => if rowBad c (c.funcs.getD i default) < 0 then wrF c n (i + 1) else (i, rowBad c (c.funcs.getD i default), true)
def wrP (c : Cd) : Int × Int × Bool := wrF c c.funcs.length 0
def formB (c : Cd) : Bool := headB c && !(wrP c).2.2
theorem fnot_ge (p : Nat → Bool) : ∀ n k, -1 ≤ fnot p n k
  | 0, _ => by simp [fnot]
  | n + 1, k => by unfold fnot; split; exact fnot_ge p n (k + 1); omega
theorem sub_succ' {a b : Nat} (h : b < a) : a - b = (a - (b + 1)) + 1 := by omega
theorem ins_mem {l : List (Int × Int)} {i : Nat} (h : i < l.length) : l.getD i (0, 0) ∈ l := by simp [h]

set_option maxRecDepth 100000 in
set_option maxHeartbeats 4000000 in
/-- ref.wrong -/
theorem rwrong_x (a fv : Value) (c : Cd) (w : World) (h : CdR w a fv c) : Calls Tryd.prog 19 #[.agg #[a, .int .i64 c.glob, fv]] w fun e w' => e = .returned (.tuple #[.int .i64 (wrP c).1, .int .i64 (wrP c).2.1, .bool (wrP c).2.2]) ∧ Ext w w' := by
  obtain ⟨⟨xa, ca, rfl⟩, xf, cf, rfl⟩ := h.shapes
  have HN := Lib.hid h
  have HX : Hid (∀ W, Ext (w.alloc (.cells #[.slice xa c.fields.length ca, .int .i64 c.glob, .slice xf c.funcs.length cf] 25)) W → W.heap[w.heap.size]? = some (.cells #[.slice xa c.fields.length ca, .int .i64 c.glob, .slice xf c.funcs.length cf] 25)) := fun W hW => hW.heap (alloc0 w _) (fun h => h)
  have HE0 : Hid (Ext w (w.alloc (.cells #[.slice xa c.fields.length ca, .int .i64 c.glob, .slice xf c.funcs.length cf] 25))) := (Upd.refl _ w).alloc _
  have hl1 := h.l1
  have hl2 := h.l2
  clear h
  obtain ⟨⟨x1, x2, x3⟩, hX⟩ : ∃ X, wrP c = X := ⟨_, rfl⟩
  rw [hX]
  have HX0 : Hid (wrF c c.funcs.length 0 = (x1, x2, x3)) := hX
  clear hX
  dsimp only
  have HR : Hid (∀ (f : Fn) (op x : Int) (W : World), CdR W (.slice xa c.fields.length ca) (.slice xf c.funcs.length cf) c → FnR W f → Calls Tryd.prog 35 #[.agg #[.slice xa c.fields.length ca, .int .i64 c.glob, .slice xf c.funcs.length cf], .agg #[.string f.name, .int .i64 f.params, .int .i64 f.locals, .bool f.result, f.v], .agg #[.int .i64 op, .int .i64 x]] W fun e w' => e = .returned (.bool (rightB c f op x)) ∧ Ext W w') := fun f op x W h1 h2 => rright_x _ _ c f op x W h1 h2
  go_enter Tryd.func19, Tryd.ntmps19
  go_wp2_with fail
  go_loopg [5, 6] c.funcs.length (fun gk s5 _ wr => ∃ i : Nat, s5 = .int .i64 i ∧ gk = c.funcs.length - i ∧ i ≤ c.funcs.length ∧ Hid (wrF c gk i = (x1, x2, x3)) ∧ Hid (Ext (w.alloc (.cells #[.slice xa c.fields.length ca, .int .i64 c.glob, .slice xf c.funcs.length cf] 25)) wr))
  case atStart => exact ⟨0, rfl, rfl, Nat.zero_le _, HX0, Upd.refl _ _⟩
  case round =>
    obtain ⟨i, rfl, rfl, hi, HW, HE⟩ := hrel
    have hz := HX.out wr HE.out
    have k0 := cellRow hz 0 _ rfl
    have k1 := cellRow hz 1 _ rfl
    have k2 := cellRow hz 2 _ rfl
    clear hz
    by_cases hlt : i < c.funcs.length
    · have hW := HW.out
      rw [sub_succ' hlt] at hW
      unfold wrF at hW
      obtain ⟨f0, hf0⟩ : ∃ f0, (c.funcs.getD i default) = f0 := ⟨_, rfl⟩
      have HF0 := Lib.hid hf0
      rw [hf0] at hW
      clear hf0
      obtain ⟨Y, hY⟩ : ∃ Y, rowBad c f0 = Y := ⟨_, rfl⟩
      rw [hY] at hW
      have HW2 := Lib.hid hW
      have HY : Hid (fnot (badI c f0) f0.code.length 0 = Y) := hY
      clear hW hY HW
      go_wp2_with fail
      clear k0 k1 k2
      obtain ⟨wa, hwa⟩ : ∃ wa, wa = wr := ⟨_, rfl⟩
      subst hwa
      go_loopg [6] f0.code.length (fun gk s6 wr => ∃ k : Nat, s6 = .int .i64 k ∧ gk = f0.code.length - k ∧ k ≤ f0.code.length ∧ Hid (fnot (badI c f0) gk k = Y) ∧ Hid (Ext (w.alloc (.cells #[.slice xa c.fields.length ca, .int .i64 c.glob, .slice xf c.funcs.length cf] 25)) wr))
      case atStart => exact ⟨0, rfl, rfl, Nat.zero_le _, HY, HE⟩
      case round =>
        obtain ⟨k, rfl, rfl, hk, HK, HEk⟩ := hrel
        have HF := (HN.out.kept (HE0.out.ext HEk.out)).at hlt
        rw [HF0.out] at HF
        have hz := HX.out wr HEk.out
        have k0 := cellRow hz 0 _ rfl
        have k1 := cellRow hz 1 _ rfl
        have k2 := cellRow hz 2 _ rfl
        clear hz
        obtain ⟨g, off, cap', hv, hcap, c0, c1, c2, c3, c4, hf⟩ := HF
        injection hv with e1 e2 e3
        subst e1; subst e3
        obtain ⟨x2', cap2, hv2⟩ := hf.shape
        have hl3 := hf.len
        have i0' : (0 : Int) ≤ (i : Int) := by omega
        have i1' : (i : Int) < (c.funcs.length : Int) := by omega
        have hFN := hf
        rw [hv2] at c4
        clear e2
        by_cases hkl : k < f0.code.length
        · obtain ⟨g2, off2, cap3, hv3, hc3, d0, d1⟩ := hf.at hkl
          rw [hv2] at hv3
          injection hv3 with e1 e2 e3
          subst e1; subst e3
          have j0' : (0 : Int) ≤ (k : Int) := by omega
          have j1' : (k : Int) < (f0.code.length : Int) := by omega
          have hK := HK.out
          rw [sub_succ' hkl] at hK
          unfold fnot at hK
          have hbad : badI c f0 k = rightB c f0 (f0.code.getD k (0, 0)).1 (f0.code.getD k (0, 0)).2 := rfl
          have HCALL : Hid (∀ x : XW wr, Calls Tryd.prog 35 #[.agg #[.slice xa c.fields.length ca, .int .i64 c.glob, .slice (some ⟨g, off, none⟩) c.funcs.length cf], .agg #[.string f0.name, .int .i64 f0.params, .int .i64 f0.locals, .bool f0.result, .slice (some ⟨g2, off2, none⟩) f0.code.length cap2], .agg #[.int .i64 (f0.code.getD k (0, 0)).1, .int .i64 (f0.code.getD k (0, 0)).2]] x.val fun e w' => e = .returned (.bool (badI c f0 k)) ∧ Ext x.val w') := fun x => by
            have := HR.out f0 (f0.code.getD k (0, 0)).1 (f0.code.getD k (0, 0)).2 x.val (HN.out.kept (HE0.out.ext (HEk.out.ext x.ext))) (hFN.kept x.ext)
            rw [hv2] at this
            rw [hbad]
            exact this
          have hX0 : ∀ x : XW wr, x.val.cell? ⟨w.heap.size, 0, none⟩ = some (.slice xa c.fields.length ca) := fun x => x.ext.cell k0 (fun h => h)
          have hX1 : ∀ x : XW wr, x.val.cell? ⟨w.heap.size, 1, none⟩ = some (.int .i64 c.glob) := fun x => x.ext.cell k1 (fun h => h)
          have hX2 : ∀ x : XW wr, x.val.cell? ⟨w.heap.size, 2, none⟩ = some (.slice (some ⟨g, off, none⟩) c.funcs.length cf) := fun x => x.ext.cell k2 (fun h => h)
          have hY0 : ∀ x : XW wr, x.val.cell? ⟨g, off + i * 5, none⟩ = some (.string f0.name) := fun x => x.ext.cell c0 (fun h => h)
          have hY1 : ∀ x : XW wr, x.val.cell? ⟨g, off + i * 5 + 1, none⟩ = some (.int .i64 f0.params) := fun x => x.ext.cell c1 (fun h => h)
          have hY2 : ∀ x : XW wr, x.val.cell? ⟨g, off + i * 5 + 2, none⟩ = some (.int .i64 f0.locals) := fun x => x.ext.cell c2 (fun h => h)
          have hY3 : ∀ x : XW wr, x.val.cell? ⟨g, off + i * 5 + 3, none⟩ = some (.bool f0.result) := fun x => x.ext.cell c3 (fun h => h)
          have hY4 : ∀ x : XW wr, x.val.cell? ⟨g, off + i * 5 + 4, none⟩ = some (.slice (some ⟨g2, off2, none⟩) f0.code.length cap2) := fun x => x.ext.cell c4 (fun h => h)
          have hZ0 : ∀ x : XW wr, x.val.cell? ⟨g2, off2 + k * 2, none⟩ = some (.int .i64 (f0.code.getD k (0, 0)).1) := fun x => x.ext.cell d0 (fun h => h)
          have hZ1 : ∀ x : XW wr, x.val.cell? ⟨g2, off2 + k * 2 + 1, none⟩ = some (.int .i64 (f0.code.getD k (0, 0)).2) := fun x => x.ext.cell d1 (fun h => h)
          have hrf : Ext wr wr := Upd.refl _ _
          clear hf hFN hv2 e2 hcap hc3 hbad
          cases hb : badI c f0 k with
          | true =>
            rw [hb, if_pos rfl] at hK
            rw [hb] at HCALL
            have HK2 := Lib.hid hK
            clear hK hb HK
            generalize (f0.code.getD k (0, 0)).1 = OP at *
            generalize (f0.code.getD k (0, 0)).2 = OA at *
            generalize f0.name = NM at *
            generalize f0.params = PA at *
            generalize f0.locals = LO at *
            generalize f0.result = RE at *
            go_wp2_with fail
            refine wp_region_ext wr (by assumption) (by kernel_rfl) (by kernel_rfl) ?_
            repeat (first | go_big_quiet_skip | (go_big_quiet_want; go_big_quiet_op; first | go_big_quiet_on | (apply Exists.intro; refine ⟨fun x => ?_, ?_⟩; ((go_at_call 35; exact XW.call (HCALL.out _))); go_big_quiet_on)))
            refine wpQuiet_nil ?_
            rintro w6 ⟨⟨_, hyw6⟩, rfl⟩
            try dsimp only
            have HE6 := Lib.hid (HEk.out.ext hyw6)
            clear hyw6 hrf hX0 hX1 hX2 hY0 hY1 hY2 hY3 hY4 hZ0 hZ1 HCALL
            go_wp2_with fail
            go_roundg (f0.code.length - (k + 1))
            case measure => omega
            case rel => exact ⟨k + 1, by go_num, rfl, by omega, HK2, HE6⟩
          | false =>
            rw [hb, if_neg (by decide)] at hK
            rw [hb] at HCALL
            have hW := HW2.out
            rw [← hK, if_neg (by omega)] at hW
            injection hW with q1 q2
            injection q2 with q2 q3
            subst q1; subst q2; subst q3
            clear hK hb HK HW2 HY HX0
            generalize (f0.code.getD k (0, 0)).1 = OP at *
            generalize (f0.code.getD k (0, 0)).2 = OA at *
            generalize f0.name = NM at *
            generalize f0.params = PA at *
            generalize f0.locals = LO at *
            generalize f0.result = RE at *
            go_wp2_with fail
            refine wp_region_ext wr (by assumption) (by kernel_rfl) (by kernel_rfl) ?_
            repeat (first | go_big_quiet_skip | (go_big_quiet_want; go_big_quiet_op; first | go_big_quiet_on | (apply Exists.intro; refine ⟨fun x => ?_, ?_⟩; ((go_at_call 35; exact XW.call (HCALL.out _))); go_big_quiet_on)))
            refine wpQuiet_nil ?_
            rintro w6 ⟨⟨_, hyw6⟩, rfl⟩
            try dsimp only
            have HE6 := Lib.hid (HEk.out.ext hyw6)
            clear hyw6 hrf hX0 hX1 hX2 hY0 hY1 hY2 hY3 hY4 hZ0 hZ1 HCALL
            go_wp2_with fail
            exact bodyPost_ret (v := .tuple #[.int .i64 i, .int .i64 k, .bool true]) (by simp [results, Tryd.results19, go_sem]) rfl ⟨rfl, HE0.out.ext HE6.out⟩
        · have hY : Y = -1 := by
            rw [← HK.out, show f0.code.length - k = 0 by omega]; rfl
          have hW := HW2.out
          rw [hY, if_pos (by decide)] at hW
          have HW3 := Lib.hid hW
          clear hW hY hf hFN hv2
          go_wp2_with fail
          go_roundg (c.funcs.length - (i + 1))
          case measure => omega
          case rel => exact ⟨i + 1, by go_num, rfl, by omega, HW3, HEk⟩
    · have hW := HW.out
      rw [show c.funcs.length - i = 0 by omega] at hW
      unfold wrF at hW
      injection hW with q1 q2
      injection q2 with q2 q3
      subst q1; subst q2; subst q3
      clear HW HX0
      go_wp2_with fail
      exact bodyPost_ret (v := .tuple #[.int .i64 0, .int .i64 0, .bool false]) (by simp [results, Tryd.results19, go_sem]) rfl ⟨rfl, HE0.out.ext HE.out⟩

end Go.Proofs.YtlbnilhbfiidmaaDoor
