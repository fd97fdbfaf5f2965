/- ref.Heights. -/
import Derived.Test.YtlbnilhbfiidmaaDoorB15
import Derived.Test.YtlbnilhbfiidmaaDoorB10
namespace Go.Proofs.YtlbnilhbfiidmaaDoor
open Go.RowKit Go.Hw
set_option linter.unusedVariables false
set_option linter.unusedSimpArgs false

theorem info3 : (Tryd.prog.info? 3).map (fun i => (i.zero, i.size, i.bytes)) = some (some (.int .i64 0), 1, 8) := by kernel_rfl
theorem info4 : (Tryd.prog.info? 4).map (fun i => (i.zero, i.size, i.bytes)) = some (some (.bool false), 1, 1) := by kernel_rfl
theorem rep_snoc {α : Type} (n : Nat) (x : α) : List.replicate (n + 1) x = List.replicate n x ++ [x] := List.replicate_succ'
def ints (l : List Int) : List Value := l.map (.int .i64)
def bools (l : List Bool) : List Value := l.map .bool
theorem ints_get (l : List Int) (j : Nat) (h : j < l.length) : (ints l)[j]? = some (.int .i64 (l.getD j (-1))) := by simp [ints, h]
theorem bools_get (l : List Bool) (j : Nat) (h : j < l.length) : (bools l)[j]? = some (.bool (l.getD j true)) := by simp [bools, h]
theorem ints_len (l : List Int) : (ints l).length = l.length := by simp [ints]
theorem bools_len (l : List Bool) : (bools l).length = l.length := by simp [bools]
theorem ints_set (l : List Int) (j : Nat) (v : Int) : (ints l).set j (.int .i64 v) = ints (l.set j v) := by simp [ints, List.map_set]
theorem bools_set (l : List Bool) (j : Nat) (v : Bool) : (bools l).set j (.bool v) = bools (l.set j v) := by simp [bools, List.map_set]
theorem own_ne {w : World} {base e n m : Nat} {u v : Value} {xs : List Value} (h : w.ownsRow base e 1 v n xs) : ∀ k, v.ownBlock = some k → k < w.heap.size := fun k hk => (h.lt k hk).2

set_option maxRecDepth 100000 in
set_option maxHeartbeats 4000000 in
/-- ref.Heights -/
theorem rheights_x (a fv : Value) (c : Cd) (f : Fn) (w : World) (h : CdR w a fv c) (hf : FnR w f) (hform : formB c = true) (hmem : f ∈ c.funcs) : Calls Tryd.prog 12 #[.agg #[a, .int .i64 c.glob, fv], .agg #[.string f.name, .int .i64 f.params, .int .i64 f.locals, .bool f.result, f.v]] w (HtsP c f w) := by
  obtain ⟨hhead, _⟩ := formed_parts hform
  obtain ⟨_, _, _, _, _, hL1, hL2⟩ := fn1_parts (head_fn hhead hmem)
  have HRT : Hid (∀ k, k < f.code.length → rightB c f (f.code.getD k (0, 0)).1 (f.code.getD k (0, 0)).2 = true) := fun k hk => formed_right hform hmem hk
  have HMB : Hid (∀ op x, rightB c f op x = true → 0 ≤ (mvP c f op x).1 ∧ (mvP c f op x).1 ≤ 6 ∧ 0 ≤ (mvP c f op x).2 ∧ (mvP c f op x).2 ≤ 2) := fun op x hr => mv_bd hhead f op x hr
  clear hhead hform hmem
  obtain ⟨⟨xa, ca, rfl⟩, xf, cf, rfl⟩ := h.shapes
  obtain ⟨xv, cv, hxv⟩ := hf.shape
  have HN := Lib.hid h
  have HFN := Lib.hid hf
  have HXV := Lib.hid hxv
  have hl1 := h.l1
  have hl2 := h.l2
  have HE0 : Hid (Ext w ((w.alloc (.cells #[.slice xa c.fields.length ca, .int .i64 c.glob, .slice xf c.funcs.length cf] 25)).alloc (.cells #[.string f.name, .int .i64 f.params, .int .i64 f.locals, .bool f.result, .slice xv f.code.length cv] 39))) := ((Upd.refl _ w).alloc _).alloc _
  have HXA : Hid (∀ W, Ext ((w.alloc (.cells #[.slice xa c.fields.length ca, .int .i64 c.glob, .slice xf c.funcs.length cf] 25)).alloc (.cells #[.string f.name, .int .i64 f.params, .int .i64 f.locals, .bool f.result, .slice xv f.code.length cv] 39)) W → W.heap[w.heap.size]? = some (.cells #[.slice xa c.fields.length ca, .int .i64 c.glob, .slice xf c.funcs.length cf] 25)) := fun W hW => hW.heap (allocOld (alloc0 w _) _) (fun h => h)
  have HXF : Hid (∀ W, Ext ((w.alloc (.cells #[.slice xa c.fields.length ca, .int .i64 c.glob, .slice xf c.funcs.length cf] 25)).alloc (.cells #[.string f.name, .int .i64 f.params, .int .i64 f.locals, .bool f.result, .slice xv f.code.length cv] 39)) W → W.heap[w.heap.size + 1]? = some (.cells #[.string f.name, .int .i64 f.params, .int .i64 f.locals, .bool f.result, .slice xv f.code.length cv] 39)) := fun W hW => hW.heap (alloc_at (w.alloc (.cells #[.slice xa c.fields.length ca, .int .i64 c.glob, .slice xf c.funcs.length cf] 25)) _ (n := w.heap.size + 1) (by simp)) (fun h => h)
  have HINS : Hid (∀ W, Ext ((w.alloc (.cells #[.slice xa c.fields.length ca, .int .i64 c.glob, .slice xf c.funcs.length cf] 25)).alloc (.cells #[.string f.name, .int .i64 f.params, .int .i64 f.locals, .bool f.result, .slice xv f.code.length cv] 39)) W → ∀ k, k < f.code.length → ∃ g off, xv = some ⟨g, off, none⟩ ∧ W.cell? ⟨g, off + k * 2, none⟩ = some (.int .i64 (f.code.getD k (0, 0)).1) ∧ W.cell? ⟨g, off + k * 2 + 1, none⟩ = some (.int .i64 (f.code.getD k (0, 0)).2)) := fun W hW k hk => by
    obtain ⟨g, off, cap, hv, _, d0, d1⟩ := (HFN.out.kept (HE0.out.ext hW)).at hk
    rw [HXV.out] at hv
    injection hv with e1 _ _
    exact ⟨g, off, e1, d0, d1⟩
  rw [hxv]
  clear h hf hxv
  obtain ⟨⟨xl, xa', xe⟩, hX⟩ : ∃ X, hP c f = X := ⟨_, rfl⟩
  have HX0 : Hid (hts c f (f.code.length + 1) ((List.replicate f.code.length (-1)).set 0 0) (List.replicate f.code.length false) = (xl, xa', xe)) := hX
  unfold HtsP
  rw [hX]
  clear hX
  dsimp only
  obtain ⟨i3, hi3, hz03, hz13, hz23⟩ := info_parts info3
  obtain ⟨i4, hi4, hz04, hz14, hz24⟩ := info_parts info4
  go_enter Tryd.func12, Tryd.ntmps12
  go_wp2_with fail
  go_loopg [7, 8, 9] f.code.length (fun gk hv dv s9 wr => ∃ j : Nat, s9 = .int .i64 j ∧ gk = f.code.length - j ∧ j ≤ f.code.length ∧ Hid (wr.ownsRow (w.heap.size + 1 + 1) 3 1 hv j (List.replicate j (.int .i64 (-1)))) ∧ Hid (wr.ownsRow (w.heap.size + 1 + 1) 4 1 dv j (List.replicate j (.bool false))) ∧ Hid (∀ k, hv.ownBlock = some k → dv.ownBlock ≠ some k) ∧ Hid (Ext ((w.alloc (.cells #[.slice xa c.fields.length ca, .int .i64 c.glob, .slice xf c.funcs.length cf] 25)).alloc (.cells #[.string f.name, .int .i64 f.params, .int .i64 f.locals, .bool f.result, .slice xv f.code.length cv] 39)) wr))
  case atStart => exact ⟨0, rfl, rfl, Nat.zero_le _, World.ownsRow_nil _ _ _ _, World.ownsRow_nil _ _ _ _, (fun k h => by cases h), Upd.refl _ _⟩
  case round =>
    obtain ⟨j, rfl, rfl, hj, HH, HD, HNE, HE⟩ := hrel
    have hsz : w.heap.size + 1 + 1 ≤ wr.heap.size := by have := HE.out.size; simpa using this
    have hz := HXF.out wr HE.out
    have m0 := cellRow hz 0 _ rfl
    have m1 := cellRow hz 1 _ rfl
    have m2 := cellRow hz 2 _ rfl
    have m3 := cellRow hz 3 _ rfl
    have m4 := cellRow hz 4 _ rfl
    clear hz
    by_cases hlt : j < f.code.length
    · obtain ⟨hA, hC, hv1⟩ := own_shape HH.out
      obtain ⟨dA, dC, dv1⟩ := own_shape HD.out
      subst hv1; subst dv1
      go_wp2_with (at_builtin; refine wpList_append_at _ rfl (.tmp 24) (.tmp 25) 22 rfl (w.heap.size + 1 + 1) 3 i3 (.int .i64 0) 1 8 Tryd.underlying22 hi3 hz03 hz13 hz23 rfl (by decide) _ _ _ rfl (HH.out.alloc _) ⟨wr.heap.size, 0, none⟩ 1 1 [.int .i64 (-1)] rfl rfl ?c1 ?c2 ?c3 ?c4 ?c5 ?_)
      case c1 =>
        intro j u hj
        match j, hj with
        | 0, hj => simp at hj; subst hj; simp [Addr.add]
      case c2 => intro u hu; simp at hu; subst hu; rfl
      case c3 => unfold maxLen; omega
      case c4 => omega
      case c5 => simp; omega
      intro v' w5 hG
      have E5 : Hid (Ext ((w.alloc (.cells #[.slice xa c.fields.length ca, .int .i64 c.glob, .slice xf c.funcs.length cf] 25)).alloc (.cells #[.string f.name, .int .i64 f.params, .int .i64 f.locals, .bool f.result, .slice xv f.code.length cv] 39)) w5) := upd_grown_new (HE.out.alloc _) hG.grown (fun k e => by have := (HH.out.lt k e).1; simpa using this)
      have hu5 : Upd (fun k => (Value.slice hA j hC).ownBlock = some k) wr w5 := ((Upd.refl _ wr).alloc _).trans hG.upd
      have HD5 := Lib.hid (own_kept HD.out hu5 (fun k hk hk2 => HNE.out k hk2 hk))
      have HH5 : Hid (w5.ownsRow (w.heap.size + 1 + 1) 3 1 v' (j + 1) (List.replicate (j + 1) (.int .i64 (-1)))) := by rw [rep_snoc]; exact hG.own
      have HNE5 : Hid (∀ k, v'.ownBlock = some k → (Value.slice dA j dC).ownBlock ≠ some k) := fun k hk hk2 => by
        rcases hG.where_ with e | e
        · exact HNE.out k (e.symm.trans hk) hk2
        · rw [hk] at e
          injection e with e
          have := (HD.out.lt k hk2).2
          simp at e; omega
      have hsz5 : wr.heap.size + 1 ≤ w5.heap.size := by have := hG.grown.size; simpa using this
      obtain ⟨hA5, hC5, hv5⟩ := own_shape HH5.out
      subst hv5
      clear hG hu5 HH HD HNE HE m0 m1 m2 m3 m4
      go_wp2_with (at_builtin; refine wpList_append_at _ rfl (.tmp 27) (.tmp 28) 54 rfl (w.heap.size + 1 + 1) 4 i4 (.bool false) 1 1 Tryd.underlying54 hi4 hz04 hz14 hz24 rfl (by decide) _ _ _ rfl (HD5.out.alloc _) ⟨w5.heap.size, 0, none⟩ 1 1 [.bool false] rfl rfl ?c1 ?c2 ?c3 ?c4 ?c5 ?_)
      case c1 =>
        intro j u hj
        match j, hj with
        | 0, hj => simp at hj; subst hj; simp [Addr.add]
      case c2 => intro u hu; simp at hu; subst hu; rfl
      case c3 => unfold maxLen; omega
      case c4 => omega
      case c5 => simp; omega
      intro v'' w6 hG
      have E6 : Hid (Ext ((w.alloc (.cells #[.slice xa c.fields.length ca, .int .i64 c.glob, .slice xf c.funcs.length cf] 25)).alloc (.cells #[.string f.name, .int .i64 f.params, .int .i64 f.locals, .bool f.result, .slice xv f.code.length cv] 39)) w6) := upd_grown_new (E5.out.alloc _) hG.grown (fun k e => by have := (HD5.out.lt k e).1; simpa using this)
      have hu6 : Upd (fun k => (Value.slice dA j dC).ownBlock = some k) w5 w6 := ((Upd.refl _ w5).alloc _).trans hG.upd
      have HH6 := Lib.hid (own_kept HH5.out hu6 (fun k hk hk2 => HNE5.out k hk hk2))
      have HD6 : Hid (w6.ownsRow (w.heap.size + 1 + 1) 4 1 v'' (j + 1) (List.replicate (j + 1) (.bool false))) := by rw [rep_snoc]; exact hG.own
      have HNE6 : Hid (∀ k, (Value.slice hA5 (j + 1) hC5).ownBlock = some k → v''.ownBlock ≠ some k) := fun k hk hk2 => by
        rcases hG.where_ with e | e
        · exact HNE5.out k hk (e.symm.trans hk2)
        · rw [hk2] at e
          injection e with e
          have := (HH5.out.lt k hk).2
          simp at e; omega
      obtain ⟨dA6, dC6, dv6⟩ := own_shape HD6.out
      subst dv6
      clear hG hu6 HH5 HD5 HNE5 E5
      go_wp2_with fail
      go_roundg (f.code.length - (j + 1))
      case measure => omega
      case rel => exact ⟨j + 1, by go_num, rfl, by omega, HH6, HD6, HNE6, E6⟩
    · obtain rfl : j = f.code.length := by omega
      obtain ⟨g, hC, rfl, hcap, hgb, HA0⟩ := Arr.ofOwn HH.out (by omega)
      obtain ⟨gd, dC, rfl, dcap, hdb, HB0⟩ := Arr.ofOwn HD.out (by omega)
      have hne : g ≠ gd := fun e => HNE.out g rfl (by rw [e]; rfl)
      have a0 := HA0.cell (j := 0) (v := .int .i64 (-1)) (by rw [List.getElem?_replicate, if_pos (by omega)])
      have a1 := HA0.mark 0
      have HA : Hid (Arr (wr.setCell ⟨g, 0, none⟩ (.int .i64 0)) g 3 (ints ((List.replicate f.code.length (-1)).set 0 0))) := by
        have := HA0.set (j := 0) (by simp; omega) (.int .i64 0)
        rw [← ints_set]
        have e : ints (List.replicate f.code.length (-1)) = List.replicate f.code.length (.int .i64 (-1)) := by simp [ints]
        rw [e]; exact this
      have HB : Hid (Arr (wr.setCell ⟨g, 0, none⟩ (.int .i64 0)) gd 4 (bools (List.replicate f.code.length false))) := by
        have e : bools (List.replicate f.code.length false) = List.replicate f.code.length (.bool false) := by simp [bools]
        rw [e]
        exact HB0.kept (updAt _) (fun e => hne e.symm)
      have hgb' : w.heap.size + 1 + 1 ≤ g := hgb
      have hdb' : w.heap.size + 1 + 1 ≤ gd := hdb
      have HE2 : Hid (Ext ((w.alloc (.cells #[.slice xa c.fields.length ca, .int .i64 c.glob, .slice xf c.funcs.length cf] 25)).alloc (.cells #[.string f.name, .int .i64 f.params, .int .i64 f.locals, .bool f.result, .slice xv f.code.length cv] 39)) (wr.setCell ⟨g, 0, none⟩ (.int .i64 0))) := HE.out.setNew (by simpa using hgb') _
      have j0' : (0 : Int) < (f.code.length : Int) := by omega
      clear HA0 HB0 HH HD HNE HE hgb hdb hsz
      go_wp2_with fail
      clear a0 a1 m0 m1 m2 m3 m4
      go_loopg [10, 11, 12, 13, 14, 15, 16] (f.code.length + 1) (fun gk _ _ _ _ _ _ _ wr => ∃ (h : List Int) (d : List Bool), h.length = f.code.length ∧ d.length = f.code.length ∧ cntF d < gk ∧ gk ≤ f.code.length + 1 ∧ Hid (hts c f gk h d = (xl, xa', xe)) ∧ Hid (∀ j, -1 ≤ h.getD j (-1) ∧ h.getD j (-1) ≤ 2 * ((f.code.length : Int) + 1 - gk)) ∧ Hid (Arr wr g 3 (ints h)) ∧ Hid (Arr wr gd 4 (bools d)) ∧ Hid (Ext ((w.alloc (.cells #[.slice xa c.fields.length ca, .int .i64 c.glob, .slice xf c.funcs.length cf] 25)).alloc (.cells #[.string f.name, .int .i64 f.params, .int .i64 f.locals, .bool f.result, .slice xv f.code.length cv] 39)) wr))
      case atStart => exact ⟨_, _, by simp, by simp, by have := cntF_le (List.replicate f.code.length false); simp at this; omega, by omega, HX0, (fun j => by
        rw [getD_set_int _ _ _ _ (by simp; omega)]
        by_cases e : j = 0
        · rw [if_pos e]; omega
        · rw [if_neg e]; simp [List.getElem?_replicate]; split <;> simp), HA, HB, HE2⟩
      case round =>
        obtain ⟨h, d, hhl, hdl, hcnt, hgk, HX, HBD, HA, HB, HE⟩ := hrel
        go_wp2_with fail
        obtain ⟨wa, hwa⟩ : ∃ wa, wa = wr := ⟨_, rfl⟩
        subst hwa
        go_loopg [10] f.code.length (fun gk2 s10 wr => ∃ k : Nat, s10 = .int .i64 k ∧ gk2 = f.code.length - k ∧ k ≤ f.code.length ∧ Hid (∀ i, i < k → pend h d i = false) ∧ wr = wa)
        case atStart => exact ⟨0, rfl, rfl, Nat.zero_le _, fun i h => absurd h (Nat.not_lt_zero _), rfl⟩
        case round =>
          obtain ⟨k, rfl, rfl, hk, HK, rfl⟩ := hrel
          by_cases hkl : k < f.code.length
          · have b0 := HA.out.cell (ints_get h k (by omega))
            have b1 := HB.out.cell (bools_get d k (by omega))
            have i0' : (0 : Int) ≤ (k : Int) := by omega
            have i1' : (k : Int) < (f.code.length : Int) := by omega
            have hpd : pend h d k = (decide (0 ≤ h.getD k (-1)) && !d.getD k true) := rfl
            obtain ⟨y, hy⟩ : ∃ y, h.getD k (-1) = y := ⟨_, rfl⟩
            obtain ⟨z, hz⟩ : ∃ z, d.getD k true = z := ⟨_, rfl⟩
            rw [hy] at b0 hpd
            rw [hz] at b1 hpd
            by_cases p1 : y < 0
            · have HK2 : Hid (∀ i, i < k + 1 → pend h d i = false) := fun i hi => by
                by_cases e : i = k
                · subst e; rw [hpd, decide_eq_false (by omega)]; rfl
                · exact HK.out i (by omega)
              clear hpd hy hz
              go_wp2_with fail
              go_roundg (f.code.length - (k + 1))
              case measure => omega
              case rel => exact ⟨k + 1, by go_num, rfl, by omega, HK2, rfl⟩
            · cases z with
              | true =>
                have HK2 : Hid (∀ i, i < k + 1 → pend h d i = false) := fun i hi => by
                  by_cases e : i = k
                  · subst e; rw [hpd]; simp
                  · exact HK.out i (by omega)
                clear hpd hy hz
                go_wp2_with fail
                go_roundg (f.code.length - (k + 1))
                case measure => omega
                case rel => exact ⟨k + 1, by go_num, rfl, by omega, HK2, rfl⟩
              | false =>
                have hfst : fst1 (pend h d) h.length 0 = k := fst1_is _ _ _ _ (by omega) (by omega) (fun i _ hi => HK.out i hi) (fun _ => by rw [hpd, decide_eq_true (by omega)]; rfl)
                have e1 : ((k : Int) == (f.code.length : Int)) = false := beq_eq_false_iff_ne.2 (by omega)
                have e1' : (k == f.code.length) = false := beq_eq_false_iff_ne.2 (by omega)
                clear hpd
                obtain ⟨op, hop⟩ : ∃ op, (f.code.getD k (0, 0)).1 = op := ⟨_, rfl⟩
                obtain ⟨x, hxx⟩ : ∃ x, (f.code.getD k (0, 0)).2 = x := ⟨_, rfl⟩
                have hr := HRT.out k hkl
                rw [hop, hxx] at hr
                obtain ⟨pops, hpp⟩ : ∃ p, (mvP c f op x).1 = p := ⟨_, rfl⟩
                obtain ⟨push, hpu⟩ : ∃ p, (mvP c f op x).2 = p := ⟨_, rfl⟩
                obtain ⟨v0, v1, v2, v3⟩ := HMB.out op x hr
                rw [hpp] at v0 v1
                rw [hpu] at v2 v3
                obtain ⟨gk', rfl⟩ : ∃ g', gk = g' + 1 := ⟨gk - 1, by omega⟩
                obtain ⟨⟨E, h'⟩, hsuc⟩ : ∃ r, suc (y - pops + push) (nxt op x k) h = r := ⟨_, rfl⟩
                have HST : Hid ((if y < pops then (([] : List Int), (k : Int), (14 : Int)) else if op = 10 ∧ pops < y then ([], (k : Int), 3) else if E = 0 then hts c f gk' h' (d.set k true) else ([], (k : Int), E)) = (xl, xa', xe)) := by
                  have hx := HX.out
                  rw [hts_step c f gk' h d k op x pops push y E h' hfst (by rw [← hop, ← hxx]) (by rw [← hpp, ← hpu]) hy hsuc, if_neg (by omega)] at hx
                  exact hx
                obtain ⟨y0, y1⟩ := HBD.out k
                rw [hy] at y0 y1
                have hpnd : d.getD k true = false := hz
                have hcs := cntF_set d k hpnd
                have bm := HB.out.mark k
                obtain ⟨gi, oi, hxi, d0, d1⟩ := HINS.out wr HE.out k hkl
                rw [hop] at d0
                rw [hxx] at d1
                subst hxi
                have hgi : gi < w.heap.size := by
                  obtain ⟨g9, o9, e9, c9, _⟩ := HINS.out _ (Upd.refl _ _) k hkl
                  injection e9 with e9
                  injection e9 with e9 _ _
                  subst e9
                  obtain ⟨g8, o8, _, e8, _, c8, _⟩ := HFN.out.at hkl
                  rw [HXV.out] at e8
                  injection e8 with e8 _ _
                  injection e8 with e8
                  injection e8 with e8 _ _
                  subst e8
                  exact World.block_lt_of_cell? _ _ c8
                have hgne : gi ≠ gd := by omega
                have hgne' : ¬ gi = gd := hgne
                have HB5 : Hid (Arr (wr.setCell ⟨gd, k, none⟩ (.bool true)) gd 4 (bools (d.set k true))) := by
                  have := HB.out.set (j := k) (by rw [bools_len]; omega) (.bool true)
                  rw [bools_set] at this
                  exact this
                have HA5 := Lib.hid (HA.out.kept (updAt (g := gd) (j := k) (.bool true)) hne)
                have HE5 : Hid (Ext ((w.alloc (.cells #[.slice xa c.fields.length ca, .int .i64 c.glob, .slice xf c.funcs.length cf] 25)).alloc (.cells #[.string f.name, .int .i64 f.params, .int .i64 f.locals, .bool f.result, .slice (some ⟨gi, oi, none⟩) f.code.length cv] 39)) (wr.setCell ⟨gd, k, none⟩ (.bool true))) := HE.out.setNew (by simpa using hdb') _
                have HW5 : Hid (Ext ((w.alloc (.cells #[.slice xa c.fields.length ca, .int .i64 c.glob, .slice xf c.funcs.length cf] 25)).alloc (.cells #[.string f.name, .int .i64 f.params, .int .i64 f.locals, .bool f.result, .slice (some ⟨gi, oi, none⟩) f.code.length cv] 39)) ((wr.setCell ⟨gd, k, none⟩ (.bool true)).alloc (.cells #[.int .i64 op, .int .i64 x] 46))) := HE5.out.alloc _
                have HUM : Hid (Ext (wr.setCell ⟨gd, k, none⟩ (.bool true)) ((wr.setCell ⟨gd, k, none⟩ (.bool true)).alloc (.cells #[.int .i64 op, .int .i64 x] 46))) := (Upd.refl _ _).alloc _
                have hMV : Hid (∀ W, Ext ((w.alloc (.cells #[.slice xa c.fields.length ca, .int .i64 c.glob, .slice xf c.funcs.length cf] 25)).alloc (.cells #[.string f.name, .int .i64 f.params, .int .i64 f.locals, .bool f.result, .slice (some ⟨gi, oi, none⟩) f.code.length cv] 39)) W → Calls Tryd.prog 14 #[.agg #[.slice xa c.fields.length ca, .int .i64 c.glob, .slice xf c.funcs.length cf], .agg #[.string f.name, .int .i64 f.params, .int .i64 f.locals, .bool f.result, .slice (some ⟨gi, oi, none⟩) f.code.length cv], .agg #[.int .i64 op, .int .i64 x]] W fun e w' => e = .returned (.tuple #[.int .i64 pops, .int .i64 push]) ∧ Ext W w') := fun W hW => by
                  have := rmoves_x _ _ c f op x W (HN.out.kept (HE0.out.ext hW)) (HFN.out.kept (HE0.out.ext hW)) hr
                  rw [HXV.out, hpp, hpu] at this
                  exact this
                have hz := HXF.out (wr.setCell ⟨gd, k, none⟩ (.bool true)) HE5.out
                have m0 := cellRow hz 0 _ rfl
                have m1 := cellRow hz 1 _ rfl
                have m2 := cellRow hz 2 _ rfl
                have m3 := cellRow hz 3 _ rfl
                have m4 := cellRow hz 4 _ rfl
                clear hz
                have hcd0 : (wr.setCell ⟨gd, k, none⟩ (.bool true)).cell? ⟨gi, oi + k * 2, none⟩ = some (.int .i64 op) := (updAt (g := gd) (j := k) (.bool true)).cell d0 hgne
                have hcd1 : (wr.setCell ⟨gd, k, none⟩ (.bool true)).cell? ⟨gi, oi + k * 2 + 1, none⟩ = some (.int .i64 x) := (updAt (g := gd) (j := k) (.bool true)).cell d1 hgne
                have HIB : Hid (∀ W, Ext ((wr.setCell ⟨gd, k, none⟩ (.bool true)).alloc (.cells #[.int .i64 op, .int .i64 x] 46)) W → W.heap[wr.heap.size]? = some (.cells #[.int .i64 op, .int .i64 x] 46)) := fun W hW => hW.heap (alloc_at (wr.setCell ⟨gd, k, none⟩ (.bool true)) _ (n := wr.heap.size) (by simp)) (fun h => h)
                have HY := Lib.hid hy
                have HSU := Lib.hid hsuc
                have HHR := Lib.hid hr
                have hz := HXA.out ((wr.setCell ⟨gd, k, none⟩ (.bool true)).alloc (.cells #[.int .i64 op, .int .i64 x] 46)) HW5.out
                have k0 := cellRow hz 0 _ rfl
                have k1 := cellRow hz 1 _ rfl
                have k2 := cellRow hz 2 _ rfl
                have hz := HXF.out ((wr.setCell ⟨gd, k, none⟩ (.bool true)).alloc (.cells #[.int .i64 op, .int .i64 x] 46)) HW5.out
                have l0 := cellRow hz 0 _ rfl
                have l1 := cellRow hz 1 _ rfl
                have l2 := cellRow hz 2 _ rfl
                have l3 := cellRow hz 3 _ rfl
                have l4 := cellRow hz 4 _ rfl
                have hz := HIB.out ((wr.setCell ⟨gd, k, none⟩ (.bool true)).alloc (.cells #[.int .i64 op, .int .i64 x] 46)) (Upd.refl _ _)
                have n0 := cellRow hz 0 _ rfl
                have n1 := cellRow hz 1 _ rfl
                have HBDD : Hid (∀ j, -1 ≤ h.getD j (-1) ∧ h.getD j (-1) ≤ 2 * ((f.code.length : Int) + 1 - ((gk' + 1 : Nat) : Int))) := HBD.out
                clear hz hop hxx hpp hpu hsuc hy hr hfst HX HBD HA HB hpnd hgi hgne d0 d1
                go_wp2_with fail
                refine (hMV.out _ HW5.out).mono ?_
                rintro e w6 ⟨rfl, h6⟩
                have HE6 := Lib.hid (HW5.out.ext h6)
                have HA6 := Lib.hid ((HA5.out.kept HUM.out (fun h => h)).kept h6 (fun h => h))
                have HB6 := Lib.hid ((HB5.out.kept HUM.out (fun h => h)).kept h6 (fun h => h))
                have a6 := HA6.out.cell (ints_get h k (by omega))
                rw [HY.out] at a6
                have hz := HIB.out w6 h6
                clear k0 k1 k2 l0 l1 l2 l3 l4 m0 m1 m2 m3 m4 n0 n1 b0 b1 bm hcd0 hcd1 h6
                have n0 := cellRow hz 0 _ rfl
                have n1 := cellRow hz 1 _ rfl
                clear hz
                by_cases r1 : y < pops
                · have hx := HST.out
                  rw [if_pos r1] at hx
                  injection hx with q1 q2
                  injection q2 with q2 q3
                  subst q1; subst q2; subst q3
                  clear HX0 HST
                  clear HSU
                  go_wp2_with fail
                  exact bodyPost_ret (v := .tuple #[.slice none 0 0, .int .i64 k, .int .i64 14]) (by simp [results, Tryd.results12, go_sem]) rfl ⟨_, rfl, SlR.nil _ _ _, HE0.out.ext HE6.out⟩
                · by_cases r2 : op = 10
                  · have e10 : (op == 10) = true := beq_iff_eq.2 r2
                    by_cases r3 : pops < y
                    · have hx := HST.out
                      rw [if_neg r1, if_pos ⟨r2, r3⟩] at hx
                      injection hx with q1 q2
                      injection q2 with q2 q3
                      subst q1; subst q2; subst q3
                      clear HX0 HST
                      clear HSU
                      subst r2
                      go_wp2_with fail
                      exact bodyPost_ret (v := .tuple #[.slice none 0 0, .int .i64 k, .int .i64 3]) (by simp [results, Tryd.results12, go_sem]) rfl ⟨_, rfl, SlR.nil _ _ _, HE0.out.ext HE6.out⟩
                    · have HC : Hid ((if E = 0 then hts c f gk' h' (d.set k true) else ([], (k : Int), E)) = (xl, xa', xe)) := by
                        have hx := HST.out
                        rw [if_neg r1, if_neg (fun q => r3 q.2)] at hx
                        exact hx
                      clear HST
                      subst r2
                      go_wp2_with fail
                      refine (rnext_x 10 x k w6 (by omega)).mono ?_
                      rintro e w7 ⟨nv, rfl, hns, h7⟩
                      obtain ⟨nl, hnl⟩ : ∃ nl, nxt 10 x k = nl := ⟨_, rfl⟩
                      have hn2 := nxt_len 10 x k
                      have HNN : Hid (∀ q ∈ nl, (0 : Int) ≤ q) := by rw [← hnl]; exact nxt_nn HHR.out
                      rw [hnl] at hns hn2
                      have HSL : Hid (suc (y - pops + push) nl h = (E, h')) := by rw [← hnl]; exact HSU.out
                      obtain ⟨nA, nC, hnv⟩ := hns.shape
                      subst hnv
                      have HNS : Hid (SlR (fun b => w6.heap.size ≤ b) w7 1 (.slice nA nl.length nC) nl.length (ints nl)) := hns
                      have HE7 := Lib.hid (HE6.out.ext h7)
                      have HA7 := Lib.hid (HA6.out.kept h7 (fun h => h))
                      have HB7 := Lib.hid (HB6.out.kept h7 (fun h => h))
                      have hg6 := HA6.out.lt
                      have hgd6 := HB6.out.lt
                      have HBD7 : Hid (∀ j, -1 ≤ h.getD j (-1) ∧ h.getD j (-1) ≤ 2 * ((f.code.length : Int) + 1 - gk')) := fun j => by have := HBDD.out j; omega
                      clear hns hnl h7 a6 n0 n1 HSU HA6 HB6
                      go_wp2_with fail
                      obtain ⟨wb, hwb⟩ : ∃ wb, wb = wr := ⟨_, rfl⟩
                      subst hwb
                      go_loopg [15, 16] nl.length (fun gk3 s15 _ wr => ∃ (i : Nat) (h2 : List Int), s15 = .int .i64 i ∧ gk3 = nl.length - i ∧ i ≤ nl.length ∧ h2.length = f.code.length ∧ Hid (suc (y - pops + push) (nl.drop i) h2 = (E, h')) ∧ Hid (h2.getD k (-1) = y) ∧ Hid (∀ j, -1 ≤ h2.getD j (-1) ∧ h2.getD j (-1) ≤ 2 * ((f.code.length : Int) + 1 - gk')) ∧ Hid (Arr wr g 3 (ints h2)) ∧ Hid (Arr wr gd 4 (bools (d.set k true))) ∧ Hid (SlR (fun b => w6.heap.size ≤ b) wr 1 (.slice nA nl.length nC) nl.length (ints nl)) ∧ Hid (Ext ((w.alloc (.cells #[.slice xa c.fields.length ca, .int .i64 c.glob, .slice xf c.funcs.length cf] 25)).alloc (.cells #[.string f.name, .int .i64 f.params, .int .i64 f.locals, .bool f.result, .slice (some ⟨gi, oi, none⟩) f.code.length cv] 39)) wr))
                      case atStart => exact ⟨0, h, rfl, rfl, Nat.zero_le _, hhl, HSL.out, HY.out, HBD7, HA7, HB7, HNS, HE7⟩
                      case round =>
                        obtain ⟨i, h2, rfl, rfl, hi, hl2, HSk, HYk, HBDk, HAk, HBk, HNk, HEk⟩ := hrel
                        by_cases hil : i < nl.length
                        · obtain ⟨gx, ox, cx, hvx, hcx, hSx, hjx⟩ := HNk.out.pos (by omega)
                          injection hvx with q1 q2 q3
                          subst q1; subst q3
                          obtain ⟨q, hq⟩ : ∃ q, nl.getD i (-1) = q := ⟨_, rfl⟩
                          have c0 := hjx i (by omega)
                          rw [ints_get nl i hil, hq] at c0
                          have hq0 : 0 ≤ q := HNN.out q (by rw [← hq]; simp [hil])
                          have hdr : nl.drop i = q :: nl.drop (i + 1) := by
                            rw [List.drop_eq_getElem_cons hil, ← hq]; simp [hil]
                          have j0' : (0 : Int) ≤ (i : Int) := by omega
                          have j1' : (i : Int) < (nl.length : Int) := by omega
                          clear hjx q2 hq hSx
                          by_cases s1 : (f.code.length : Int) ≤ q
                          · have hsu := HSk.out
                            rw [hdr] at hsu
                            unfold suc at hsu
                            rw [if_pos (by omega)] at hsu
                            injection hsu with u1 u2
                            subst u1; subst u2
                            have hx := HC.out
                            rw [if_neg (by decide)] at hx
                            injection hx with q1 q2
                            injection q2 with q2 q3
                            subst q1; subst q2; subst q3
                            clear HX0 HC HSk hdr
                            go_wp2_with fail
                            exact bodyPost_ret (v := .tuple #[.slice none 0 0, .int .i64 k, .int .i64 8]) (by simp [results, Tryd.results12, go_sem]) rfl ⟨_, rfl, SlR.nil _ _ _, HE0.out.ext HEk.out⟩
                          · obtain ⟨t, rfl⟩ : ∃ t : Nat, q = t := ⟨q.toNat, by omega⟩
                            have a2 := HAk.out.cell (ints_get h2 t (by omega))
                            have a3 := HAk.out.cell (ints_get h2 k (by omega))
                            have a4 := HAk.out.mark t
                            rw [HYk.out] at a3
                            obtain ⟨hv, hhv⟩ : ∃ hv, h2.getD t (-1) = hv := ⟨_, rfl⟩
                            rw [hhv] at a2
                            have t0' : (0 : Int) ≤ (t : Int) := by omega
                            have t1' : (t : Int) < (f.code.length : Int) := by omega
                            by_cases s2 : 0 ≤ hv ∧ hv ≠ (y - pops + push)
                            · have hsu := HSk.out
                              rw [hdr] at hsu
                              unfold suc at hsu
                              rw [if_neg (by omega), if_pos (by rw [Int.toNat_natCast, hhv]; exact s2)] at hsu
                              injection hsu with u1 u2
                              subst u1; subst u2
                              have hx := HC.out
                              rw [if_neg (by decide)] at hx
                              injection hx with q1 q2
                              injection q2 with q2 q3
                              subst q1; subst q2; subst q3
                              clear HX0 HC HSk hdr
                              obtain ⟨s3, s4⟩ := s2
                              have s5 : (hv == (y - pops + push)) = false := beq_eq_false_iff_ne.2 s4
                              have s6 : (hv != (y - pops + push)) = true := bne_iff_ne.2 s4
                              clear hhv
                              go_wp2_with fail
                              exact bodyPost_ret (v := .tuple #[.slice none 0 0, .int .i64 k, .int .i64 13]) (by simp [results, Tryd.results12, go_sem]) rfl ⟨_, rfl, SlR.nil _ _ _, HE0.out.ext HEk.out⟩
                            · have HSk2 : Hid (suc (y - pops + push) (nl.drop (i + 1)) (h2.set t (y - pops + push)) = (E, h')) := by
                                have hsu := HSk.out
                                rw [hdr] at hsu
                                unfold suc at hsu
                                rw [if_neg (by omega), if_neg (by rw [Int.toNat_natCast, hhv]; exact s2), Int.toNat_natCast] at hsu
                                exact hsu
                              have HAk2 : Hid (Arr (wr.setCell ⟨g, t, none⟩ (.int .i64 (y - pops + push))) g 3 (ints (h2.set t (y - pops + push)))) := by
                                have := HAk.out.set (j := t) (by rw [ints_len]; omega) (.int .i64 (y - pops + push))
                                rw [ints_set] at this
                                exact this
                              have HBk2 := Lib.hid (HBk.out.kept (updAt (g := g) (j := t) (.int .i64 (y - pops + push))) (fun e => hne e.symm))
                              have HNk2 := Lib.hid (HNk.out.kept (updAt (g := g) (j := t) (.int .i64 (y - pops + push))) (fun b hb e => by omega))
                              have HEk2 : Hid (Ext ((w.alloc (.cells #[.slice xa c.fields.length ca, .int .i64 c.glob, .slice xf c.funcs.length cf] 25)).alloc (.cells #[.string f.name, .int .i64 f.params, .int .i64 f.locals, .bool f.result, .slice (some ⟨gi, oi, none⟩) f.code.length cv] 39)) (wr.setCell ⟨g, t, none⟩ (.int .i64 (y - pops + push)))) := HEk.out.setNew (by simpa using hgb') _
                              have HYk2 : Hid ((h2.set t (y - pops + push)).getD k (-1) = y) := by
                                show _ = _
                                rw [getD_set_int _ _ _ _ (by omega)]
                                by_cases e : k = t
                                · rw [if_pos e]
                                  have : hv = y := by rw [← hhv, ← e]; exact HYk.out
                                  by_cases z : hv = (y - pops + push)
                                  · omega
                                  · exact absurd ⟨by omega, z⟩ s2
                                · rw [if_neg e]; exact HYk.out
                              have HBk3 : Hid (∀ j, -1 ≤ (h2.set t (y - pops + push)).getD j (-1) ∧ (h2.set t (y - pops + push)).getD j (-1) ≤ 2 * ((f.code.length : Int) + 1 - gk')) := fun j => by
                                rw [getD_set_int _ _ _ _ (by omega)]
                                by_cases e : j = t
                                · rw [if_pos e]; omega
                                · rw [if_neg e]; exact HBDk.out j
                              clear HSk hdr hhv HAk HBk HNk HEk HYk HBDk
                              by_cases s3 : 0 ≤ hv
                              · have s4 : hv = (y - pops + push) := by
                                  by_cases z : hv = (y - pops + push)
                                  · exact z
                                  · exact absurd ⟨s3, z⟩ s2
                                have s5 : (hv == (y - pops + push)) = true := beq_iff_eq.2 s4
                                have s6 : (hv != (y - pops + push)) = false := by rw [s4]; simp
                                have s5' : ((y - pops + push) == (y - pops + push)) = true := beq_iff_eq.2 rfl
                                clear s2 s4
                                go_wp2_with fail
                                go_roundg (nl.length - (i + 1))
                                case measure => omega
                                case rel => exact ⟨i + 1, _, by go_num, rfl, by omega, by simp [hl2], HSk2, HYk2, HBk3, HAk2, HBk2, HNk2, HEk2⟩
                              · clear s2
                                go_wp2_with fail
                                go_roundg (nl.length - (i + 1))
                                case measure => omega
                                case rel => exact ⟨i + 1, _, by go_num, rfl, by omega, by simp [hl2], HSk2, HYk2, HBk3, HAk2, HBk2, HNk2, HEk2⟩
                        · have hsu := HSk.out
                          rw [List.drop_eq_nil_of_le (by omega)] at hsu
                          unfold suc at hsu
                          injection hsu with u1 u2
                          subst u1; subst u2
                          have HX2 : Hid (hts c f gk' h2 (d.set k true) = (xl, xa', xe)) := by
                            have hx := HC.out
                            rw [if_pos rfl] at hx
                            exact hx
                          clear HC HSk
                          go_wp2_with fail
                          go_roundg gk'
                          case measure => omega
                          case rel => exact ⟨h2, _, hl2, by simp [hdl], by omega, by omega, HX2, HBDk, HAk, HBk, HEk⟩

                  · have e10 : (op == 10) = false := beq_eq_false_iff_ne.2 r2
                    have HC : Hid ((if E = 0 then hts c f gk' h' (d.set k true) else ([], (k : Int), E)) = (xl, xa', xe)) := by
                      have hx := HST.out
                      rw [if_neg r1, if_neg (fun q => r2 q.1)] at hx
                      exact hx
                    clear HST
                    go_wp2_with fail
                    refine (rnext_x op x k w6 (by omega)).mono ?_
                    rintro e w7 ⟨nv, rfl, hns, h7⟩
                    obtain ⟨nl, hnl⟩ : ∃ nl, nxt op x k = nl := ⟨_, rfl⟩
                    have hn2 := nxt_len op x k
                    have HNN : Hid (∀ q ∈ nl, (0 : Int) ≤ q) := by rw [← hnl]; exact nxt_nn HHR.out
                    rw [hnl] at hns hn2
                    have HSL : Hid (suc (y - pops + push) nl h = (E, h')) := by rw [← hnl]; exact HSU.out
                    obtain ⟨nA, nC, hnv⟩ := hns.shape
                    subst hnv
                    have HNS : Hid (SlR (fun b => w6.heap.size ≤ b) w7 1 (.slice nA nl.length nC) nl.length (ints nl)) := hns
                    have HE7 := Lib.hid (HE6.out.ext h7)
                    have HA7 := Lib.hid (HA6.out.kept h7 (fun h => h))
                    have HB7 := Lib.hid (HB6.out.kept h7 (fun h => h))
                    have hg6 := HA6.out.lt
                    have hgd6 := HB6.out.lt
                    have HBD7 : Hid (∀ j, -1 ≤ h.getD j (-1) ∧ h.getD j (-1) ≤ 2 * ((f.code.length : Int) + 1 - gk')) := fun j => by have := HBDD.out j; omega
                    clear hns hnl h7 a6 n0 n1 HSU HA6 HB6
                    go_wp2_with fail
                    obtain ⟨wb, hwb⟩ : ∃ wb, wb = wr := ⟨_, rfl⟩
                    subst hwb
                    go_loopg [15, 16] nl.length (fun gk3 s15 _ wr => ∃ (i : Nat) (h2 : List Int), s15 = .int .i64 i ∧ gk3 = nl.length - i ∧ i ≤ nl.length ∧ h2.length = f.code.length ∧ Hid (suc (y - pops + push) (nl.drop i) h2 = (E, h')) ∧ Hid (h2.getD k (-1) = y) ∧ Hid (∀ j, -1 ≤ h2.getD j (-1) ∧ h2.getD j (-1) ≤ 2 * ((f.code.length : Int) + 1 - gk')) ∧ Hid (Arr wr g 3 (ints h2)) ∧ Hid (Arr wr gd 4 (bools (d.set k true))) ∧ Hid (SlR (fun b => w6.heap.size ≤ b) wr 1 (.slice nA nl.length nC) nl.length (ints nl)) ∧ Hid (Ext ((w.alloc (.cells #[.slice xa c.fields.length ca, .int .i64 c.glob, .slice xf c.funcs.length cf] 25)).alloc (.cells #[.string f.name, .int .i64 f.params, .int .i64 f.locals, .bool f.result, .slice (some ⟨gi, oi, none⟩) f.code.length cv] 39)) wr))
                    case atStart => exact ⟨0, h, rfl, rfl, Nat.zero_le _, hhl, HSL.out, HY.out, HBD7, HA7, HB7, HNS, HE7⟩
                    case round =>
                      obtain ⟨i, h2, rfl, rfl, hi, hl2, HSk, HYk, HBDk, HAk, HBk, HNk, HEk⟩ := hrel
                      by_cases hil : i < nl.length
                      · obtain ⟨gx, ox, cx, hvx, hcx, hSx, hjx⟩ := HNk.out.pos (by omega)
                        injection hvx with q1 q2 q3
                        subst q1; subst q3
                        obtain ⟨q, hq⟩ : ∃ q, nl.getD i (-1) = q := ⟨_, rfl⟩
                        have c0 := hjx i (by omega)
                        rw [ints_get nl i hil, hq] at c0
                        have hq0 : 0 ≤ q := HNN.out q (by rw [← hq]; simp [hil])
                        have hdr : nl.drop i = q :: nl.drop (i + 1) := by
                          rw [List.drop_eq_getElem_cons hil, ← hq]; simp [hil]
                        have j0' : (0 : Int) ≤ (i : Int) := by omega
                        have j1' : (i : Int) < (nl.length : Int) := by omega
                        clear hjx q2 hq hSx
                        by_cases s1 : (f.code.length : Int) ≤ q
                        · have hsu := HSk.out
                          rw [hdr] at hsu
                          unfold suc at hsu
                          rw [if_pos (by omega)] at hsu
                          injection hsu with u1 u2
                          subst u1; subst u2
                          have hx := HC.out
                          rw [if_neg (by decide)] at hx
                          injection hx with q1 q2
                          injection q2 with q2 q3
                          subst q1; subst q2; subst q3
                          clear HX0 HC HSk hdr
                          go_wp2_with fail
                          exact bodyPost_ret (v := .tuple #[.slice none 0 0, .int .i64 k, .int .i64 8]) (by simp [results, Tryd.results12, go_sem]) rfl ⟨_, rfl, SlR.nil _ _ _, HE0.out.ext HEk.out⟩
                        · obtain ⟨t, rfl⟩ : ∃ t : Nat, q = t := ⟨q.toNat, by omega⟩
                          have a2 := HAk.out.cell (ints_get h2 t (by omega))
                          have a3 := HAk.out.cell (ints_get h2 k (by omega))
                          have a4 := HAk.out.mark t
                          rw [HYk.out] at a3
                          obtain ⟨hv, hhv⟩ : ∃ hv, h2.getD t (-1) = hv := ⟨_, rfl⟩
                          rw [hhv] at a2
                          have t0' : (0 : Int) ≤ (t : Int) := by omega
                          have t1' : (t : Int) < (f.code.length : Int) := by omega
                          by_cases s2 : 0 ≤ hv ∧ hv ≠ (y - pops + push)
                          · have hsu := HSk.out
                            rw [hdr] at hsu
                            unfold suc at hsu
                            rw [if_neg (by omega), if_pos (by rw [Int.toNat_natCast, hhv]; exact s2)] at hsu
                            injection hsu with u1 u2
                            subst u1; subst u2
                            have hx := HC.out
                            rw [if_neg (by decide)] at hx
                            injection hx with q1 q2
                            injection q2 with q2 q3
                            subst q1; subst q2; subst q3
                            clear HX0 HC HSk hdr
                            obtain ⟨s3, s4⟩ := s2
                            have s5 : (hv == (y - pops + push)) = false := beq_eq_false_iff_ne.2 s4
                            have s6 : (hv != (y - pops + push)) = true := bne_iff_ne.2 s4
                            clear hhv
                            go_wp2_with fail
                            exact bodyPost_ret (v := .tuple #[.slice none 0 0, .int .i64 k, .int .i64 13]) (by simp [results, Tryd.results12, go_sem]) rfl ⟨_, rfl, SlR.nil _ _ _, HE0.out.ext HEk.out⟩
                          · have HSk2 : Hid (suc (y - pops + push) (nl.drop (i + 1)) (h2.set t (y - pops + push)) = (E, h')) := by
                              have hsu := HSk.out
                              rw [hdr] at hsu
                              unfold suc at hsu
                              rw [if_neg (by omega), if_neg (by rw [Int.toNat_natCast, hhv]; exact s2), Int.toNat_natCast] at hsu
                              exact hsu
                            have HAk2 : Hid (Arr (wr.setCell ⟨g, t, none⟩ (.int .i64 (y - pops + push))) g 3 (ints (h2.set t (y - pops + push)))) := by
                              have := HAk.out.set (j := t) (by rw [ints_len]; omega) (.int .i64 (y - pops + push))
                              rw [ints_set] at this
                              exact this
                            have HBk2 := Lib.hid (HBk.out.kept (updAt (g := g) (j := t) (.int .i64 (y - pops + push))) (fun e => hne e.symm))
                            have HNk2 := Lib.hid (HNk.out.kept (updAt (g := g) (j := t) (.int .i64 (y - pops + push))) (fun b hb e => by omega))
                            have HEk2 : Hid (Ext ((w.alloc (.cells #[.slice xa c.fields.length ca, .int .i64 c.glob, .slice xf c.funcs.length cf] 25)).alloc (.cells #[.string f.name, .int .i64 f.params, .int .i64 f.locals, .bool f.result, .slice (some ⟨gi, oi, none⟩) f.code.length cv] 39)) (wr.setCell ⟨g, t, none⟩ (.int .i64 (y - pops + push)))) := HEk.out.setNew (by simpa using hgb') _
                            have HYk2 : Hid ((h2.set t (y - pops + push)).getD k (-1) = y) := by
                              show _ = _
                              rw [getD_set_int _ _ _ _ (by omega)]
                              by_cases e : k = t
                              · rw [if_pos e]
                                have : hv = y := by rw [← hhv, ← e]; exact HYk.out
                                by_cases z : hv = (y - pops + push)
                                · omega
                                · exact absurd ⟨by omega, z⟩ s2
                              · rw [if_neg e]; exact HYk.out
                            have HBk3 : Hid (∀ j, -1 ≤ (h2.set t (y - pops + push)).getD j (-1) ∧ (h2.set t (y - pops + push)).getD j (-1) ≤ 2 * ((f.code.length : Int) + 1 - gk')) := fun j => by
                              rw [getD_set_int _ _ _ _ (by omega)]
                              by_cases e : j = t
                              · rw [if_pos e]; omega
                              · rw [if_neg e]; exact HBDk.out j
                            clear HSk hdr hhv HAk HBk HNk HEk HYk HBDk
                            by_cases s3 : 0 ≤ hv
                            · have s4 : hv = (y - pops + push) := by
                                by_cases z : hv = (y - pops + push)
                                · exact z
                                · exact absurd ⟨s3, z⟩ s2
                              have s5 : (hv == (y - pops + push)) = true := beq_iff_eq.2 s4
                              have s6 : (hv != (y - pops + push)) = false := by rw [s4]; simp
                              have s5' : ((y - pops + push) == (y - pops + push)) = true := beq_iff_eq.2 rfl
                              clear s2 s4
                              go_wp2_with fail
                              go_roundg (nl.length - (i + 1))
                              case measure => omega
                              case rel => exact ⟨i + 1, _, by go_num, rfl, by omega, by simp [hl2], HSk2, HYk2, HBk3, HAk2, HBk2, HNk2, HEk2⟩
                            · clear s2
                              go_wp2_with fail
                              go_roundg (nl.length - (i + 1))
                              case measure => omega
                              case rel => exact ⟨i + 1, _, by go_num, rfl, by omega, by simp [hl2], HSk2, HYk2, HBk3, HAk2, HBk2, HNk2, HEk2⟩
                      · have hsu := HSk.out
                        rw [List.drop_eq_nil_of_le (by omega)] at hsu
                        unfold suc at hsu
                        injection hsu with u1 u2
                        subst u1; subst u2
                        have HX2 : Hid (hts c f gk' h2 (d.set k true) = (xl, xa', xe)) := by
                          have hx := HC.out
                          rw [if_pos rfl] at hx
                          exact hx
                        clear HC HSk
                        go_wp2_with fail
                        go_roundg gk'
                        case measure => omega
                        case rel => exact ⟨h2, _, hl2, by simp [hdl], by omega, by omega, HX2, HBDk, HAk, HBk, HEk⟩

          · obtain rfl : k = f.code.length := by omega
            have hx := HX.out
            obtain ⟨gk', rfl⟩ : ∃ g', gk = g' + 1 := ⟨gk - 1, by omega⟩
            unfold hts at hx
            rw [if_pos (by rw [hhl]; exact fst1_is _ _ _ _ (by omega) (by omega) (fun i _ hi => HK.out i hi) (fun hlt => by omega))] at hx
            injection hx with q1 q2
            injection q2 with q2 q3
            subst q1; subst q2; subst q3
            have hs : SlR Any1 wr 1 (.slice (some ⟨g, 0, none⟩) f.code.length hC) h.length (ints h) := by
              have := HA.out.slR (cap := hC) (by rw [ints_len, hhl]; exact hcap) (S := Any1) trivial
              rw [ints_len, hhl] at this
              rw [hhl]; exact this
            have HS := Lib.hid hs
            have e1 : (((f.code.length : Nat) : Int) == ((f.code.length : Nat) : Int)) = true := beq_iff_eq.2 rfl
            clear HX HX0 HA HB hs
            go_wp2_with fail
            exact bodyPost_ret (v := .tuple #[.slice (some ⟨g, 0, none⟩) f.code.length hC, .int .i64 0, .int .i64 0]) (by simp [results, Tryd.results12, go_sem]) rfl ⟨_, rfl, HS.out, HE0.out.ext HE.out⟩


end Go.Proofs.YtlbnilhbfiidmaaDoor
