/- The texts I2 I3 I4 I5, one behind the other. -/
import Derived.Test.YtjjaknmnhhfjeaaGreatDoorKAG
import Derived.Test.YtjjaknmnhhfjeaaGreatDoorKAH
import Derived.Test.YtjjaknmnhhfjeaaGreatDoorKAC
import Derived.Test.YtjjaknmnhhfjeaaGreatDoorKAB
/- formed. -/
namespace Go.Proofs.YtjjaknmnhhfjeaaGreatDoor
open Go.RowKit Go.Hw Go
set_option linter.unusedVariables false
set_option linter.unusedSimpArgs false

open Go.Shelf Tm
attribute [local go_sem] Oper.semAt_some
theorem below_ext {n : Nat} {w W : World} (h : Below n w W) (hn : w.heap.size ≤ n) : Ext w W := ⟨h.os, h.tape, h.output, h.size, fun k hk _ => h.block k (by omega)⟩
def okNs (pre : List Nd) : Bool := pre.all fun x => okN nmB x.pr
theorem okNs_snoc (pre : List Nd) (x : Nd) : okNs (pre ++ [x]) = (okNs pre && okN nmB x.pr) := by unfold okNs; rw [List.all_append]; simp
theorem keeps_upd {F : Nat → Prop} {W W' : World} (B : Nat) (h : Upd F W W') (hF : ∀ k o, F k → W.heap[k]? = some o → o.isCells = true) : KeepsFrom B W W' :=
  ⟨h.size, fun k o _ hk ho => by
    by_cases hf : F k
    · rw [hF k o hf hk] at ho; cases ho
    · exact h.heap hk hf⟩
theorem keeps_ext {W W' : World} (B : Nat) (h : Ext W W') : KeepsFrom B W W' := keeps_upd B h (fun _ _ h => h.elim)
theorem okNs_bad {pre : List Nd} {t : Tm} (hp : pre.map Nd.pr <+: nodesD 1 t) (h : okNs pre = false ∨ 1000 < pre.length) : formed nmB t = false := by
  rw [Bool.eq_false_iff]
  intro hc
  obtain ⟨h1, h2⟩ := (formed_iff nmB t).1 hc
  obtain ⟨r, hr⟩ := hp
  rcases h with h | h
  · have h3 : okNs pre = true := by
      unfold okNs
      rw [List.all_eq_true]
      intro x hx
      refine h2 x.pr ?_
      rw [← hr]
      exact List.mem_append_left _ (List.mem_map_of_mem hx)
    rw [h] at h3; cases h3
  · have h4 := congrArg List.length hr
    rw [List.length_append, List.length_map, nodesD_len] at h4
    omega
theorem okNs_all {xs : List Nd} {t : Tm} (hp : xs.map Nd.pr = nodesD 1 t) (h : okNs xs = true) (hl : xs.length ≤ 1000) : formed nmB t = true := by
  rw [formed_iff]
  have h4 := congrArg List.length hp
  rw [List.length_map, nodesD_len] at h4
  refine ⟨by omega, fun p hpm => ?_⟩
  rw [← hp] at hpm
  obtain ⟨x, hx, rfl⟩ := List.mem_map.1 hpm
  unfold okNs at h
  rw [List.all_eq_true] at h
  exact h x hx
set_option maxRecDepth 100000 in
set_option maxHeartbeats 4000000 in
theorem formed_x (t : Tm) (v : Value) (w : World) (htab : AscT w) (hR : TmR (fun k => k < w.heap.size) w t v) (hsz : (t.size : Int) ≤ 1000000000000) : Calls Tryz.prog 49 #[v] w fun e w' => e = .returned (.bool (formed nmB t)) ∧ Ext w w' := by
  obtain ⟨a, cap, rfl, hR⟩ := hR
  dsimp only [tV]
  have ha0 := alloc0 w (.cells #[.string t.name, .string t.sort, .slice a t.kids.length cap] 24)
  refine (callsIn_wide (n := 9)).1 ?_
  have hro : Fence.wide.round = none := rfl
  have hd : Fence.wide.depth = none := rfl
  have hf : ∀ k, Fence.wide.fn k := fun _ => trivial
  have h1 : 1 ≤ 9 := by omega
  refine callsIn_of_wp_marks Tryz.func49 rfl trivial ?_ hro
  have hE3 : Ext w (((w.alloc (.cells #[.string t.name, .string t.sort, .slice a t.kids.length cap] 24)).alloc (.cells #[.bool false] 4)).alloc (.cells #[.int .i64 0] 3)) := (((Upd.refl _ w).alloc _).alloc _).alloc _
  have hs3 : (((w.alloc (.cells #[.string t.name, .string t.sort, .slice a t.kids.length cap] 24)).alloc (.cells #[.bool false] 4)).alloc (.cells #[.int .i64 0] 3)).heap.size = w.heap.size + 3 := by simp
  have hbR : (((w.alloc (.cells #[.string t.name, .string t.sort, .slice a t.kids.length cap] 24)).alloc (.cells #[.bool false] 4)).alloc (.cells #[.int .i64 0] 3)).heap[w.heap.size + 1]? = some (.cells #[.bool false] 4 (0, 0)) := allocOld (alloc_at _ _ (by simp)) _
  have hbN : (((w.alloc (.cells #[.string t.name, .string t.sort, .slice a t.kids.length cap] 24)).alloc (.cells #[.bool false] 4)).alloc (.cells #[.int .i64 0] 3)).heap[w.heap.size + 2]? = some (.cells #[.int .i64 0] 3 (0, 0)) := alloc_at _ _ (by simp)
  simp only [Tryz.ntmps49, List.size_toArray, List.length_cons, List.length_nil, Nat.reduceAdd, Nat.reduceSub, Array.replicate_succ, Array.replicate_zero, List.push_toArray, List.append_toArray, List.nil_append, List.cons_append]
  gi_wp2
  generalize (((w.alloc (.cells #[.string t.name, .string t.sort, .slice a t.kids.length cap] 24)).alloc (.cells #[.bool false] 4)).alloc (.cells #[.int .i64 0] 3)) = w3 at *
  refine (callsIn_wide.2 (nodes_x t (.slice a t.kids.length cap) w3 ⟨_, _, _, rfl⟩)).mono ?_
  rintro e w4 ⟨rfl, hE4, hs4, hb4, hv4⟩
  rw [hs3] at hs4 hb4 hv4 ⊢
  have hE := hE3.ext hE4
  have hbR4 := hE4.heap hbR (fun h => h)
  have hbN4 := hE4.heap hbN (fun h => h)
  clear hE3 hs3 hbR hbN hE4
  gi_wp2
  rw [show w.heap.size + 2 = w.heap.size + 1 + 1 from rfl] at hbN4
  generalize hB2 : w.heap.size + 1 + 1 = B2 at *
  generalize hB1 : w.heap.size + 1 = B1 at *
  generalize hB4 : w.heap.size + 3 + 1 = B4 at *
  generalize hB3 : w.heap.size + 3 = B3 at *
  generalize hB0 : w.heap.size = B0 at *
  refine wpIn_rangeFunc_ownH hro h1 (gf := 114) (lb := #[.pointer (some ⟨B4, 0, none⟩), .pointer (some ⟨B3, 0, none⟩)]) rfl trivial (enters_of Tryz.func114 (by kernel_rfl) rfl)
    (nodes_stops Fence.wide hd (9 - 1) hf hro B4 B3 (fun k => k = B1 ∨ k = B2) (fun k => k < B0) w4 (by omega) (by omega) (by omega) (by omega) t a cap (hR.ext hE) hv4 hb4 (by omega)) (fun h k => KpG.trans h k) (fun W l o o' _ hl hc _ => KpG.putObj W l o o' hl hc) (Below.refl _ _) (fun _ => rfl)
    (fun pre W => (((okNs pre = true ∧ pre.length ≤ 1000) ∧ Boxed W B1 4 (.bool false)) ∧ Boxed W B2 3 (.int .i64 (pre.length : Int))) ∧ (Boxed W B4 163 (.func (.func 113) #[] #[.pointer (some ⟨B4, 0, none⟩)]) ∧ Below B0 w W))
    (fun c pre W => ((c = .ret ∧ (okNs pre = false ∨ 1000 < pre.length)) ∧ Boxed W B1 4 (.bool false)) ∧ Below B0 w W)
    (OwnFrom.and (OwnFrom.and (OwnFrom.and (ownFrom_pure _ _) (Own.from (boxed_own _ _ _) _)) (Own.from (boxed_own B2 3 (fun pre : List Nd => Value.int .i64 (pre.length : Int))) _)) (OwnFrom.and (Own.from (boxed_own _ _ _) _) (ownFrom_below (by omega) (by omega))))
    (fun c => OwnFrom.and (OwnFrom.and (ownFrom_pure _ _) (Own.from (boxed_own _ _ _) _)) (ownFrom_below (by omega) (by omega)))
    ⟨⟨⟨⟨rfl, by decide⟩, hbR4⟩, hbN4⟩, hv4, hB0 ▸ Ext.below hE⟩
    (fun x a' W => ∃ Bx, B4 < Bx ∧ W.heap[Bx]? = some (.cells #[.string x.t.name, .string x.t.sort, .slice x.a x.t.kids.length x.cap] 24 (0, 0)) ∧ a' = { tmps := #[(.agg #[.string t.name, .string t.sort, .slice a t.kids.length cap]), .pointer (some ⟨B0, 0, none⟩), .pointer (some ⟨B1, 0, none⟩), .pointer (some ⟨B2, 0, none⟩), .pointer (some ⟨Bx, 0, none⟩), .int .i64 (x.d : Int), (.agg #[.string t.name, .string t.sort, .slice a t.kids.length cap]), (.func (.func 114) #[] #[.pointer (some ⟨B4, 0, none⟩), .pointer (some ⟨B3, 0, none⟩)]), (.agg #[.string x.t.name, .string x.t.sort, .slice x.a x.t.kids.length x.cap]), .int .i64 (x.d : Int), undef, undef, undef, undef, undef, undef, undef, undef, undef, undef, undef, undef, undef, undef, undef, undef, undef, undef, undef, undef, undef, undef, undef, undef, undef, undef, undef, undef, undef, undef, undef, undef, undef, undef, undef], defers := [] })
    (fun x a' _ X Y row hs hg hr => by
      obtain ⟨Bx, e1, e2, e3⟩ := hs
      refine ⟨Bx, e1, (Upd.of_grown hg).heap e2 (fun e => ?_), e3⟩
      obtain ⟨o, ho, hc⟩ := (hr Bx e.symm).2
      rw [e2] at ho
      cases ho
      cases hc) ?assign ?body ?done ?stop
  case assign =>
    rintro l pre x W K ⟨⟨⟨hok, hb1⟩, hb2⟩, hb4, hB⟩ hK
    dsimp only [Nd.encs, tV]
    have hbx := alloc0 W (.cells #[.string x.t.name, .string x.t.sort, .slice x.a x.t.kids.length x.cap] 24)
    have hlt := hb2.lt
    gi_wp2
    exact hK _ _ (keeps_ext _ ((Upd.refl _ W).alloc _)) (KpG.of_ext ((Upd.refl _ W).alloc _)) ⟨⟨⟨hok, hb1.alloc _⟩, hb2.alloc _⟩, hb4.alloc _, hB.alloc (by have := hB.size; omega) _⟩ ⟨W.heap.size, hb4.lt, hbx, rfl⟩
  case body =>
    rintro l pre x a' W hl hrec ⟨⟨⟨⟨hok, hlen⟩, hb1⟩, hb2⟩, hb4, hB⟩ ⟨Bx, hBx, hbx, rfl⟩ hlt
    have hE0 := below_ext hB (by omega)
    have hu : Upd (fun k => k = B2) W (W.setCell ⟨B2, 0, none⟩ (.int .i64 ((pre.length : Int) + 1))) := (Upd.refl (fun k => k = B2) W).setCell (p := ⟨B2, 0, none⟩) (.inl rfl) _
    have n0 := hb2.cell
    have n1 := hb2.frozen
    have hwn : IntKind.i64.wrap ((pre.length : Int) + 1) = (pre.length : Int) + 1 := IntWalk.i64_in _ (by omega)
    have hlt4 := hb4.lt
    have hE1 : Ext w (W.setCell ⟨B2, 0, none⟩ (.int .i64 ((pre.length : Int) + 1))) := hE0.trans' hu (fun i hi e => by omega)
    have hbx1 := hu.heap hbx (by omega)
    have hb21 : Boxed (W.setCell ⟨B2, 0, none⟩ (.int .i64 ((pre.length : Int) + 1))) B2 3 (.int .i64 ((pre.length : Int) + 1)) := setBlock hb2 0 _
    have hb11 : Boxed (W.setCell ⟨B2, 0, none⟩ (.int .i64 ((pre.length : Int) + 1))) B1 4 (.bool false) := hu.heap hb1 (by omega)
    have hb41 : Boxed (W.setCell ⟨B2, 0, none⟩ (.int .i64 ((pre.length : Int) + 1))) B4 163 (.func (.func 113) #[] #[.pointer (some ⟨B4, 0, none⟩)]) := hu.heap hb4 (by omega)
    have m0 := hb21.cell
    have x0 := cellRow hbx1 0 (.string x.t.name) rfl
    have x1 := cellRow hbx1 1 (.string x.t.sort) rfl
    have x2 := cellRow hbx1 2 (.slice x.a x.t.kids.length x.cap) rfl
    have r0 := hb11.cell
    have r1 := hb11.frozen
    have hkg : KpG (fun k => k = B1 ∨ k = B2) W (W.setCell ⟨B2, 0, none⟩ (.int .i64 ((pre.length : Int) + 1))) := KpG.of_upd hu (fun k _ e => .inr e)
    have hkf : KeepsFrom w4.heap.size W (W.setCell ⟨B2, 0, none⟩ (.int .i64 ((pre.length : Int) + 1))) := keeps_upd _ hu (fun k o e ho => by subst e; rw [show W.heap[k]? = _ from hb2] at ho; cases ho; rfl)
    have hBl : Below B0 w (W.setCell ⟨B2, 0, none⟩ (.int .i64 ((pre.length : Int) + 1))) := hB0 ▸ Ext.below hE1
    have HNM := Lib.hid (fun s W' (hW' : Ext w W') => isName_x s W' (asc_ext htab hW'))
    have hbadlen : 1000 < pre.length + 1 → 1000 < (pre ++ [x]).length := fun h => by rw [List.length_append]; exact h
    have hsn := okNs_snoc pre x
    rw [hok, Bool.true_and] at hsn
    have HSN := Lib.hid hsn
    have HREC := Lib.hid hrec
    clear hrec hsn hE0 hok hb1 hb2 hb4 hbx hB hu
    by_cases h1 : 1000 < pre.length + 1
    · have t1 : decide ((1000 : Int) < (pre.length : Int) + 1) = true := decide_eq_true (by omega)
      gi_wp2
      have st := (Upd.refl (fun k => k = B1) (W.setCell ⟨B2, 0, none⟩ (.int .i64 ((pre.length : Int) + 1)))).setCell (p := ⟨B1, 0, none⟩) (.inl rfl) (.bool false)
      have hbz : Boxed (W.setCell ⟨B2, 0, none⟩ (.int .i64 ((pre.length : Int) + 1))) B1 4 (.bool false) := (Upd.refl (fun _ => False) (W.setCell ⟨B2, 0, none⟩ (.int .i64 ((pre.length : Int) + 1)))).heap hb11 (fun h => h)
      refine ⟨hkf.trans ((keeps_ext _ (Upd.refl (fun _ => False) (W.setCell ⟨B2, 0, none⟩ (.int .i64 ((pre.length : Int) + 1))))).trans (keeps_upd _ st (fun k o e ho => by subst e; rw [show (W.setCell ⟨B2, 0, none⟩ (.int .i64 ((pre.length : Int) + 1))).heap[k]? = _ from hbz] at ho; cases ho; rfl))), ⟨⟨rfl, .inr (hbadlen h1)⟩, setBlock hbz 0 (.bool false)⟩, hB0 ▸ Ext.below ((hE1.ext (Upd.refl (fun _ => False) (W.setCell ⟨B2, 0, none⟩ (.int .i64 ((pre.length : Int) + 1))))).setNew (show w.heap.size ≤ B1 by omega) _)⟩
    have t1 : decide ((1000 : Int) < (pre.length : Int) + 1) = false := decide_eq_false (by omega)
    by_cases h2 : 60 < x.d
    · have t2 : decide ((60 : Int) < (x.d : Int)) = true := decide_eq_true (by omega)
      have t2' : decide (60 < x.d) = true := decide_eq_true h2
      gi_wp2
      have st := (Upd.refl (fun k => k = B1) (W.setCell ⟨B2, 0, none⟩ (.int .i64 ((pre.length : Int) + 1)))).setCell (p := ⟨B1, 0, none⟩) (.inl rfl) (.bool false)
      have hbz : Boxed (W.setCell ⟨B2, 0, none⟩ (.int .i64 ((pre.length : Int) + 1))) B1 4 (.bool false) := (Upd.refl (fun _ => False) (W.setCell ⟨B2, 0, none⟩ (.int .i64 ((pre.length : Int) + 1)))).heap hb11 (fun h => h)
      refine ⟨hkf.trans ((keeps_ext _ (Upd.refl (fun _ => False) (W.setCell ⟨B2, 0, none⟩ (.int .i64 ((pre.length : Int) + 1))))).trans (keeps_upd _ st (fun k o e ho => by subst e; rw [show (W.setCell ⟨B2, 0, none⟩ (.int .i64 ((pre.length : Int) + 1))).heap[k]? = _ from hbz] at ho; cases ho; rfl))), ⟨⟨rfl, .inl (by rw [HSN.out]; unfold okN Nd.pr; simp only [decide_eq_false (show ¬ x.d ≤ 60 by omega), Bool.false_and])⟩, setBlock hbz 0 (.bool false)⟩, hB0 ▸ Ext.below ((hE1.ext (Upd.refl (fun _ => False) (W.setCell ⟨B2, 0, none⟩ (.int .i64 ((pre.length : Int) + 1))))).setNew (show w.heap.size ≤ B1 by omega) _)⟩
    have t2 : decide ((60 : Int) < (x.d : Int)) = false := decide_eq_false (by omega)
    have t2' : decide (60 < x.d) = false := decide_eq_false h2
    have k2 : decide (x.d ≤ 60) = true := decide_eq_true (by omega)
    have HN1 := Lib.hid (HNM.out x.t.name (W.setCell ⟨B2, 0, none⟩ (.int .i64 ((pre.length : Int) + 1))) hE1)
    cases hnm : nmB x.t.name
    · rw [hnm] at HN1
      gi_wp2
      refine (CallsIn.inRound l (callsIn_wide.2 HN1.out)).mono ?_
      rintro e W2 ⟨rfl, hW2⟩
      have hbx2b := (hW2).heap hbx1 (fun h => h)
      have x0b := cellRow hbx2b 0 (.string x.t.name) rfl
      have x1b := cellRow hbx2b 1 (.string x.t.sort) rfl
      have x2b := cellRow hbx2b 2 (.slice x.a x.t.kids.length x.cap) rfl
      have hbrb : Boxed _ B1 4 (.bool false) := (hW2).heap hb11 (fun h => h)
      have r0b := hbrb.cell
      have r1b := hbrb.frozen
      clear x0 x1 x2 r0 r1
      gi_wp2
      have st := (Upd.refl (fun k => k = B1) W2).setCell (p := ⟨B1, 0, none⟩) (.inl rfl) (.bool false)
      have hbz : Boxed W2 B1 4 (.bool false) := (hW2).heap hb11 (fun h => h)
      refine ⟨hkf.trans ((keeps_ext _ (hW2)).trans (keeps_upd _ st (fun k o e ho => by subst e; rw [show W2.heap[k]? = _ from hbz] at ho; cases ho; rfl))), ⟨⟨rfl, .inl (by rw [HSN.out]; unfold okN Nd.pr; simp only [k2, hnm, Bool.true_and, Bool.false_and])⟩, setBlock hbz 0 (.bool false)⟩, hB0 ▸ Ext.below ((hE1.ext (hW2)).setNew (show w.heap.size ≤ B1 by omega) _)⟩
    rw [hnm] at HN1
    by_cases h4 : 6 < x.t.kids.length
    · have t4 : decide ((6 : Int) < (x.t.kids.length : Int)) = true := decide_eq_true (by omega)
      have t4' : decide (6 < x.t.kids.length) = true := decide_eq_true h4
      gi_wp2
      refine (CallsIn.inRound l (callsIn_wide.2 HN1.out)).mono ?_
      rintro e W2 ⟨rfl, hW2⟩
      have hbx2b := (hW2).heap hbx1 (fun h => h)
      have x0b := cellRow hbx2b 0 (.string x.t.name) rfl
      have x1b := cellRow hbx2b 1 (.string x.t.sort) rfl
      have x2b := cellRow hbx2b 2 (.slice x.a x.t.kids.length x.cap) rfl
      have hbrb : Boxed _ B1 4 (.bool false) := (hW2).heap hb11 (fun h => h)
      have r0b := hbrb.cell
      have r1b := hbrb.frozen
      clear x0 x1 x2 r0 r1
      gi_wp2
      have st := (Upd.refl (fun k => k = B1) W2).setCell (p := ⟨B1, 0, none⟩) (.inl rfl) (.bool false)
      have hbz : Boxed W2 B1 4 (.bool false) := (hW2).heap hb11 (fun h => h)
      refine ⟨hkf.trans ((keeps_ext _ (hW2)).trans (keeps_upd _ st (fun k o e ho => by subst e; rw [show W2.heap[k]? = _ from hbz] at ho; cases ho; rfl))), ⟨⟨rfl, .inl (by rw [HSN.out]; unfold okN Nd.pr; simp only [k2, hnm, decide_eq_false (show ¬ x.t.kids.length ≤ 6 by omega), Bool.true_and, Bool.false_and])⟩, setBlock hbz 0 (.bool false)⟩, hB0 ▸ Ext.below ((hE1.ext (hW2)).setNew (show w.heap.size ≤ B1 by omega) _)⟩
    have t4 : decide ((6 : Int) < (x.t.kids.length : Int)) = false := decide_eq_false (by omega)
    have t4' : decide (6 < x.t.kids.length) = false := decide_eq_false h4
    have k4 : decide (x.t.kids.length ≤ 6) = true := decide_eq_true (by omega)
    gi_wp2
    refine (CallsIn.inRound l (callsIn_wide.2 HN1.out)).mono ?_
    rintro e W2 ⟨rfl, hW2⟩
    have hbx2b := (hW2).heap hbx1 (fun h => h)
    have x0b := cellRow hbx2b 0 (.string x.t.name) rfl
    have x1b := cellRow hbx2b 1 (.string x.t.sort) rfl
    have x2b := cellRow hbx2b 2 (.slice x.a x.t.kids.length x.cap) rfl
    have hbrb : Boxed _ B1 4 (.bool false) := (hW2).heap hb11 (fun h => h)
    have r0b := hbrb.cell
    have r1b := hbrb.frozen
    clear x0 x1 x2 r0 r1
    by_cases hs0 : x.t.sort.size = 0
    · have hse := empty_is _ hs0
      rw [hse] at x1b
      gi_wp2
      any_goals (first | exact ⟨hkf.trans (keeps_ext _ (hW2)), hkg.trans (KpG.of_ext (hW2)), ⟨⟨⟨⟨by rw [HSN.out]; unfold okN Nd.pr; simp only [k2, hnm, k4, decide_eq_true (show x.t.sort = nul from hse), Bool.true_and, Bool.true_or], by rw [List.length_append]; exact Nat.le_of_not_lt h1⟩, (hW2).heap hb11 (fun h => h)⟩, by rw [List.length_append]; exact (hW2).heap hb21 (fun h => h)⟩, (hW2).heap hb41 (fun h => h), hB0 ▸ Ext.below (hE1.ext (hW2))⟩⟩ | fail)
      all_goals (rename_i hq _; exact absurd hq (by simp [undef]))
    have k5 : decide (x.t.sort = nul) = false := decide_eq_false (fun e => hs0 (by rw [e]; rfl))
    obtain ⟨e1, e2, e3, e4⟩ := nonempty_t x.t.sort (Nat.pos_of_ne_zero hs0)
    have HN3 := Lib.hid (HNM.out x.t.sort W2 (hE1.ext hW2))
    cases hns : nmB x.t.sort
    · rw [hns] at HN3
      gi_wp2
      refine (CallsIn.inRound l (callsIn_wide.2 HN3.out)).mono ?_
      rintro e W3 ⟨rfl, hW3⟩
      have hbx2c := (hW2.ext hW3).heap hbx1 (fun h => h)
      have x0c := cellRow hbx2c 0 (.string x.t.name) rfl
      have x1c := cellRow hbx2c 1 (.string x.t.sort) rfl
      have x2c := cellRow hbx2c 2 (.slice x.a x.t.kids.length x.cap) rfl
      have hbrc : Boxed _ B1 4 (.bool false) := (hW2.ext hW3).heap hb11 (fun h => h)
      have r0c := hbrc.cell
      have r1c := hbrc.frozen
      clear x0b x1b x2b r0b r1b
      gi_wp2
      have st := (Upd.refl (fun k => k = B1) W3).setCell (p := ⟨B1, 0, none⟩) (.inl rfl) (.bool false)
      have hbz : Boxed W3 B1 4 (.bool false) := (hW2.ext hW3).heap hb11 (fun h => h)
      refine ⟨hkf.trans ((keeps_ext _ (hW2.ext hW3)).trans (keeps_upd _ st (fun k o e ho => by subst e; rw [show W3.heap[k]? = _ from hbz] at ho; cases ho; rfl))), ⟨⟨rfl, .inl (by rw [HSN.out]; unfold okN Nd.pr; simp only [k2, hnm, k4, k5, hns, Bool.true_and, Bool.false_and, Bool.or_false])⟩, setBlock hbz 0 (.bool false)⟩, hB0 ▸ Ext.below ((hE1.ext (hW2.ext hW3)).setNew (show w.heap.size ≤ B1 by omega) _)⟩
    rw [hns] at HN3
    gi_wp2
    refine (CallsIn.inRound l (callsIn_wide.2 HN3.out)).mono ?_
    rintro e W3 ⟨rfl, hW3⟩
    have hbx2c := (hW2.ext hW3).heap hbx1 (fun h => h)
    have x0c := cellRow hbx2c 0 (.string x.t.name) rfl
    have x1c := cellRow hbx2c 1 (.string x.t.sort) rfl
    have x2c := cellRow hbx2c 2 (.slice x.a x.t.kids.length x.cap) rfl
    have hbrc : Boxed _ B1 4 (.bool false) := (hW2.ext hW3).heap hb11 (fun h => h)
    have r0c := hbrc.cell
    have r1c := hbrc.frozen
    clear x0b x1b x2b r0b r1b
    by_cases h7 : 0 < x.t.kids.length
    · have t7 : decide ((0 : Int) < (x.t.kids.length : Int)) = true := decide_eq_true (by omega)
      have t7' : decide (0 < x.t.kids.length) = true := decide_eq_true h7
      have k7 : decide (x.t.kids.length = 0) = false := decide_eq_false (by omega)
      have HOK : okNs (pre ++ [x]) = false := by rw [HSN.out]; unfold okN Nd.pr; simp only [k2, hnm, k4, k5, hns, k7, Bool.true_and, Bool.and_false, Bool.false_and, Bool.or_false]
      generalize x.t.kids.length = KL at *
      gi_wp2
      have st := (Upd.refl (fun k => k = B1) W3).setCell (p := ⟨B1, 0, none⟩) (.inl rfl) (.bool false)
      have hbz : Boxed W3 B1 4 (.bool false) := (hW2.ext hW3).heap hb11 (fun h => h)
      refine ⟨hkf.trans ((keeps_ext _ (hW2.ext hW3)).trans (keeps_upd _ st (fun k o e ho => by subst e; rw [show W3.heap[k]? = _ from hbz] at ho; cases ho; rfl))), ⟨⟨rfl, .inl HOK⟩, setBlock hbz 0 (.bool false)⟩, hB0 ▸ Ext.below ((hE1.ext (hW2.ext hW3)).setNew (show w.heap.size ≤ B1 by omega) _)⟩
    have t7 : decide ((0 : Int) < (x.t.kids.length : Int)) = false := decide_eq_false (by omega)
    have t7' : decide (0 < x.t.kids.length) = false := decide_eq_false h7
    have k7 : decide (x.t.kids.length = 0) = true := decide_eq_true (by omega)
    have HOK : okNs (pre ++ [x]) = true := by rw [HSN.out]; unfold okN Nd.pr; simp only [k2, hnm, k4, k5, hns, k7, Bool.true_and, Bool.or_true]
    generalize x.t.kids.length = KL at *
    gi_wp2
    exact ⟨hkf.trans (keeps_ext _ (hW2.ext hW3)), hkg.trans (KpG.of_ext (hW2.ext hW3)), ⟨⟨⟨⟨HOK, by rw [List.length_append]; exact Nat.le_of_not_lt h1⟩, (hW2.ext hW3).heap hb11 (fun h => h)⟩, by rw [List.length_append]; exact (hW2.ext hW3).heap hb21 (fun h => h)⟩, (hW2.ext hW3).heap hb41 (fun h => h), hB0 ▸ Ext.below (hE1.ext (hW2.ext hW3))⟩⟩
  case done =>
    rintro D xs W hD hS ⟨⟨⟨⟨hok, hlen⟩, hb1⟩, hb2⟩, hb4, hB⟩ hK
    have r0 := hb1.cell
    have r1 := hb1.frozen
    have hfm := okNs_all hS hok hlen
    gi_wp2
    have hK' := (KeepsOthers.setCell W ⟨B1, 0, none⟩ (.bool true)).same D _ hK rfl
    refine ⟨by simp, .inl ⟨_, _, rfl, run_takeDeferred hK', ?_⟩⟩
    have hc5 := cell_kept (hb1.set (.bool true)).cell (grownBy_putObj' _ D (.deferred none)) (fun r e => by cases e; exact ⟨_, hK', rfl⟩)
    refine ⟨.bool true, ?_, by rw [hfm], below_ext ((hB.setCell (p := ⟨B1, 0, none⟩) (by show B0 ≤ B1; omega) _).trans (belowK_b (w := w) (by omega) _ D _ _ (by omega) hK' rfl rfl)) (by omega)⟩
    simp [results, Tryz.f49, go_sem, hc5]
  case stop =>
    rintro D c pre W hD hS ⟨⟨⟨rfl, hbad⟩, hb1⟩, hB⟩ hK
    have hfm := okNs_bad hS hbad
    gi_wp2
    refine ⟨by simp, .inl ⟨_, _, rfl, run_takeDeferred hK, ?_⟩⟩
    have hc5 := cell_kept hb1.cell (grownBy_putObj' _ D (.deferred none)) (fun r e => by cases e; exact ⟨_, hK, rfl⟩)
    refine ⟨.bool false, ?_, by rw [hfm], below_ext (hB.trans (belowK_b (w := w) (by omega) _ D _ _ (by omega) hK rfl rfl)) (by omega)⟩
    simp [results, Tryz.f49, go_sem, hc5]

end Go.Proofs.YtjjaknmnhhfjeaaGreatDoor

/- sorts. -/
namespace Go.Proofs.YtjjaknmnhhfjeaaGreatDoor
open Go.RowKit Go.Hw Go
set_option linter.unusedVariables false
set_option linter.unusedSimpArgs false

open Go.Shelf Tm
attribute [local go_sem] Oper.semAt_some
theorem keeps_map {W W' : World} {B b : Nat} (h : Upd (fun k => k = b) W W') (hb : b < B) : KeepsFrom B W W' :=
  ⟨h.size, fun k o hk hh _ => h.heap hh (fun e => by subst e; omega)⟩
abbrev mVd (m : List Vd) : List (ByteArray × Value) := m.map fun f => (f.1, .string f.2)
theorem afind_mVd (m : List Vd) (n : By) : afind (mVd m) n = (fget m n).map .string := by
  induction m with
  | nil => rfl
  | cons a m ih =>
    rw [show mVd (a :: m) = (a.1, .string a.2) :: mVd m from rfl, afind_cons, fget_cons, ih]
    split <;> rfl
theorem aput_mVd_new (m : List Vd) (f : Vd) (h : fget m f.1 = none) : aput (mVd m) f.1 (.string f.2) = mVd (m ++ [f]) := by
  induction m with
  | nil => rfl
  | cons a m ih =>
    rw [fget_cons] at h
    by_cases e : a.1 = f.1
    · rw [if_pos e] at h; cases h
    · rw [if_neg e] at h
      rw [show mVd (a :: m) = (a.1, .string a.2) :: mVd m from rfl]
      unfold aput
      rw [if_neg e, ih h]
      rfl
theorem aput_mVd_old (m : List Vd) (f : Vd) (h : fget m f.1 = some f.2) : aput (mVd m) f.1 (.string f.2) = mVd m := by
  induction m with
  | nil => cases h
  | cons a m ih =>
    rw [fget_cons] at h
    rw [show mVd (a :: m) = (a.1, .string a.2) :: mVd m from rfl]
    unfold aput
    by_cases e : a.1 = f.1
    · rw [if_pos e] at h ⊢
      injection h with h
      rw [h, e]
    · rw [if_neg e] at h ⊢
      rw [ih h]
def vlN (pre : List Nd) : List Vd := vl (pre.map (·.t))
theorem vlN_snoc (pre : List Nd) (x : Nd) : vlN (pre ++ [x]) = vlN pre ++ (if x.t.sort = nul then [] else [(x.t.name, x.t.sort)]) := by
  unfold vlN
  rw [List.map_append, vl_append]
  congr 1
  show List.filterMap _ [x.t] = _
  by_cases h : x.t.sort = nul
  · simp [h]
  · simp [h]
theorem vlN_all {xs : List Nd} {t : Tm} (h : xs.map Nd.pr = nodesD 1 t) : vlN xs = vl (sbts t) := by
  unfold vlN sbts
  rw [nodesD_fst t 0 1, ← h, List.map_map]
  rfl
theorem vlN_pre {xs : List Nd} {t : Tm} (h : xs.map Nd.pr <+: nodesD 1 t) : ∃ r, vl (sbts t) = vlN xs ++ r := by
  obtain ⟨r, hr⟩ := h
  refine ⟨vl (r.map (·.1)), ?_⟩
  unfold vlN sbts
  rw [nodesD_fst t 0 1, ← hr, List.map_append, List.map_map, vl_append]
  rfl
def SortsP (B : Nat) (o : Option (List Vd)) (e : Ending) (w' : World) : Prop := match o with
  | some m => ∃ b, e = .returned (.tuple #[.map (some b), .bool true]) ∧ B ≤ b ∧ MpR (fun s : ByteArray => Value.string s) w' b (mVd m)
  | none => e = .returned (.tuple #[.map none, .bool false])
set_option maxRecDepth 100000 in
set_option maxHeartbeats 4000000 in
theorem sorts_x (t : Tm) (g off cap a cp : Nat) (ad : Option Addr) (w : World) (hc : w.cell? ⟨g, off, none⟩ = some (.string t.name) ∧ w.cell? ⟨g, off + 1, none⟩ = some (.string t.sort) ∧ w.cell? ⟨g, off + 2, none⟩ = some (.slice ad t.kids.length cp)) (hR : TlR (fun k => k < w.heap.size) w t.kids (.slice ad t.kids.length cp)) (hsz : (t.size : Int) ≤ 1000000000000) :
    Calls Tryz.prog 50 #[.slice (some ⟨g, off, none⟩) 1 cap] w fun e w' => SortsP w.heap.size (sortsT t) e w' ∧ Ext w w' := by
  obtain ⟨q0, q1, q2⟩ := hc
  have hmm := @run_makeMap Tryz.prog
  refine (callsIn_wide (n := 9)).1 ?_
  have hro : Fence.wide.round = none := rfl
  have hd : Fence.wide.depth = none := rfl
  have hf : ∀ k, Fence.wide.fn k := fun _ => trivial
  have h1 : 1 ≤ 9 := by omega
  refine callsIn_of_wp_marks Tryz.func50 rfl trivial ?_ hro
  simp only [Tryz.ntmps50, List.size_toArray, List.length_cons, List.length_nil, Nat.reduceAdd, Nat.reduceSub, Array.replicate_succ, Array.replicate_zero, List.push_toArray, List.append_toArray, List.nil_append, List.cons_append]
  gi_wp2
  have hE5 : Ext w ((((w.alloc (.cells #[.map none] 85)).alloc (.cells #[.bool false] 4)).alloc (.map #[] 0)).alloc (.cells #[.map (some (w.heap.size + 1 + 1))] 85)) := ((((Upd.refl (fun _ => False) w).alloc _).alloc _).alloc _).alloc _
  have hs5 : ((((w.alloc (.cells #[.map none] 85)).alloc (.cells #[.bool false] 4)).alloc (.map #[] 0)).alloc (.cells #[.map (some (w.heap.size + 1 + 1))] 85)).heap.size = w.heap.size + 4 := by simp
  have hb2 : Boxed ((((w.alloc (.cells #[.map none] 85)).alloc (.cells #[.bool false] 4)).alloc (.map #[] 0)).alloc (.cells #[.map (some (w.heap.size + 1 + 1))] 85)) w.heap.size 85 (.map none) := allocOld (allocOld (allocOld (alloc0 _ _) _) _) _
  have hb3 : Boxed ((((w.alloc (.cells #[.map none] 85)).alloc (.cells #[.bool false] 4)).alloc (.map #[] 0)).alloc (.cells #[.map (some (w.heap.size + 1 + 1))] 85)) (w.heap.size + 1) 4 (.bool false) := allocOld (allocOld (alloc_at _ _ (by simp)) _) _
  have hmp : MpR (fun s : ByteArray => Value.string s) ((((w.alloc (.cells #[.map none] 85)).alloc (.cells #[.bool false] 4)).alloc (.map #[] 0)).alloc (.cells #[.map (some (w.heap.size + 1 + 1))] 85)) (w.heap.size + 1 + 1) [] := ⟨#[], 0, allocOld (alloc_at _ _ (by simp)) _, rfl, List.Pairwise.nil, fun _ h => by cases h⟩
  have hb4 : Boxed ((((w.alloc (.cells #[.map none] 85)).alloc (.cells #[.bool false] 4)).alloc (.map #[] 0)).alloc (.cells #[.map (some (w.heap.size + 1 + 1))] 85)) (w.heap.size + 1 + 1 + 1) 85 (.map (some (w.heap.size + 1 + 1))) := alloc_at _ _ (by simp)
  generalize ((((w.alloc (.cells #[.map none] 85)).alloc (.cells #[.bool false] 4)).alloc (.map #[] 0)).alloc (.cells #[.map (some (w.heap.size + 1 + 1))] 85)) = w5 at *
  generalize hB4 : w.heap.size + 1 + 1 + 1 = B4 at *
  generalize hM : w.heap.size + 1 + 1 = M at *
  generalize hB3 : w.heap.size + 1 = B3 at *
  generalize hB2 : w.heap.size = B2 at *
  refine wpIn_loop_rounds 2 ?_
  rw [roundsIn_succ]
  obtain ⟨wr, hwr⟩ : ∃ wr, wr = w5 := ⟨_, rfl⟩
  subst hwr
  have p0 := hE5.cell q0 (fun h => h)
  have p1 := hE5.cell q1 (fun h => h)
  have p2 := hE5.cell q2 (fun h => h)
  have hE6 : Ext wr (wr.alloc (.cells #[.string t.name, .string t.sort, .slice ad t.kids.length cp] 24)) := (Upd.refl (fun _ => False) wr).alloc _
  have hb6 := alloc0 wr (.cells #[.string t.name, .string t.sort, .slice ad t.kids.length cp] 24)
  have x0 := cellRow hb6 0 (.string t.name) rfl
  have x1 := cellRow hb6 1 (.string t.sort) rfl
  have x2 := cellRow hb6 2 (.slice ad t.kids.length cp) rfl
  gi_wp2
  refine (callsIn_wide.2 (nodes_x t (.slice ad t.kids.length cp) _ ⟨_, _, _, rfl⟩)).mono ?_
  rintro e w7 ⟨rfl, hE7, hs7, hb7, hv7⟩
  have hs6 : (wr.alloc (.cells #[.string t.name, .string t.sort, .slice ad t.kids.length cp] 24)).heap.size = B2 + 5 := by simp [hs5]
  rw [hs6] at hs7 hb7 hv7 ⊢
  have hE := hE5.ext (hE6.ext hE7)
  have hc2 : Boxed w7 B2 85 (.map none) := hE7.heap (hE6.heap hb2 (fun h => h)) (fun h => h)
  have hc3 : Boxed w7 B3 4 (.bool false) := hE7.heap (hE6.heap hb3 (fun h => h)) (fun h => h)
  have hc4 : Boxed w7 B4 85 (.map (some M)) := hE7.heap (hE6.heap hb4 (fun h => h)) (fun h => h)
  have hmp7 := (hmp.ext hE6).ext hE7
  clear hE6 hE7 hb6 hs6 x0 x1 x2
  gi_wp2
  refine wpIn_rangeFunc_ownH hro h1 (gf := 114) (lb := #[.pointer (some ⟨B2 + 5 + 1, 0, none⟩), .pointer (some ⟨B2 + 5, 0, none⟩)]) rfl trivial (enters_of Tryz.func114 (by kernel_rfl) rfl)
    (nodes_stops Fence.wide hd (9 - 1) hf hro (B2 + 5 + 1) (B2 + 5) (fun k => k = B2 ∨ k = B3 ∨ k = M) (fun k => k < B2) w7 (by omega) (by omega) (by omega) (by omega) t ad cp (hB2 ▸ hR.ext hE) hv7 hb7 (by omega)) (fun h k => KpG.trans h k) (fun W l o o' _ hl hc _ => KpG.putObj W l o o' hl hc) (Below.refl _ _) (fun _ => rfl)
    (fun pre W => ∃ m, sFold [] (vlN pre) = some m ∧ MpR (fun s : ByteArray => Value.string s) W M (mVd m) ∧ Boxed W B2 85 (.map none) ∧ Boxed W B3 4 (.bool false) ∧ Boxed W B4 85 (.map (some M)) ∧ Ext w W ∧ w7.heap.size ≤ W.heap.size)
    (fun c pre W => c = .ret ∧ sFold [] (vlN pre) = none ∧ Boxed W B2 85 (.map none) ∧ Boxed W B3 4 (.bool false) ∧ Ext w W)
    (fun s A B row hs hg hr => by
      obtain ⟨m, h1, h2, h3, h4, h5, h6, h7⟩ := hs
      have hu := Upd.of_grown hg
      have hne : ∀ k, k < B2 + 7 → ¬ some k = row := fun k hk e => by have := (hr k e.symm).1; omega
      exact ⟨m, h1, h2.kept hu (hne _ (by omega)), hu.heap h3 (hne _ (by omega)), hu.heap h4 (hne _ (by omega)), hu.heap h5 (hne _ (by omega)), h6.trans' hu (fun i hi e => hne i (by omega) e), Nat.le_trans h7 hu.size⟩)
    (fun c s A B row hs hg hr => by
      obtain ⟨h1, h2, h3, h4, h6⟩ := hs
      have hu := Upd.of_grown hg
      have hne : ∀ k, k < B2 + 7 → ¬ some k = row := fun k hk e => by have := (hr k e.symm).1; omega
      exact ⟨h1, h2, hu.heap h3 (hne _ (by omega)), hu.heap h4 (hne _ (by omega)), h6.trans' hu (fun i hi e => hne i (by omega) e)⟩)
    ⟨[], rfl, hmp7, hc2, hc3, hc4, hE, Nat.le_refl _⟩
    (fun x a' W => ∃ Bx, B2 + 6 < Bx ∧ W.heap[Bx]? = some (.cells #[.string x.t.name, .string x.t.sort, .slice x.a x.t.kids.length x.cap] 24 (0, 0)) ∧ a' = { tmps := #[.slice (some ⟨g, off, none⟩) 1 cap, undef, .pointer (some ⟨B2, 0, none⟩), .pointer (some ⟨B3, 0, none⟩), .pointer (some ⟨B4, 0, none⟩), undef, .pointer (some ⟨B2 + 4, 0, none⟩), .pointer (some ⟨Bx, 0, none⟩), undef, undef, .map (some M), .slice (some ⟨g, off, none⟩) 1 cap, .int .i64 1, .int .i64 0, .bool true, .pointer (some ⟨g, off, none⟩), (.agg #[.string t.name, .string t.sort, .slice ad t.kids.length cp]), (.agg #[.string t.name, .string t.sort, .slice ad t.kids.length cp]), (.func (.func 114) #[] #[.pointer (some ⟨B2 + 5 + 1, 0, none⟩), .pointer (some ⟨B2 + 5, 0, none⟩)]), (.agg #[.string x.t.name, .string x.t.sort, .slice x.a x.t.kids.length x.cap]), .int .i64 (x.d : Int), undef, undef, undef, undef, undef, undef, undef, undef, undef, undef, undef, undef, undef, undef, undef, undef, undef, undef, undef, undef, undef, undef, undef, undef], defers := [] })
    (fun x a' _ X Y row hs hg hr => by
      obtain ⟨Bx, e1, e2, e3⟩ := hs
      refine ⟨Bx, e1, (Upd.of_grown hg).heap e2 (fun e => ?_), e3⟩
      obtain ⟨o, ho, hc⟩ := (hr Bx e.symm).2
      rw [e2] at ho
      cases ho
      cases hc) ?assign ?body ?done ?stop
  case assign =>
    rintro l pre x W K ⟨m, i1, i2, i3, i4, i5, i6, i7⟩ hK
    dsimp only [Nd.encs, tV]
    have hbx := alloc0 W (.cells #[.string x.t.name, .string x.t.sort, .slice x.a x.t.kids.length x.cap] 24)
    have hal : Ext W (W.alloc (.cells #[.string x.t.name, .string x.t.sort, .slice x.a x.t.kids.length x.cap] 24)) := (Upd.refl _ W).alloc _
    gi_wp2
    exact hK _ _ (keeps_ext _ hal) (KpG.of_ext hal) ⟨m, i1, i2.ext hal, i3.alloc _, i4.alloc _, i5.alloc _, i6.ext hal, Nat.le_trans i7 hal.size⟩ ⟨W.heap.size, by omega, hbx, rfl⟩
  case body =>
    rintro l pre x a' W hl hrec ⟨m, i1, i2, i3, i4, i5, i6, i7⟩ ⟨Bx, hBx, hbx, rfl⟩ hlt
    have hlt7 := hE.size
    have x0 := cellRow hbx 0 (.string x.t.name) rfl
    have x1 := cellRow hbx 1 (.string x.t.sort) rfl
    have x2 := cellRow hbx 2 (.slice x.a x.t.kids.length x.cap) rfl
    have b4 := i5.cell
    have r2 := i3.cell
    have r3 := i4.cell
    have s2 := i3.frozen
    have s3 := i4.frozen
    have hvs := vlN_snoc pre x
    by_cases hs0 : x.t.sort.size = 0
    · have hse := empty_is _ hs0
      rw [if_pos (show x.t.sort = nul from hse), List.append_nil] at hvs
      rw [hse] at x1
      gi_wp2
      exact ⟨KeepsFrom.refl _ _, KpG.refl _ _, m, by rw [hvs]; exact i1, i2, i3, i4, i5, i6, i7⟩
    have hne : x.t.sort ≠ nul := fun e => hs0 (by rw [e]; rfl)
    rw [if_neg hne] at hvs
    have hsf : sFold [] (vlN (pre ++ [x])) = (match fget m x.t.name with | none => some (m ++ [(x.t.name, x.t.sort)]) | some s => if s = x.t.sort then some m else none) := by
      rw [hvs, sFold_append, i1]
      show sFold m [(x.t.name, x.t.sort)] = _
      unfold sFold
      cases fget m x.t.name with
      | none => rfl
      | some s =>
        simp only
        split <;> rfl
    have HSF := Lib.hid hsf
    obtain ⟨e1, e2, e3, e4⟩ := nonempty_t x.t.sort (Nat.pos_of_ne_zero hs0)
    have hlk := i2.get (P := Tryz.prog) (t := 85) (strKey Tryz.underlying9) Tryz.underlying85 (z := .string ⟨#[]⟩) (Tryz.zeroValue9 W) x.t.name true
    rw [afind_mVd] at hlk
    simp only [if_true] at hlk
    have hM7 : M < w7.heap.size := by omega
    obtain ⟨W2, hput, hmp2, hu2⟩ := i2.put (P := Tryz.prog) (t := 85) (strKey Tryz.underlying9) Tryz.underlying85 x.t.name (.string x.t.sort)
    cases hg : fget m x.t.name with
    | none =>
      rw [hg] at hlk
      have hv2 := aput_mVd_new m (x.t.name, x.t.sort) hg
      simp only at hv2
      rw [hv2] at hmp2
      have hsf2 := HSF.out
      rw [hg] at hsf2
      clear hsf
      gi_wp2
      exact ⟨keeps_map hu2 (by omega), KpG.of_upd hu2 (fun k _ e => .inr (.inr e)), _, hsf2, hmp2, hu2.heap i3 (by omega), hu2.heap i4 (by omega), hu2.heap i5 (by omega), i6.trans' hu2 (fun i hi e => by omega), by have h9 := hu2.size; omega⟩
    | some s =>
      rw [hg] at hlk
      have hsf2 := HSF.out
      rw [hg] at hsf2
      clear hsf
      simp only at hsf2
      by_cases hse : s = x.t.sort
      · rw [if_pos hse] at hsf2
        have hv2 := aput_mVd_old m (x.t.name, x.t.sort) (by rw [hg, hse])
        simp only at hv2
        rw [hv2] at hmp2
        subst hse
        have hbb : (x.t.sort.toList == x.t.sort.toList) = true := by simp
        have hsf3 := Lib.hid hsf2
        clear hsf2
        gi_wp2
        exact ⟨keeps_map hu2 (by omega), KpG.of_upd hu2 (fun k _ e => .inr (.inr e)), m, hsf3.out, hmp2, hu2.heap i3 (by omega), hu2.heap i4 (by omega), hu2.heap i5 (by omega), i6.trans' hu2 (fun i hi e => by omega), by have h9 := hu2.size; omega⟩
      · rw [if_neg hse] at hsf2
        have hbb : (s.toList == x.t.sort.toList) = false := by
          rw [beq_eq_false_iff_ne]
          intro e
          exact hse (ba_list (by rw [Lib.toList_data, Lib.toList_data] at e; exact e))
        have hsf3 := Lib.hid hsf2
        clear hsf2
        gi_wp2
        have st := ((Upd.refl (fun k => k = B2 ∨ k = B3) W).setCell (p := ⟨B2, 0, none⟩) (.inl (.inl rfl)) (.map none)).setCell (p := ⟨B3, 0, none⟩) (.inl (.inr rfl)) (.bool false)
        have i3' : Boxed (W.setCell ⟨B2, 0, none⟩ (.map none)) B2 85 (.map none) := setBlock i3 0 (.map none)
        have i4' : Boxed (W.setCell ⟨B2, 0, none⟩ (.map none)) B3 4 (.bool false) := Boxed.other i4 (by omega) _
        refine ⟨keeps_upd _ st (fun k o e ho => ?_), rfl, hsf3.out, Boxed.other i3' (by omega) _, setBlock i4' 0 (.bool false), (i6.setNew (show w.heap.size ≤ B2 by omega) _).setNew (show w.heap.size ≤ B3 by omega) _⟩
        rcases e with e | e
        · subst e; rw [show W.heap[k]? = _ from i3] at ho; cases ho; rfl
        · subst e; rw [show W.heap[k]? = _ from i4] at ho; cases ho; rfl
  case done =>
    rintro D xs W hD hS ⟨m, i1, i2, i3, i4, i5, i6, i7⟩ hK
    have hso : sortsT t = some m := by rw [vlN_all hS] at i1; exact i1
    have b4 := i5.cell
    have r2 := i3.cell
    have r3 := i4.cell
    have s2 := i3.frozen
    have s3 := i4.frozen
    gi_wp2
    rw [roundsIn_succ]
    gi_wp2
    have st := ((Upd.refl (fun k => k = B2 ∨ k = B3) W).setCell (p := ⟨B2, 0, none⟩) (.inl (.inl rfl)) (.map (some M))).setCell (p := ⟨B3, 0, none⟩) (.inl (.inr rfl)) (.bool true)
    have i3' : Boxed (W.setCell ⟨B2, 0, none⟩ (.map (some M))) B2 85 (.map (some M)) := setBlock i3 0 (.map (some M))
    have i4' : Boxed (W.setCell ⟨B2, 0, none⟩ (.map (some M))) B3 4 (.bool false) := Boxed.other i4 (by omega) _
    have i3'' : Boxed ((W.setCell ⟨B2, 0, none⟩ (.map (some M))).setCell ⟨B3, 0, none⟩ (.bool true)) B2 85 (.map (some M)) := Boxed.other i3' (by omega) _
    have i4'' : Boxed ((W.setCell ⟨B2, 0, none⟩ (.map (some M))).setCell ⟨B3, 0, none⟩ (.bool true)) B3 4 (.bool true) := setBlock i4' 0 (.bool true)
    have hK' := (keeps_upd 0 st (fun k o e ho => by
      rcases e with e | e
      · subst e; rw [show W.heap[k]? = _ from i3] at ho; cases ho; rfl
      · subst e; rw [show W.heap[k]? = _ from i4] at ho; cases ho; rfl)).same D _ (Nat.zero_le _) hK rfl
    refine ⟨by simp, .inl ⟨_, _, rfl, run_takeDeferred hK', ?_⟩⟩
    have hc2 := cell_kept i3''.cell (grownBy_putObj' _ D (.deferred none)) (fun r e => by cases e; exact ⟨_, hK', rfl⟩)
    have hc3 := cell_kept i4''.cell (grownBy_putObj' _ D (.deferred none)) (fun r e => by cases e; exact ⟨_, hK', rfl⟩)
    have hM := (i2.kept st (by omega)).kept (Upd.of_grown (grownBy_putObj' _ D (.deferred none))) (fun e => by cases e; omega)
    refine ⟨.tuple #[.map (some M), .bool true], ?_, ?_⟩
    · simp [results, Tryz.f50, go_sem, hc2, hc3]
    · refine ⟨?_, ((i6.setNew (show w.heap.size ≤ B2 by omega) _).setNew (show w.heap.size ≤ B3 by omega) _).trans' (Upd.of_grown (grownBy_putObj' _ D (.deferred none))) (fun i hi e => by cases e; omega)⟩
      unfold SortsP
      rw [hso]
      exact ⟨M, rfl, by omega, hM⟩
  case stop =>
    rintro D c pre W hD hS ⟨rfl, i1, i3, i4, i6⟩ hK
    have hso : sortsT t = none := by
      obtain ⟨r, hr⟩ := vlN_pre hS
      unfold sortsT
      rw [hr, sFold_append, i1]
      rfl
    gi_wp2
    refine ⟨by simp, .inl ⟨_, _, rfl, run_takeDeferred hK, ?_⟩⟩
    have hc2 := cell_kept i3.cell (grownBy_putObj' _ D (.deferred none)) (fun r e => by cases e; exact ⟨_, hK, rfl⟩)
    have hc3 := cell_kept i4.cell (grownBy_putObj' _ D (.deferred none)) (fun r e => by cases e; exact ⟨_, hK, rfl⟩)
    refine ⟨.tuple #[.map none, .bool false], ?_, ?_⟩
    · simp [results, Tryz.f50, go_sem, hc2, hc3]
    · refine ⟨?_, i6.trans' (Upd.of_grown (grownBy_putObj' _ D (.deferred none))) (fun i hi e => by cases e; omega)⟩
      unfold SortsP
      rw [hso]

end Go.Proofs.YtjjaknmnhhfjeaaGreatDoor

/- wellFormed. -/
namespace Go.Proofs.YtjjaknmnhhfjeaaGreatDoor
open Go.RowKit Go.Hw Go
set_option linter.unusedVariables false
set_option linter.unusedSimpArgs false

open Tm
theorem wf_false {t : Tm} (h : formed nmB t = false) : wf nmB t = false := by unfold wf; rw [h, Bool.false_and]
set_option maxRecDepth 100000 in
set_option maxHeartbeats 2000000 in
theorem wellFormed_x (t : Tm) (v : Value) (w : World) (htab : AscT w) (hR : TmR (fun k => k < w.heap.size) w t v) (hsz : (t.size : Int) ≤ 1000000000000) : Calls Tryz.prog 46 #[v] w fun e w' => e = .returned (.bool (wf nmB t)) ∧ Ext w w' := by
  have HR := Lib.hid hR
  obtain ⟨a, cap, rfl, hT⟩ := hR
  have HTL := Lib.hid hT
  dsimp only [tV]
  have HZ := Lib.hid ((Upd.refl (fun _ => False) w).alloc (.cells #[.string t.name, .string t.sort, .slice a t.kids.length cap] 24))
  have HB := Lib.hid (alloc0 w (.cells #[.string t.name, .string t.sort, .slice a t.kids.length cap] 24))
  have HF := Lib.hid (fun W (hW : Ext w W) => formed_x t _ W (asc_ext htab hW) ((HR.out.ext hW).weaken (fun k hk => Nat.lt_of_lt_of_le hk hW.size)) hsz)
  dsimp only [tV] at HF
  have c0 := cellRow HB.out 0 (.string t.name) rfl
  have c1 := cellRow HB.out 1 (.string t.sort) rfl
  have c2 := cellRow HB.out 2 (.slice a t.kids.length cap) rfl
  clear hT
  cases hfm : formed nmB t
  · rw [hfm] at HF
    have hwf := wf_false hfm
    rw [hwf]
    clear hwf hfm
    go_enter Tryz.func46, Tryz.ntmps46
    go_wp2_with fail
    refine (HF.out _ HZ.out).mono ?_
    rintro e w4 ⟨rfl, hw4⟩
    have H4 := Lib.hid (HZ.out.ext hw4)
    clear hw4 c0 c1 c2
    go_wp2_with fail
    go_ret
    exact ⟨rfl, H4.out⟩
  rw [hfm] at HF
  have HSO : Hid (wf nmB t = (sortsT t).isSome) := Lib.hid (by unfold wf; rw [hfm, Bool.true_and])
  clear hfm
  rw [HSO.out]
  go_enter Tryz.func46, Tryz.ntmps46
  go_wp2_with fail
  refine (HF.out _ HZ.out).mono ?_
  rintro e w4 ⟨rfl, hw4⟩
  have H4 := Lib.hid (HZ.out.ext hw4)
  have HB4 := Lib.hid (hw4.heap HB.out (fun h => h))
  clear hw4 c0 c1 c2
  have c0 := cellRow HB4.out 0 (.string t.name) rfl
  have c1 := cellRow HB4.out 1 (.string t.sort) rfl
  have c2 := cellRow HB4.out 2 (.slice a t.kids.length cap) rfl
  have HBX := Lib.hid (alloc0 w4 (.cells #[.string t.name, .string t.sort, .slice a t.kids.length cap] 24))
  have HE5 := Lib.hid (H4.out.alloc (.cells #[.string t.name, .string t.sort, .slice a t.kids.length cap] 24))
  go_wp2_with fail
  generalize (w4.alloc (.cells #[.string t.name, .string t.sort, .slice a t.kids.length cap] 24)) = w5 at *
  have x0 := cellRow HBX.out 0 (.string t.name) rfl
  have x1 := cellRow HBX.out 1 (.string t.sort) rfl
  have x2 := cellRow HBX.out 2 (.slice a t.kids.length cap) rfl
  have HSR := Lib.hid (sorts_x t w4.heap.size 0 1 0 cap a w5 ⟨x0, x1, x2⟩ ((HTL.out.ext HE5.out).weaken (fun k hk => Nat.lt_of_lt_of_le hk HE5.out.size)) hsz)
  clear x0 x1 x2 c0 c1 c2
  refine HSR.out.mono ?_
  rintro e w6 ⟨hp, hw6⟩
  have H6 := Lib.hid (HE5.out.ext hw6)
  unfold SortsP at hp
  clear hw6 HSR
  cases hso : sortsT t with
  | none =>
    rw [hso] at hp
    simp only at hp
    subst hp
    go_wp2_with fail
    go_ret
    rw [hso]
    exact ⟨rfl, H6.out⟩
  | some m =>
    rw [hso] at hp
    simp only at hp
    obtain ⟨b, rfl, _, _⟩ := hp
    go_wp2_with fail
    go_ret
    rw [hso]
    exact ⟨rfl, H6.out⟩

end Go.Proofs.YtjjaknmnhhfjeaaGreatDoor

/- size. -/
namespace Go.Proofs.YtjjaknmnhhfjeaaGreatDoor
open Go.RowKit Go.Hw Go
set_option linter.unusedVariables false
set_option linter.unusedSimpArgs false

open Go.Shelf Tm
attribute [local go_sem] Oper.semAt_some
def dmx (pre : List Nd) : Nat := pre.foldl (fun m x => max m x.d) 0
theorem dmx_snoc (pre : List Nd) (x : Nd) : dmx (pre ++ [x]) = max (dmx pre) x.d := by unfold dmx; rw [List.foldl_append]; rfl
theorem nodes_max : ∀ (t : Tm) (d m : Nat), d ≤ m + 1 → ((nodesD d t).map (·.2)).foldl max m = max m (d + t.depth - 1) := by
  refine Tm.ind (fun nm so L ih d m hm => ?_)
  have hL : ∀ (L : List Tm) (d m : Nat), 1 ≤ d → d ≤ m + 1 → (∀ x ∈ L, ∀ (d m : Nat), d ≤ m + 1 → ((nodesD d x).map (·.2)).foldl max m = max m (d + x.depth - 1)) → ((nodesDs d L).map (·.2)).foldl max m = max m (d - 1 + depths L) := by
    intro L
    induction L with
    | nil => intro d m h1 h2 _; simp [nodesDs, depths]; omega
    | cons a L ihL =>
      intro d m h1 h2 h
      simp only [nodesDs, List.map_append, List.foldl_append, depths]
      rw [h a (List.mem_cons_self ..) d m h2, ihL d _ h1 (by omega) (fun x hx => h x (List.mem_cons_of_mem _ hx))]
      omega
  rw [nodesD_eq, depth_eq]
  simp only [List.map_cons, List.foldl_cons, Tm.kids]
  rw [hL L (d + 1) (max m d) (by omega) (by omega) ih]
  omega
theorem dmx_all {xs : List Nd} {t : Tm} (h : xs.map Nd.pr = nodesD 1 t) : dmx xs = t.depth := by
  have h1 := nodes_max t 1 0 (by omega)
  rw [← h, List.map_map] at h1
  have h2 : dmx xs = (xs.map ((fun x => x.2) ∘ Nd.pr)).foldl max 0 := by
    unfold dmx
    rw [List.foldl_map]
    rfl
  rw [h2, h1]
  have := depth_eq t
  omega
def szF (t : Tm) : Nat := if wf nmB t then t.size else 0
def dpF (t : Tm) : Nat := if wf nmB t then t.depth else 0
set_option maxRecDepth 100000 in
set_option maxHeartbeats 4000000 in
theorem size_x (t : Tm) (v : Value) (w : World) (htab : AscT w) (hR : TmR (fun k => k < w.heap.size) w t v) (hsz : (t.size : Int) ≤ 1000000000000) : Calls Tryz.prog 94 #[v] w fun e w' => e = .returned (.tuple #[.int .i64 (szF t : Nat), .int .i64 (dpF t : Nat)]) ∧ Ext w w' := by
  have HR := Lib.hid hR
  obtain ⟨a, cap, rfl, hT⟩ := hR
  dsimp only [tV]
  have HWF := Lib.hid (fun W (hW : Ext w W) => wellFormed_x t _ W (asc_ext htab hW) ((HR.out.ext hW).weaken (fun k hk => Nat.lt_of_lt_of_le hk hW.size)) hsz)
  dsimp only [tV] at HWF
  have hE3 : Ext w (((w.alloc (.cells #[.string t.name, .string t.sort, .slice a t.kids.length cap] 24)).alloc (.cells #[.int .i64 0] 3)).alloc (.cells #[.int .i64 0] 3)) := (((Upd.refl (fun _ => False) w).alloc _).alloc _).alloc _
  have hs3 : (((w.alloc (.cells #[.string t.name, .string t.sort, .slice a t.kids.length cap] 24)).alloc (.cells #[.int .i64 0] 3)).alloc (.cells #[.int .i64 0] 3)).heap.size = w.heap.size + 3 := by simp
  have hb1 : (((w.alloc (.cells #[.string t.name, .string t.sort, .slice a t.kids.length cap] 24)).alloc (.cells #[.int .i64 0] 3)).alloc (.cells #[.int .i64 0] 3)).heap[w.heap.size]? = some (.cells #[.string t.name, .string t.sort, .slice a t.kids.length cap] 24 (0, 0)) := allocOld (allocOld (alloc0 _ _) _) _
  have hb2 : Boxed (((w.alloc (.cells #[.string t.name, .string t.sort, .slice a t.kids.length cap] 24)).alloc (.cells #[.int .i64 0] 3)).alloc (.cells #[.int .i64 0] 3)) (w.heap.size + 1) 3 (.int .i64 0) := allocOld (alloc_at _ _ (by simp)) _
  have hb3 : Boxed (((w.alloc (.cells #[.string t.name, .string t.sort, .slice a t.kids.length cap] 24)).alloc (.cells #[.int .i64 0] 3)).alloc (.cells #[.int .i64 0] 3)) (w.heap.size + 1 + 1) 3 (.int .i64 0) := alloc_at _ _ (by simp)
  refine (callsIn_wide (n := 9)).1 ?_
  have hro : Fence.wide.round = none := rfl
  have hd : Fence.wide.depth = none := rfl
  have hf : ∀ k, Fence.wide.fn k := fun _ => trivial
  have h1 : 1 ≤ 9 := by omega
  refine callsIn_of_wp_marks Tryz.func94 rfl trivial ?_ hro
  have c0 := cellRow hb1 0 (.string t.name) rfl
  have c1 := cellRow hb1 1 (.string t.sort) rfl
  have c2 := cellRow hb1 2 (.slice a t.kids.length cap) rfl
  simp only [Tryz.ntmps94, List.size_toArray, List.length_cons, List.length_nil, Nat.reduceAdd, Nat.reduceSub, Array.replicate_succ, Array.replicate_zero, List.push_toArray, List.append_toArray, List.nil_append, List.cons_append]
  gi_wp2
  generalize (((w.alloc (.cells #[.string t.name, .string t.sort, .slice a t.kids.length cap] 24)).alloc (.cells #[.int .i64 0] 3)).alloc (.cells #[.int .i64 0] 3)) = w3 at *
  generalize hB1 : w.heap.size + 1 = B1 at *
  generalize hB0 : w.heap.size = B0 at *
  refine (callsIn_wide.2 (HWF.out _ hE3)).mono ?_
  rintro e w4 ⟨rfl, hE4⟩
  have hb14 := hE4.heap hb1 (fun h => h)
  have hb24 : Boxed w4 B1 3 (.int .i64 0) := hE4.heap hb2 (fun h => h)
  have hb34 : Boxed w4 (B1 + 1) 3 (.int .i64 0) := hE4.heap hb3 (fun h => h)
  have hE := hE3.ext hE4
  have hsz4 := hE4.size
  have c0 := cellRow hb14 0 (.string t.name) rfl
  have c1 := cellRow hb14 1 (.string t.sort) rfl
  have c2 := cellRow hb14 2 (.slice a t.kids.length cap) rfl
  have r2 := hb24.cell
  have r3 := hb34.cell
  have s2 := hb24.frozen
  have s3 := hb34.frozen
  clear hE4 hE3 hb1 hb2 hb3
  cases hwf : wf nmB t
  · have e1 : szF t = 0 := by unfold szF; rw [hwf]; rfl
    have e2 : dpF t = 0 := by unfold dpF; rw [hwf]; rfl
    gi_wp2
    have i2 : Boxed (w4.setCell ⟨B1, 0, none⟩ (.int .i64 0)) B1 3 (.int .i64 0) := setBlock hb24 0 (.int .i64 0)
    have i3 : Boxed (w4.setCell ⟨B1, 0, none⟩ (.int .i64 0)) (B1 + 1) 3 (.int .i64 0) := Boxed.other hb34 (by omega) _
    have i2' : Boxed ((w4.setCell ⟨B1, 0, none⟩ (.int .i64 0)).setCell ⟨B1 + 1, 0, none⟩ (.int .i64 0)) B1 3 (.int .i64 0) := Boxed.other i2 (by omega) _
    have i3' : Boxed ((w4.setCell ⟨B1, 0, none⟩ (.int .i64 0)).setCell ⟨B1 + 1, 0, none⟩ (.int .i64 0)) (B1 + 1) 3 (.int .i64 0) := setBlock i3 0 (.int .i64 0)
    have q2 := i2'.cell
    have q3 := i3'.cell
    refine ⟨.tuple #[.int .i64 0, .int .i64 0], by simp [results, Tryz.f94, go_sem, q2, q3], by rw [e1, e2]; rfl, (hE.setNew (show w.heap.size ≤ B1 by omega) _).setNew (show w.heap.size ≤ B1 + 1 by omega) _⟩
  have e1 : szF t = t.size := by unfold szF; rw [hwf]; rfl
  have e2 : dpF t = t.depth := by unfold dpF; rw [hwf]; rfl
  gi_wp2
  refine (callsIn_wide.2 (nodes_x t (.slice a t.kids.length cap) w4 ⟨_, _, _, rfl⟩)).mono ?_
  rintro e w5 ⟨rfl, hE5, hs5, hb5, hv5⟩
  have hc2 : Boxed w5 B1 3 (.int .i64 0) := hE5.heap hb24 (fun h => h)
  have hc3 : Boxed w5 (B1 + 1) 3 (.int .i64 0) := hE5.heap hb34 (fun h => h)
  have hEE := hE.ext hE5
  have hZ0 := hb34.lt
  clear r2 r3 s2 s3 c0 c1 c2 hb14 hb24 hb34
  obtain ⟨Z, hZ⟩ : ∃ Z, w4.heap.size = Z := ⟨_, rfl⟩
  rw [hZ] at hs5 hb5 hv5 hsz4 hZ0 ⊢
  gi_wp2
  refine wpIn_rangeFunc_ownH hro h1 (gf := 114) (lb := #[.pointer (some ⟨Z + 1, 0, none⟩), .pointer (some ⟨Z, 0, none⟩)]) rfl trivial (enters_of Tryz.func114 (by kernel_rfl) rfl)
    (nodes_stops Fence.wide hd (9 - 1) hf hro (Z + 1) Z (fun k => k = B1 ∨ k = B1 + 1) (fun k => k < B0) w5 (by omega) (by omega) (by omega) (by omega) t a cap (hB0 ▸ hT.ext hEE) hv5 hb5 (by omega)) (fun h k => KpG.trans h k) (fun W l o o' _ hl hc _ => KpG.putObj W l o o' hl hc) (Below.refl _ _) (fun _ => rfl)
    (fun pre W => (Boxed W B1 3 (.int .i64 (pre.length : Int)) ∧ Boxed W (B1 + 1) 3 (.int .i64 (dmx pre : Int))) ∧ Below B0 w W)
    (fun _ _ _ => False)
    (OwnFrom.and (OwnFrom.and (Own.from (boxed_own B1 3 (fun pre : List Nd => Value.int .i64 (pre.length : Int))) _) (Own.from (boxed_own (B1 + 1) 3 (fun pre : List Nd => Value.int .i64 (dmx pre : Int))) _)) (ownFrom_below (by omega) (by omega)))
    (fun _ _ _ _ _ hs _ _ => hs)
    ⟨⟨hc2, hc3⟩, hB0 ▸ Ext.below hEE⟩
    (fun x a' W => a' = { tmps := #[(.agg #[.string t.name, .string t.sort, .slice a t.kids.length cap]), .pointer (some ⟨B0, 0, none⟩), .pointer (some ⟨B1, 0, none⟩), .pointer (some ⟨B1 + 1, 0, none⟩), undef, .int .i64 (x.d : Int), (.agg #[.string t.name, .string t.sort, .slice a t.kids.length cap]), .bool true, .bool false, (.agg #[.string t.name, .string t.sort, .slice a t.kids.length cap]), (.func (.func 114) #[] #[.pointer (some ⟨Z + 1, 0, none⟩), .pointer (some ⟨Z, 0, none⟩)]), (.agg #[.string x.t.name, .string x.t.sort, .slice x.a x.t.kids.length x.cap]), .int .i64 (x.d : Int), undef, undef, undef, undef, undef, undef, undef], defers := [] })
    (fun x a' _ X Y row hs hg hr => hs) ?assign ?body ?done ?stop
  case assign =>
    rintro l pre x W K ⟨⟨i1, i2⟩, i3⟩ hK
    dsimp only [Nd.encs, tV]
    gi_wp2
    exact hK _ _ (KeepsFrom.refl _ _) (KpG.refl _ _) ⟨⟨i1, i2⟩, i3⟩ rfl
  case body =>
    rintro l pre x a' W hl hrec ⟨⟨i1, i2⟩, i3⟩ rfl hlt
    have hd1 := dmx_snoc pre x
    have r2 := i1.cell
    have r3 := i2.cell
    have s2 := i1.frozen
    have s3 := i2.frozen
    have hwn : IntKind.i64.wrap ((pre.length : Int) + 1) = (pre.length : Int) + 1 := IntWalk.i64_in _ (by omega)
    have u2 : Boxed (W.setCell ⟨B1, 0, none⟩ (.int .i64 ((pre.length : Int) + 1))) (B1 + 1) 3 (.int .i64 (dmx pre : Int)) := Boxed.other i2 (by omega) _
    have u3 := u2.cell
    have u4 := u2.frozen
    gi_wp2
    have st := ((Upd.refl (fun k => k = B1 ∨ k = B1 + 1) W).setCell (p := ⟨B1, 0, none⟩) (.inl (.inl rfl)) (.int .i64 ((pre.length : Int) + 1))).setCell (p := ⟨B1 + 1, 0, none⟩) (.inl (.inr rfl)) (.int .i64 (max (dmx pre : Int) (x.d : Int)))
    have e3 : ((dmx (pre ++ [x]) : Nat) : Int) = max (dmx pre : Int) (x.d : Int) := by rw [hd1]; omega
    have u1 : Boxed (W.setCell ⟨B1, 0, none⟩ (.int .i64 ((pre.length : Int) + 1))) B1 3 (.int .i64 ((pre.length : Int) + 1)) := setBlock i1 0 _
    refine ⟨keeps_upd _ st (fun k o e ho => ?_), KpG.of_upd st (fun k _ e => e), ⟨?_, ?_⟩, (i3.setCell (p := ⟨B1, 0, none⟩) (by show B0 ≤ B1; omega) _).setCell (p := ⟨B1 + 1, 0, none⟩) (by show B0 ≤ B1 + 1; omega) _⟩
    · rcases e with e | e
      · subst e; rw [show W.heap[k]? = _ from i1] at ho; cases ho; rfl
      · subst e; rw [show W.heap[B1 + 1]? = _ from i2] at ho; cases ho; rfl
    · rw [List.length_append]
      exact Boxed.other u1 (by omega) _
    · rw [e3]
      exact setBlock u2 0 _
  case done =>
    rintro D xs W hD hS ⟨⟨i1, i2⟩, i3⟩ hK
    have r2 := i1.cell
    have r3 := i2.cell
    have s2 := i1.frozen
    have s3 := i2.frozen
    gi_wp2
    refine wpIn_wide.2 ?_
    go_region
    gi_wp2
    have st := ((Upd.refl (fun k => k = B1 ∨ k = B1 + 1) W).setCell (p := ⟨B1, 0, none⟩) (.inl (.inl rfl)) (.int .i64 (xs.length : Int))).setCell (p := ⟨B1 + 1, 0, none⟩) (.inl (.inr rfl)) (.int .i64 (dmx xs : Int))
    have hK1 := (keeps_upd 0 st (fun k o e ho => by
      rcases e with e | e
      · subst e; rw [show W.heap[k]? = _ from i1] at ho; cases ho; rfl
      · subst e; rw [show W.heap[B1 + 1]? = _ from i2] at ho; cases ho; rfl)).same D _ (Nat.zero_le _) hK rfl
    have hK' : ((W.setCell ⟨B1, 0, none⟩ (.int .i64 (xs.length : Int))).setCell ⟨B1 + 1, 0, none⟩ (.int .i64 (dmx xs : Int))).drew.heap[D]? = some (.deferred (some [])) := hK1
    have u1 : Boxed (W.setCell ⟨B1, 0, none⟩ (.int .i64 (xs.length : Int))) B1 3 (.int .i64 (xs.length : Int)) := setBlock i1 0 _
    have u2 : Boxed (W.setCell ⟨B1, 0, none⟩ (.int .i64 (xs.length : Int))) (B1 + 1) 3 (.int .i64 (dmx xs : Int)) := Boxed.other i2 (by omega) _
    have u3 : Boxed ((W.setCell ⟨B1, 0, none⟩ (.int .i64 (xs.length : Int))).setCell ⟨B1 + 1, 0, none⟩ (.int .i64 (dmx xs : Int))).drew B1 3 (.int .i64 (xs.length : Int)) := Boxed.other u1 (by omega) _
    have u4 : Boxed ((W.setCell ⟨B1, 0, none⟩ (.int .i64 (xs.length : Int))).setCell ⟨B1 + 1, 0, none⟩ (.int .i64 (dmx xs : Int))).drew (B1 + 1) 3 (.int .i64 (dmx xs : Int)) := setBlock u2 0 _
    refine ⟨by simp, .inl ⟨_, _, rfl, run_takeDeferred hK', ?_⟩⟩
    have hc2 := cell_kept u3.cell (grownBy_putObj' _ D (.deferred none)) (fun r e => by cases e; exact ⟨_, hK', rfl⟩)
    have hc3 := cell_kept u4.cell (grownBy_putObj' _ D (.deferred none)) (fun r e => by cases e; exact ⟨_, hK', rfl⟩)
    have hl : xs.length = t.size := by have := congrArg List.length hS; rw [List.length_map, nodesD_len] at this; exact this
    refine ⟨.tuple #[.int .i64 (xs.length : Int), .int .i64 (dmx xs : Int)], ?_, ?_⟩
    · simp [results, Tryz.f94, go_sem, hc2, hc3]
    · refine ⟨by rw [e1, e2, hl, dmx_all hS], ?_⟩
      have hEW : Ext w ((W.setCell ⟨B1, 0, none⟩ (.int .i64 (xs.length : Int))).setCell ⟨B1 + 1, 0, none⟩ (.int .i64 (dmx xs : Int))).drew := ((below_ext i3 (by omega)).setNew (show w.heap.size ≤ B1 by omega) _).setNew (show w.heap.size ≤ B1 + 1 by omega) _ |>.drew
      exact hEW.trans' (Upd.of_grown (grownBy_putObj' _ D (.deferred none))) (fun i hi e => by cases e; omega)
  case stop =>
    rintro D c pre W _ _ h _
    exact h.elim

end Go.Proofs.YtjjaknmnhhfjeaaGreatDoor
