/- The texts I3 I4 I5 I6 I7 I8 I9 I10 I11 I12 I13 I14 I15, one behind the other. -/
import Derived.Test.YtjjaknmnhhfjeaaGreatDoorUAE
import Derived.Test.YtjjaknmnhhfjeaaGreatDoorUAB
import Derived.Sort.Walk0
import Derived.Laws.Cover1
import Derived.BigQuiet
import Derived.Test.YtjjaknmnhhfjeaaGreatDoorUAC
/- sorts. -/
namespace Go.Proofs.YtjjaknmnhhfjeaaGreatDoor
open Go.RowKit Go.Hw Go
set_option linter.unusedVariables false
set_option linter.unusedSimpArgs false

open Go.Shelf Tm
attribute [local go_sem] Oper.semAt_some
theorem keeps_map {W W' : World} {B b : Nat} (h : Upd (fun k => k = b) W W') (hb : b < B) : KeepsFrom B W W' :=
  ⟨h.size, fun k o hk hh _ => h.heap hh (fun e => by subst e; omega)⟩
abbrev mVd (m : List Vd) : List (ByteArray × Value) := m.map fun f => (f.1, .string f.2)
theorem afind_mVd (m : List Vd) (n : By) : afind (mVd m) n = (fget m n).map .string := by
  induction m with
  | nil => rfl
  | cons a m ih =>
    rw [show mVd (a :: m) = (a.1, .string a.2) :: mVd m from rfl, afind_cons, fget_cons, ih]
    split <;> rfl
theorem aput_mVd_new (m : List Vd) (f : Vd) (h : fget m f.1 = none) : aput (mVd m) f.1 (.string f.2) = mVd (m ++ [f]) := by
  induction m with
  | nil => rfl
  | cons a m ih =>
    rw [fget_cons] at h
    by_cases e : a.1 = f.1
    · rw [if_pos e] at h; cases h
    · rw [if_neg e] at h
      rw [show mVd (a :: m) = (a.1, .string a.2) :: mVd m from rfl]
      unfold aput
      rw [if_neg e, ih h]
      rfl
theorem aput_mVd_old (m : List Vd) (f : Vd) (h : fget m f.1 = some f.2) : aput (mVd m) f.1 (.string f.2) = mVd m := by
  induction m with
  | nil => cases h
  | cons a m ih =>
    rw [fget_cons] at h
    rw [show mVd (a :: m) = (a.1, .string a.2) :: mVd m from rfl]
    unfold aput
    by_cases e : a.1 = f.1
    · rw [if_pos e] at h ⊢
      injection h with h
      rw [h, e]
    · rw [if_neg e] at h ⊢
      rw [ih h]
def vlN (pre : List Nd) : List Vd := vl (pre.map (·.t))
theorem vlN_snoc (pre : List Nd) (x : Nd) : vlN (pre ++ [x]) = vlN pre ++ (if x.t.sort = nul then [] else [(x.t.name, x.t.sort)]) := by
  unfold vlN
  rw [List.map_append, vl_append]
  congr 1
  show List.filterMap _ [x.t] = _
  by_cases h : x.t.sort = nul
  · simp [h]
  · simp [h]
theorem vlN_all {xs : List Nd} {t : Tm} (h : xs.map Nd.pr = nodesD 1 t) : vlN xs = vl (sbts t) := by
  unfold vlN sbts
  rw [nodesD_fst t 0 1, ← h, List.map_map]
  rfl
theorem vlN_pre {xs : List Nd} {t : Tm} (h : xs.map Nd.pr <+: nodesD 1 t) : ∃ r, vl (sbts t) = vlN xs ++ r := by
  obtain ⟨r, hr⟩ := h
  refine ⟨vl (r.map (·.1)), ?_⟩
  unfold vlN sbts
  rw [nodesD_fst t 0 1, ← hr, List.map_append, List.map_map, vl_append]
  rfl
def SortsP (B : Nat) (o : Option (List Vd)) (e : Ending) (w' : World) : Prop := match o with
  | some m => ∃ b, e = .returned (.tuple #[.map (some b), .bool true]) ∧ B ≤ b ∧ MpR (fun s : ByteArray => Value.string s) w' b (mVd m)
  | none => e = .returned (.tuple #[.map none, .bool false])
set_option maxRecDepth 100000 in
set_option maxHeartbeats 4000000 in
theorem sorts_x (t : Tm) (g off cap a cp : Nat) (ad : Option Addr) (w : World) (hc : w.cell? ⟨g, off, none⟩ = some (.string t.name) ∧ w.cell? ⟨g, off + 1, none⟩ = some (.string t.sort) ∧ w.cell? ⟨g, off + 2, none⟩ = some (.slice ad t.kids.length cp)) (hR : TlR (fun k => k < w.heap.size) w t.kids (.slice ad t.kids.length cp)) (hsz : (t.size : Int) ≤ 1000000000000) :
    Calls Tryz.prog 50 #[.slice (some ⟨g, off, none⟩) 1 cap] w fun e w' => SortsP w.heap.size (sortsT t) e w' ∧ Ext w w' := by
  obtain ⟨q0, q1, q2⟩ := hc
  have hmm := @run_makeMap Tryz.prog
  refine (callsIn_wide (n := 9)).1 ?_
  have hro : Fence.wide.round = none := rfl
  have hd : Fence.wide.depth = none := rfl
  have hf : ∀ k, Fence.wide.fn k := fun _ => trivial
  have h1 : 1 ≤ 9 := by omega
  refine callsIn_of_wp_marks Tryz.func50 rfl trivial ?_ hro
  simp only [Tryz.ntmps50, List.size_toArray, List.length_cons, List.length_nil, Nat.reduceAdd, Nat.reduceSub, Array.replicate_succ, Array.replicate_zero, List.push_toArray, List.append_toArray, List.nil_append, List.cons_append]
  gi_wp2
  have hE5 : Ext w ((((w.alloc (.cells #[.map none] 85)).alloc (.cells #[.bool false] 4)).alloc (.map #[] 0)).alloc (.cells #[.map (some (w.heap.size + 1 + 1))] 85)) := ((((Upd.refl (fun _ => False) w).alloc _).alloc _).alloc _).alloc _
  have hs5 : ((((w.alloc (.cells #[.map none] 85)).alloc (.cells #[.bool false] 4)).alloc (.map #[] 0)).alloc (.cells #[.map (some (w.heap.size + 1 + 1))] 85)).heap.size = w.heap.size + 4 := by simp
  have hb2 : Boxed ((((w.alloc (.cells #[.map none] 85)).alloc (.cells #[.bool false] 4)).alloc (.map #[] 0)).alloc (.cells #[.map (some (w.heap.size + 1 + 1))] 85)) w.heap.size 85 (.map none) := allocOld (allocOld (allocOld (alloc0 _ _) _) _) _
  have hb3 : Boxed ((((w.alloc (.cells #[.map none] 85)).alloc (.cells #[.bool false] 4)).alloc (.map #[] 0)).alloc (.cells #[.map (some (w.heap.size + 1 + 1))] 85)) (w.heap.size + 1) 4 (.bool false) := allocOld (allocOld (alloc_at _ _ (by simp)) _) _
  have hmp : MpR (fun s : ByteArray => Value.string s) ((((w.alloc (.cells #[.map none] 85)).alloc (.cells #[.bool false] 4)).alloc (.map #[] 0)).alloc (.cells #[.map (some (w.heap.size + 1 + 1))] 85)) (w.heap.size + 1 + 1) [] := ⟨#[], 0, allocOld (alloc_at _ _ (by simp)) _, rfl, List.Pairwise.nil, fun _ h => by cases h⟩
  have hb4 : Boxed ((((w.alloc (.cells #[.map none] 85)).alloc (.cells #[.bool false] 4)).alloc (.map #[] 0)).alloc (.cells #[.map (some (w.heap.size + 1 + 1))] 85)) (w.heap.size + 1 + 1 + 1) 85 (.map (some (w.heap.size + 1 + 1))) := alloc_at _ _ (by simp)
  generalize ((((w.alloc (.cells #[.map none] 85)).alloc (.cells #[.bool false] 4)).alloc (.map #[] 0)).alloc (.cells #[.map (some (w.heap.size + 1 + 1))] 85)) = w5 at *
  generalize hB4 : w.heap.size + 1 + 1 + 1 = B4 at *
  generalize hM : w.heap.size + 1 + 1 = M at *
  generalize hB3 : w.heap.size + 1 = B3 at *
  generalize hB2 : w.heap.size = B2 at *
  refine wpIn_loop_rounds 2 ?_
  rw [roundsIn_succ]
  obtain ⟨wr, hwr⟩ : ∃ wr, wr = w5 := ⟨_, rfl⟩
  subst hwr
  have p0 := hE5.cell q0 (fun h => h)
  have p1 := hE5.cell q1 (fun h => h)
  have p2 := hE5.cell q2 (fun h => h)
  have hE6 : Ext wr (wr.alloc (.cells #[.string t.name, .string t.sort, .slice ad t.kids.length cp] 24)) := (Upd.refl (fun _ => False) wr).alloc _
  have hb6 := alloc0 wr (.cells #[.string t.name, .string t.sort, .slice ad t.kids.length cp] 24)
  have x0 := cellRow hb6 0 (.string t.name) rfl
  have x1 := cellRow hb6 1 (.string t.sort) rfl
  have x2 := cellRow hb6 2 (.slice ad t.kids.length cp) rfl
  gi_wp2
  refine (callsIn_wide.2 (nodes_x t (.slice ad t.kids.length cp) _ ⟨_, _, _, rfl⟩)).mono ?_
  rintro e w7 ⟨rfl, hE7, hs7, hb7, hv7⟩
  have hs6 : (wr.alloc (.cells #[.string t.name, .string t.sort, .slice ad t.kids.length cp] 24)).heap.size = B2 + 5 := by simp [hs5]
  rw [hs6] at hs7 hb7 hv7 ⊢
  have hE := hE5.ext (hE6.ext hE7)
  have hc2 : Boxed w7 B2 85 (.map none) := hE7.heap (hE6.heap hb2 (fun h => h)) (fun h => h)
  have hc3 : Boxed w7 B3 4 (.bool false) := hE7.heap (hE6.heap hb3 (fun h => h)) (fun h => h)
  have hc4 : Boxed w7 B4 85 (.map (some M)) := hE7.heap (hE6.heap hb4 (fun h => h)) (fun h => h)
  have hmp7 := (hmp.ext hE6).ext hE7
  clear hE6 hE7 hb6 hs6 x0 x1 x2
  gi_wp2
  refine wpIn_rangeFunc_ownH hro h1 (gf := 114) (lb := #[.pointer (some ⟨B2 + 5 + 1, 0, none⟩), .pointer (some ⟨B2 + 5, 0, none⟩)]) rfl trivial (enters_of Tryz.func114 (by kernel_rfl) rfl)
    (nodes_stops Fence.wide hd (9 - 1) hf hro (B2 + 5 + 1) (B2 + 5) (fun k => k = B2 ∨ k = B3 ∨ k = M) (fun k => k < B2) w7 (by omega) (by omega) (by omega) (by omega) t ad cp (hB2 ▸ hR.ext hE) hv7 hb7 (by omega)) (fun h k => KpG.trans h k) (fun W l o o' _ hl hc _ => KpG.putObj W l o o' hl hc) (Below.refl _ _) (fun _ => rfl)
    (fun pre W => ∃ m, sFold [] (vlN pre) = some m ∧ MpR (fun s : ByteArray => Value.string s) W M (mVd m) ∧ Boxed W B2 85 (.map none) ∧ Boxed W B3 4 (.bool false) ∧ Boxed W B4 85 (.map (some M)) ∧ Ext w W ∧ w7.heap.size ≤ W.heap.size)
    (fun c pre W => c = .ret ∧ sFold [] (vlN pre) = none ∧ Boxed W B2 85 (.map none) ∧ Boxed W B3 4 (.bool false) ∧ Ext w W)
    (fun s A B row hs hg hr => by
      obtain ⟨m, h1, h2, h3, h4, h5, h6, h7⟩ := hs
      have hu := Upd.of_grown hg
      have hne : ∀ k, k < B2 + 7 → ¬ some k = row := fun k hk e => by have := (hr k e.symm).1; omega
      exact ⟨m, h1, h2.kept hu (hne _ (by omega)), hu.heap h3 (hne _ (by omega)), hu.heap h4 (hne _ (by omega)), hu.heap h5 (hne _ (by omega)), h6.trans' hu (fun i hi e => hne i (by omega) e), Nat.le_trans h7 hu.size⟩)
    (fun c s A B row hs hg hr => by
      obtain ⟨h1, h2, h3, h4, h6⟩ := hs
      have hu := Upd.of_grown hg
      have hne : ∀ k, k < B2 + 7 → ¬ some k = row := fun k hk e => by have := (hr k e.symm).1; omega
      exact ⟨h1, h2, hu.heap h3 (hne _ (by omega)), hu.heap h4 (hne _ (by omega)), h6.trans' hu (fun i hi e => hne i (by omega) e)⟩)
    ⟨[], rfl, hmp7, hc2, hc3, hc4, hE, Nat.le_refl _⟩
    (fun x a' W => ∃ Bx, B2 + 6 < Bx ∧ W.heap[Bx]? = some (.cells #[.string x.t.name, .string x.t.sort, .slice x.a x.t.kids.length x.cap] 24 (0, 0)) ∧ a' = { tmps := #[.slice (some ⟨g, off, none⟩) 1 cap, undef, .pointer (some ⟨B2, 0, none⟩), .pointer (some ⟨B3, 0, none⟩), .pointer (some ⟨B4, 0, none⟩), undef, .pointer (some ⟨B2 + 4, 0, none⟩), .pointer (some ⟨Bx, 0, none⟩), undef, undef, .map (some M), .slice (some ⟨g, off, none⟩) 1 cap, .int .i64 1, .int .i64 0, .bool true, .pointer (some ⟨g, off, none⟩), (.agg #[.string t.name, .string t.sort, .slice ad t.kids.length cp]), (.agg #[.string t.name, .string t.sort, .slice ad t.kids.length cp]), (.func (.func 114) #[] #[.pointer (some ⟨B2 + 5 + 1, 0, none⟩), .pointer (some ⟨B2 + 5, 0, none⟩)]), (.agg #[.string x.t.name, .string x.t.sort, .slice x.a x.t.kids.length x.cap]), .int .i64 (x.d : Int), undef, undef, undef, undef, undef, undef, undef, undef, undef, undef, undef, undef, undef, undef, undef, undef, undef, undef, undef, undef, undef, undef, undef, undef], defers := [] })
    (fun x a' _ X Y row hs hg hr => by
      obtain ⟨Bx, e1, e2, e3⟩ := hs
      refine ⟨Bx, e1, (Upd.of_grown hg).heap e2 (fun e => ?_), e3⟩
      obtain ⟨o, ho, hc⟩ := (hr Bx e.symm).2
      rw [e2] at ho
      cases ho
      cases hc) ?assign ?body ?done ?stop
  case assign =>
    rintro l pre x W K ⟨m, i1, i2, i3, i4, i5, i6, i7⟩ hK
    dsimp only [Nd.encs, tV]
    have hbx := alloc0 W (.cells #[.string x.t.name, .string x.t.sort, .slice x.a x.t.kids.length x.cap] 24)
    have hal : Ext W (W.alloc (.cells #[.string x.t.name, .string x.t.sort, .slice x.a x.t.kids.length x.cap] 24)) := (Upd.refl _ W).alloc _
    gi_wp2
    exact hK _ _ (keeps_ext _ hal) (KpG.of_ext hal) ⟨m, i1, i2.ext hal, i3.alloc _, i4.alloc _, i5.alloc _, i6.ext hal, Nat.le_trans i7 hal.size⟩ ⟨W.heap.size, by omega, hbx, rfl⟩
  case body =>
    rintro l pre x a' W hl hrec ⟨m, i1, i2, i3, i4, i5, i6, i7⟩ ⟨Bx, hBx, hbx, rfl⟩ hlt
    have hlt7 := hE.size
    have x0 := cellRow hbx 0 (.string x.t.name) rfl
    have x1 := cellRow hbx 1 (.string x.t.sort) rfl
    have x2 := cellRow hbx 2 (.slice x.a x.t.kids.length x.cap) rfl
    have b4 := i5.cell
    have r2 := i3.cell
    have r3 := i4.cell
    have s2 := i3.frozen
    have s3 := i4.frozen
    have hvs := vlN_snoc pre x
    by_cases hs0 : x.t.sort.size = 0
    · have hse := empty_is _ hs0
      rw [if_pos (show x.t.sort = nul from hse), List.append_nil] at hvs
      rw [hse] at x1
      gi_wp2
      exact ⟨KeepsFrom.refl _ _, KpG.refl _ _, m, by rw [hvs]; exact i1, i2, i3, i4, i5, i6, i7⟩
    have hne : x.t.sort ≠ nul := fun e => hs0 (by rw [e]; rfl)
    rw [if_neg hne] at hvs
    have hsf : sFold [] (vlN (pre ++ [x])) = (match fget m x.t.name with | none => some (m ++ [(x.t.name, x.t.sort)]) | some s => if s = x.t.sort then some m else none) := by
      rw [hvs, sFold_append, i1]
      show sFold m [(x.t.name, x.t.sort)] = _
      unfold sFold
      cases fget m x.t.name with
      | none => rfl
      | some s =>
        simp only
        split <;> rfl
    have HSF := Lib.hid hsf
    obtain ⟨e1, e2, e3, e4⟩ := nonempty_t x.t.sort (Nat.pos_of_ne_zero hs0)
    have hlk := i2.get (P := Tryz.prog) (t := 85) (strKey Tryz.underlying9) Tryz.underlying85 (z := .string ⟨#[]⟩) (Tryz.zeroValue9 W) x.t.name true
    rw [afind_mVd] at hlk
    simp only [if_true] at hlk
    have hM7 : M < w7.heap.size := by omega
    obtain ⟨W2, hput, hmp2, hu2⟩ := i2.put (P := Tryz.prog) (t := 85) (strKey Tryz.underlying9) Tryz.underlying85 x.t.name (.string x.t.sort)
    cases hg : fget m x.t.name with
    | none =>
      rw [hg] at hlk
      have hv2 := aput_mVd_new m (x.t.name, x.t.sort) hg
      simp only at hv2
      rw [hv2] at hmp2
      have hsf2 := HSF.out
      rw [hg] at hsf2
      clear hsf
      gi_wp2
      exact ⟨keeps_map hu2 (by omega), KpG.of_upd hu2 (fun k _ e => .inr (.inr e)), _, hsf2, hmp2, hu2.heap i3 (by omega), hu2.heap i4 (by omega), hu2.heap i5 (by omega), i6.trans' hu2 (fun i hi e => by omega), by have h9 := hu2.size; omega⟩
    | some s =>
      rw [hg] at hlk
      have hsf2 := HSF.out
      rw [hg] at hsf2
      clear hsf
      simp only at hsf2
      by_cases hse : s = x.t.sort
      · rw [if_pos hse] at hsf2
        have hv2 := aput_mVd_old m (x.t.name, x.t.sort) (by rw [hg, hse])
        simp only at hv2
        rw [hv2] at hmp2
        subst hse
        have hbb : (x.t.sort.toList == x.t.sort.toList) = true := by simp
        have hsf3 := Lib.hid hsf2
        clear hsf2
        gi_wp2
        exact ⟨keeps_map hu2 (by omega), KpG.of_upd hu2 (fun k _ e => .inr (.inr e)), m, hsf3.out, hmp2, hu2.heap i3 (by omega), hu2.heap i4 (by omega), hu2.heap i5 (by omega), i6.trans' hu2 (fun i hi e => by omega), by have h9 := hu2.size; omega⟩
      · rw [if_neg hse] at hsf2
        have hbb : (s.toList == x.t.sort.toList) = false := by
          rw [beq_eq_false_iff_ne]
          intro e
          exact hse (ba_list (by rw [Lib.toList_data, Lib.toList_data] at e; exact e))
        have hsf3 := Lib.hid hsf2
        clear hsf2
        gi_wp2
        have st := ((Upd.refl (fun k => k = B2 ∨ k = B3) W).setCell (p := ⟨B2, 0, none⟩) (.inl (.inl rfl)) (.map none)).setCell (p := ⟨B3, 0, none⟩) (.inl (.inr rfl)) (.bool false)
        have i3' : Boxed (W.setCell ⟨B2, 0, none⟩ (.map none)) B2 85 (.map none) := setBlock i3 0 (.map none)
        have i4' : Boxed (W.setCell ⟨B2, 0, none⟩ (.map none)) B3 4 (.bool false) := Boxed.other i4 (by omega) _
        refine ⟨keeps_upd _ st (fun k o e ho => ?_), rfl, hsf3.out, Boxed.other i3' (by omega) _, setBlock i4' 0 (.bool false), (i6.setNew (show w.heap.size ≤ B2 by omega) _).setNew (show w.heap.size ≤ B3 by omega) _⟩
        rcases e with e | e
        · subst e; rw [show W.heap[k]? = _ from i3] at ho; cases ho; rfl
        · subst e; rw [show W.heap[k]? = _ from i4] at ho; cases ho; rfl
  case done =>
    rintro D xs W hD hS ⟨m, i1, i2, i3, i4, i5, i6, i7⟩ hK
    have hso : sortsT t = some m := by rw [vlN_all hS] at i1; exact i1
    have b4 := i5.cell
    have r2 := i3.cell
    have r3 := i4.cell
    have s2 := i3.frozen
    have s3 := i4.frozen
    gi_wp2
    rw [roundsIn_succ]
    gi_wp2
    have st := ((Upd.refl (fun k => k = B2 ∨ k = B3) W).setCell (p := ⟨B2, 0, none⟩) (.inl (.inl rfl)) (.map (some M))).setCell (p := ⟨B3, 0, none⟩) (.inl (.inr rfl)) (.bool true)
    have i3' : Boxed (W.setCell ⟨B2, 0, none⟩ (.map (some M))) B2 85 (.map (some M)) := setBlock i3 0 (.map (some M))
    have i4' : Boxed (W.setCell ⟨B2, 0, none⟩ (.map (some M))) B3 4 (.bool false) := Boxed.other i4 (by omega) _
    have i3'' : Boxed ((W.setCell ⟨B2, 0, none⟩ (.map (some M))).setCell ⟨B3, 0, none⟩ (.bool true)) B2 85 (.map (some M)) := Boxed.other i3' (by omega) _
    have i4'' : Boxed ((W.setCell ⟨B2, 0, none⟩ (.map (some M))).setCell ⟨B3, 0, none⟩ (.bool true)) B3 4 (.bool true) := setBlock i4' 0 (.bool true)
    have hK' := (keeps_upd 0 st (fun k o e ho => by
      rcases e with e | e
      · subst e; rw [show W.heap[k]? = _ from i3] at ho; cases ho; rfl
      · subst e; rw [show W.heap[k]? = _ from i4] at ho; cases ho; rfl)).same D _ (Nat.zero_le _) hK rfl
    refine ⟨by simp, .inl ⟨_, _, rfl, run_takeDeferred hK', ?_⟩⟩
    have hc2 := cell_kept i3''.cell (grownBy_putObj' _ D (.deferred none)) (fun r e => by cases e; exact ⟨_, hK', rfl⟩)
    have hc3 := cell_kept i4''.cell (grownBy_putObj' _ D (.deferred none)) (fun r e => by cases e; exact ⟨_, hK', rfl⟩)
    have hM := (i2.kept st (by omega)).kept (Upd.of_grown (grownBy_putObj' _ D (.deferred none))) (fun e => by cases e; omega)
    refine ⟨.tuple #[.map (some M), .bool true], ?_, ?_⟩
    · simp [results, Tryz.f50, go_sem, hc2, hc3]
    · refine ⟨?_, ((i6.setNew (show w.heap.size ≤ B2 by omega) _).setNew (show w.heap.size ≤ B3 by omega) _).trans' (Upd.of_grown (grownBy_putObj' _ D (.deferred none))) (fun i hi e => by cases e; omega)⟩
      unfold SortsP
      rw [hso]
      exact ⟨M, rfl, by omega, hM⟩
  case stop =>
    rintro D c pre W hD hS ⟨rfl, i1, i3, i4, i6⟩ hK
    have hso : sortsT t = none := by
      obtain ⟨r, hr⟩ := vlN_pre hS
      unfold sortsT
      rw [hr, sFold_append, i1]
      rfl
    gi_wp2
    refine ⟨by simp, .inl ⟨_, _, rfl, run_takeDeferred hK, ?_⟩⟩
    have hc2 := cell_kept i3.cell (grownBy_putObj' _ D (.deferred none)) (fun r e => by cases e; exact ⟨_, hK, rfl⟩)
    have hc3 := cell_kept i4.cell (grownBy_putObj' _ D (.deferred none)) (fun r e => by cases e; exact ⟨_, hK, rfl⟩)
    refine ⟨.tuple #[.map none, .bool false], ?_, ?_⟩
    · simp [results, Tryz.f50, go_sem, hc2, hc3]
    · refine ⟨?_, i6.trans' (Upd.of_grown (grownBy_putObj' _ D (.deferred none))) (fun i hi e => by cases e; omega)⟩
      unfold SortsP
      rw [hso]

end Go.Proofs.YtjjaknmnhhfjeaaGreatDoor

/- wellFormed. -/
namespace Go.Proofs.YtjjaknmnhhfjeaaGreatDoor
open Go.RowKit Go.Hw Go
set_option linter.unusedVariables false
set_option linter.unusedSimpArgs false

open Tm
theorem wf_false {t : Tm} (h : formed nmB t = false) : wf nmB t = false := by unfold wf; rw [h, Bool.false_and]
set_option maxRecDepth 100000 in
set_option maxHeartbeats 2000000 in
theorem wellFormed_x (t : Tm) (v : Value) (w : World) (htab : AscT w) (hR : TmR (fun k => k < w.heap.size) w t v) (hsz : (t.size : Int) ≤ 1000000000000) : Calls Tryz.prog 46 #[v] w fun e w' => e = .returned (.bool (wf nmB t)) ∧ Ext w w' := by
  have HR := Lib.hid hR
  obtain ⟨a, cap, rfl, hT⟩ := hR
  have HTL := Lib.hid hT
  dsimp only [tV]
  have HZ := Lib.hid ((Upd.refl (fun _ => False) w).alloc (.cells #[.string t.name, .string t.sort, .slice a t.kids.length cap] 24))
  have HB := Lib.hid (alloc0 w (.cells #[.string t.name, .string t.sort, .slice a t.kids.length cap] 24))
  have HF := Lib.hid (fun W (hW : Ext w W) => formed_x t _ W (asc_ext htab hW) ((HR.out.ext hW).weaken (fun k hk => Nat.lt_of_lt_of_le hk hW.size)) hsz)
  dsimp only [tV] at HF
  have c0 := cellRow HB.out 0 (.string t.name) rfl
  have c1 := cellRow HB.out 1 (.string t.sort) rfl
  have c2 := cellRow HB.out 2 (.slice a t.kids.length cap) rfl
  clear hT
  cases hfm : formed nmB t
  · rw [hfm] at HF
    have hwf := wf_false hfm
    rw [hwf]
    clear hwf hfm
    go_enter Tryz.func46, Tryz.ntmps46
    go_wp2_with fail
    refine (HF.out _ HZ.out).mono ?_
    rintro e w4 ⟨rfl, hw4⟩
    have H4 := Lib.hid (HZ.out.ext hw4)
    clear hw4 c0 c1 c2
    go_wp2_with fail
    go_ret
    exact ⟨rfl, H4.out⟩
  rw [hfm] at HF
  have HSO : Hid (wf nmB t = (sortsT t).isSome) := Lib.hid (by unfold wf; rw [hfm, Bool.true_and])
  clear hfm
  rw [HSO.out]
  go_enter Tryz.func46, Tryz.ntmps46
  go_wp2_with fail
  refine (HF.out _ HZ.out).mono ?_
  rintro e w4 ⟨rfl, hw4⟩
  have H4 := Lib.hid (HZ.out.ext hw4)
  have HB4 := Lib.hid (hw4.heap HB.out (fun h => h))
  clear hw4 c0 c1 c2
  have c0 := cellRow HB4.out 0 (.string t.name) rfl
  have c1 := cellRow HB4.out 1 (.string t.sort) rfl
  have c2 := cellRow HB4.out 2 (.slice a t.kids.length cap) rfl
  have HBX := Lib.hid (alloc0 w4 (.cells #[.string t.name, .string t.sort, .slice a t.kids.length cap] 24))
  have HE5 := Lib.hid (H4.out.alloc (.cells #[.string t.name, .string t.sort, .slice a t.kids.length cap] 24))
  go_wp2_with fail
  generalize (w4.alloc (.cells #[.string t.name, .string t.sort, .slice a t.kids.length cap] 24)) = w5 at *
  have x0 := cellRow HBX.out 0 (.string t.name) rfl
  have x1 := cellRow HBX.out 1 (.string t.sort) rfl
  have x2 := cellRow HBX.out 2 (.slice a t.kids.length cap) rfl
  have HSR := Lib.hid (sorts_x t w4.heap.size 0 1 0 cap a w5 ⟨x0, x1, x2⟩ ((HTL.out.ext HE5.out).weaken (fun k hk => Nat.lt_of_lt_of_le hk HE5.out.size)) hsz)
  clear x0 x1 x2 c0 c1 c2
  refine HSR.out.mono ?_
  rintro e w6 ⟨hp, hw6⟩
  have H6 := Lib.hid (HE5.out.ext hw6)
  unfold SortsP at hp
  clear hw6 HSR
  cases hso : sortsT t with
  | none =>
    rw [hso] at hp
    simp only at hp
    subst hp
    go_wp2_with fail
    go_ret
    rw [hso]
    exact ⟨rfl, H6.out⟩
  | some m =>
    rw [hso] at hp
    simp only at hp
    obtain ⟨b, rfl, _, _⟩ := hp
    go_wp2_with fail
    go_ret
    rw [hso]
    exact ⟨rfl, H6.out⟩

end Go.Proofs.YtjjaknmnhhfjeaaGreatDoor

/- size. -/
namespace Go.Proofs.YtjjaknmnhhfjeaaGreatDoor
open Go.RowKit Go.Hw Go
set_option linter.unusedVariables false
set_option linter.unusedSimpArgs false

open Go.Shelf Tm
attribute [local go_sem] Oper.semAt_some
def dmx (pre : List Nd) : Nat := pre.foldl (fun m x => max m x.d) 0
theorem dmx_snoc (pre : List Nd) (x : Nd) : dmx (pre ++ [x]) = max (dmx pre) x.d := by unfold dmx; rw [List.foldl_append]; rfl
theorem nodes_max : ∀ (t : Tm) (d m : Nat), d ≤ m + 1 → ((nodesD d t).map (·.2)).foldl max m = max m (d + t.depth - 1) := by
  refine Tm.ind (fun nm so L ih d m hm => ?_)
  have hL : ∀ (L : List Tm) (d m : Nat), 1 ≤ d → d ≤ m + 1 → (∀ x ∈ L, ∀ (d m : Nat), d ≤ m + 1 → ((nodesD d x).map (·.2)).foldl max m = max m (d + x.depth - 1)) → ((nodesDs d L).map (·.2)).foldl max m = max m (d - 1 + depths L) := by
    intro L
    induction L with
    | nil => intro d m h1 h2 _; simp [nodesDs, depths]; omega
    | cons a L ihL =>
      intro d m h1 h2 h
      simp only [nodesDs, List.map_append, List.foldl_append, depths]
      rw [h a (List.mem_cons_self ..) d m h2, ihL d _ h1 (by omega) (fun x hx => h x (List.mem_cons_of_mem _ hx))]
      omega
  rw [nodesD_eq, depth_eq]
  simp only [List.map_cons, List.foldl_cons, Tm.kids]
  rw [hL L (d + 1) (max m d) (by omega) (by omega) ih]
  omega
theorem dmx_all {xs : List Nd} {t : Tm} (h : xs.map Nd.pr = nodesD 1 t) : dmx xs = t.depth := by
  have h1 := nodes_max t 1 0 (by omega)
  rw [← h, List.map_map] at h1
  have h2 : dmx xs = (xs.map ((fun x => x.2) ∘ Nd.pr)).foldl max 0 := by
    unfold dmx
    rw [List.foldl_map]
    rfl
  rw [h2, h1]
  have := depth_eq t
  omega
def szF (t : Tm) : Nat := if wf nmB t then t.size else 0
def dpF (t : Tm) : Nat := if wf nmB t then t.depth else 0
set_option maxRecDepth 100000 in
set_option maxHeartbeats 4000000 in
theorem size_x (t : Tm) (v : Value) (w : World) (htab : AscT w) (hR : TmR (fun k => k < w.heap.size) w t v) (hsz : (t.size : Int) ≤ 1000000000000) : Calls Tryz.prog 94 #[v] w fun e w' => e = .returned (.tuple #[.int .i64 (szF t : Nat), .int .i64 (dpF t : Nat)]) ∧ Ext w w' := by
  have HR := Lib.hid hR
  obtain ⟨a, cap, rfl, hT⟩ := hR
  dsimp only [tV]
  have HWF := Lib.hid (fun W (hW : Ext w W) => wellFormed_x t _ W (asc_ext htab hW) ((HR.out.ext hW).weaken (fun k hk => Nat.lt_of_lt_of_le hk hW.size)) hsz)
  dsimp only [tV] at HWF
  have hE3 : Ext w (((w.alloc (.cells #[.string t.name, .string t.sort, .slice a t.kids.length cap] 24)).alloc (.cells #[.int .i64 0] 3)).alloc (.cells #[.int .i64 0] 3)) := (((Upd.refl (fun _ => False) w).alloc _).alloc _).alloc _
  have hs3 : (((w.alloc (.cells #[.string t.name, .string t.sort, .slice a t.kids.length cap] 24)).alloc (.cells #[.int .i64 0] 3)).alloc (.cells #[.int .i64 0] 3)).heap.size = w.heap.size + 3 := by simp
  have hb1 : (((w.alloc (.cells #[.string t.name, .string t.sort, .slice a t.kids.length cap] 24)).alloc (.cells #[.int .i64 0] 3)).alloc (.cells #[.int .i64 0] 3)).heap[w.heap.size]? = some (.cells #[.string t.name, .string t.sort, .slice a t.kids.length cap] 24 (0, 0)) := allocOld (allocOld (alloc0 _ _) _) _
  have hb2 : Boxed (((w.alloc (.cells #[.string t.name, .string t.sort, .slice a t.kids.length cap] 24)).alloc (.cells #[.int .i64 0] 3)).alloc (.cells #[.int .i64 0] 3)) (w.heap.size + 1) 3 (.int .i64 0) := allocOld (alloc_at _ _ (by simp)) _
  have hb3 : Boxed (((w.alloc (.cells #[.string t.name, .string t.sort, .slice a t.kids.length cap] 24)).alloc (.cells #[.int .i64 0] 3)).alloc (.cells #[.int .i64 0] 3)) (w.heap.size + 1 + 1) 3 (.int .i64 0) := alloc_at _ _ (by simp)
  refine (callsIn_wide (n := 9)).1 ?_
  have hro : Fence.wide.round = none := rfl
  have hd : Fence.wide.depth = none := rfl
  have hf : ∀ k, Fence.wide.fn k := fun _ => trivial
  have h1 : 1 ≤ 9 := by omega
  refine callsIn_of_wp_marks Tryz.func94 rfl trivial ?_ hro
  have c0 := cellRow hb1 0 (.string t.name) rfl
  have c1 := cellRow hb1 1 (.string t.sort) rfl
  have c2 := cellRow hb1 2 (.slice a t.kids.length cap) rfl
  simp only [Tryz.ntmps94, List.size_toArray, List.length_cons, List.length_nil, Nat.reduceAdd, Nat.reduceSub, Array.replicate_succ, Array.replicate_zero, List.push_toArray, List.append_toArray, List.nil_append, List.cons_append]
  gi_wp2
  generalize (((w.alloc (.cells #[.string t.name, .string t.sort, .slice a t.kids.length cap] 24)).alloc (.cells #[.int .i64 0] 3)).alloc (.cells #[.int .i64 0] 3)) = w3 at *
  generalize hB1 : w.heap.size + 1 = B1 at *
  generalize hB0 : w.heap.size = B0 at *
  refine (callsIn_wide.2 (HWF.out _ hE3)).mono ?_
  rintro e w4 ⟨rfl, hE4⟩
  have hb14 := hE4.heap hb1 (fun h => h)
  have hb24 : Boxed w4 B1 3 (.int .i64 0) := hE4.heap hb2 (fun h => h)
  have hb34 : Boxed w4 (B1 + 1) 3 (.int .i64 0) := hE4.heap hb3 (fun h => h)
  have hE := hE3.ext hE4
  have hsz4 := hE4.size
  have c0 := cellRow hb14 0 (.string t.name) rfl
  have c1 := cellRow hb14 1 (.string t.sort) rfl
  have c2 := cellRow hb14 2 (.slice a t.kids.length cap) rfl
  have r2 := hb24.cell
  have r3 := hb34.cell
  have s2 := hb24.frozen
  have s3 := hb34.frozen
  clear hE4 hE3 hb1 hb2 hb3
  cases hwf : wf nmB t
  · have e1 : szF t = 0 := by unfold szF; rw [hwf]; rfl
    have e2 : dpF t = 0 := by unfold dpF; rw [hwf]; rfl
    gi_wp2
    have i2 : Boxed (w4.setCell ⟨B1, 0, none⟩ (.int .i64 0)) B1 3 (.int .i64 0) := setBlock hb24 0 (.int .i64 0)
    have i3 : Boxed (w4.setCell ⟨B1, 0, none⟩ (.int .i64 0)) (B1 + 1) 3 (.int .i64 0) := Boxed.other hb34 (by omega) _
    have i2' : Boxed ((w4.setCell ⟨B1, 0, none⟩ (.int .i64 0)).setCell ⟨B1 + 1, 0, none⟩ (.int .i64 0)) B1 3 (.int .i64 0) := Boxed.other i2 (by omega) _
    have i3' : Boxed ((w4.setCell ⟨B1, 0, none⟩ (.int .i64 0)).setCell ⟨B1 + 1, 0, none⟩ (.int .i64 0)) (B1 + 1) 3 (.int .i64 0) := setBlock i3 0 (.int .i64 0)
    have q2 := i2'.cell
    have q3 := i3'.cell
    refine ⟨.tuple #[.int .i64 0, .int .i64 0], by simp [results, Tryz.f94, go_sem, q2, q3], by rw [e1, e2]; rfl, (hE.setNew (show w.heap.size ≤ B1 by omega) _).setNew (show w.heap.size ≤ B1 + 1 by omega) _⟩
  have e1 : szF t = t.size := by unfold szF; rw [hwf]; rfl
  have e2 : dpF t = t.depth := by unfold dpF; rw [hwf]; rfl
  gi_wp2
  refine (callsIn_wide.2 (nodes_x t (.slice a t.kids.length cap) w4 ⟨_, _, _, rfl⟩)).mono ?_
  rintro e w5 ⟨rfl, hE5, hs5, hb5, hv5⟩
  have hc2 : Boxed w5 B1 3 (.int .i64 0) := hE5.heap hb24 (fun h => h)
  have hc3 : Boxed w5 (B1 + 1) 3 (.int .i64 0) := hE5.heap hb34 (fun h => h)
  have hEE := hE.ext hE5
  have hZ0 := hb34.lt
  clear r2 r3 s2 s3 c0 c1 c2 hb14 hb24 hb34
  obtain ⟨Z, hZ⟩ : ∃ Z, w4.heap.size = Z := ⟨_, rfl⟩
  rw [hZ] at hs5 hb5 hv5 hsz4 hZ0 ⊢
  gi_wp2
  refine wpIn_rangeFunc_ownH hro h1 (gf := 114) (lb := #[.pointer (some ⟨Z + 1, 0, none⟩), .pointer (some ⟨Z, 0, none⟩)]) rfl trivial (enters_of Tryz.func114 (by kernel_rfl) rfl)
    (nodes_stops Fence.wide hd (9 - 1) hf hro (Z + 1) Z (fun k => k = B1 ∨ k = B1 + 1) (fun k => k < B0) w5 (by omega) (by omega) (by omega) (by omega) t a cap (hB0 ▸ hT.ext hEE) hv5 hb5 (by omega)) (fun h k => KpG.trans h k) (fun W l o o' _ hl hc _ => KpG.putObj W l o o' hl hc) (Below.refl _ _) (fun _ => rfl)
    (fun pre W => (Boxed W B1 3 (.int .i64 (pre.length : Int)) ∧ Boxed W (B1 + 1) 3 (.int .i64 (dmx pre : Int))) ∧ Below B0 w W)
    (fun _ _ _ => False)
    (OwnFrom.and (OwnFrom.and (Own.from (boxed_own B1 3 (fun pre : List Nd => Value.int .i64 (pre.length : Int))) _) (Own.from (boxed_own (B1 + 1) 3 (fun pre : List Nd => Value.int .i64 (dmx pre : Int))) _)) (ownFrom_below (by omega) (by omega)))
    (fun _ _ _ _ _ hs _ _ => hs)
    ⟨⟨hc2, hc3⟩, hB0 ▸ Ext.below hEE⟩
    (fun x a' W => a' = { tmps := #[(.agg #[.string t.name, .string t.sort, .slice a t.kids.length cap]), .pointer (some ⟨B0, 0, none⟩), .pointer (some ⟨B1, 0, none⟩), .pointer (some ⟨B1 + 1, 0, none⟩), undef, .int .i64 (x.d : Int), (.agg #[.string t.name, .string t.sort, .slice a t.kids.length cap]), .bool true, .bool false, (.agg #[.string t.name, .string t.sort, .slice a t.kids.length cap]), (.func (.func 114) #[] #[.pointer (some ⟨Z + 1, 0, none⟩), .pointer (some ⟨Z, 0, none⟩)]), (.agg #[.string x.t.name, .string x.t.sort, .slice x.a x.t.kids.length x.cap]), .int .i64 (x.d : Int), undef, undef, undef, undef, undef, undef, undef], defers := [] })
    (fun x a' _ X Y row hs hg hr => hs) ?assign ?body ?done ?stop
  case assign =>
    rintro l pre x W K ⟨⟨i1, i2⟩, i3⟩ hK
    dsimp only [Nd.encs, tV]
    gi_wp2
    exact hK _ _ (KeepsFrom.refl _ _) (KpG.refl _ _) ⟨⟨i1, i2⟩, i3⟩ rfl
  case body =>
    rintro l pre x a' W hl hrec ⟨⟨i1, i2⟩, i3⟩ rfl hlt
    have hd1 := dmx_snoc pre x
    have r2 := i1.cell
    have r3 := i2.cell
    have s2 := i1.frozen
    have s3 := i2.frozen
    have hwn : IntKind.i64.wrap ((pre.length : Int) + 1) = (pre.length : Int) + 1 := IntWalk.i64_in _ (by omega)
    have u2 : Boxed (W.setCell ⟨B1, 0, none⟩ (.int .i64 ((pre.length : Int) + 1))) (B1 + 1) 3 (.int .i64 (dmx pre : Int)) := Boxed.other i2 (by omega) _
    have u3 := u2.cell
    have u4 := u2.frozen
    gi_wp2
    have st := ((Upd.refl (fun k => k = B1 ∨ k = B1 + 1) W).setCell (p := ⟨B1, 0, none⟩) (.inl (.inl rfl)) (.int .i64 ((pre.length : Int) + 1))).setCell (p := ⟨B1 + 1, 0, none⟩) (.inl (.inr rfl)) (.int .i64 (max (dmx pre : Int) (x.d : Int)))
    have e3 : ((dmx (pre ++ [x]) : Nat) : Int) = max (dmx pre : Int) (x.d : Int) := by rw [hd1]; omega
    have u1 : Boxed (W.setCell ⟨B1, 0, none⟩ (.int .i64 ((pre.length : Int) + 1))) B1 3 (.int .i64 ((pre.length : Int) + 1)) := setBlock i1 0 _
    refine ⟨keeps_upd _ st (fun k o e ho => ?_), KpG.of_upd st (fun k _ e => e), ⟨?_, ?_⟩, (i3.setCell (p := ⟨B1, 0, none⟩) (by show B0 ≤ B1; omega) _).setCell (p := ⟨B1 + 1, 0, none⟩) (by show B0 ≤ B1 + 1; omega) _⟩
    · rcases e with e | e
      · subst e; rw [show W.heap[k]? = _ from i1] at ho; cases ho; rfl
      · subst e; rw [show W.heap[B1 + 1]? = _ from i2] at ho; cases ho; rfl
    · rw [List.length_append]
      exact Boxed.other u1 (by omega) _
    · rw [e3]
      exact setBlock u2 0 _
  case done =>
    rintro D xs W hD hS ⟨⟨i1, i2⟩, i3⟩ hK
    have r2 := i1.cell
    have r3 := i2.cell
    have s2 := i1.frozen
    have s3 := i2.frozen
    gi_wp2
    refine wpIn_wide.2 ?_
    go_region
    gi_wp2
    have st := ((Upd.refl (fun k => k = B1 ∨ k = B1 + 1) W).setCell (p := ⟨B1, 0, none⟩) (.inl (.inl rfl)) (.int .i64 (xs.length : Int))).setCell (p := ⟨B1 + 1, 0, none⟩) (.inl (.inr rfl)) (.int .i64 (dmx xs : Int))
    have hK1 := (keeps_upd 0 st (fun k o e ho => by
      rcases e with e | e
      · subst e; rw [show W.heap[k]? = _ from i1] at ho; cases ho; rfl
      · subst e; rw [show W.heap[B1 + 1]? = _ from i2] at ho; cases ho; rfl)).same D _ (Nat.zero_le _) hK rfl
    have hK' : ((W.setCell ⟨B1, 0, none⟩ (.int .i64 (xs.length : Int))).setCell ⟨B1 + 1, 0, none⟩ (.int .i64 (dmx xs : Int))).drew.heap[D]? = some (.deferred (some [])) := hK1
    have u1 : Boxed (W.setCell ⟨B1, 0, none⟩ (.int .i64 (xs.length : Int))) B1 3 (.int .i64 (xs.length : Int)) := setBlock i1 0 _
    have u2 : Boxed (W.setCell ⟨B1, 0, none⟩ (.int .i64 (xs.length : Int))) (B1 + 1) 3 (.int .i64 (dmx xs : Int)) := Boxed.other i2 (by omega) _
    have u3 : Boxed ((W.setCell ⟨B1, 0, none⟩ (.int .i64 (xs.length : Int))).setCell ⟨B1 + 1, 0, none⟩ (.int .i64 (dmx xs : Int))).drew B1 3 (.int .i64 (xs.length : Int)) := Boxed.other u1 (by omega) _
    have u4 : Boxed ((W.setCell ⟨B1, 0, none⟩ (.int .i64 (xs.length : Int))).setCell ⟨B1 + 1, 0, none⟩ (.int .i64 (dmx xs : Int))).drew (B1 + 1) 3 (.int .i64 (dmx xs : Int)) := setBlock u2 0 _
    refine ⟨by simp, .inl ⟨_, _, rfl, run_takeDeferred hK', ?_⟩⟩
    have hc2 := cell_kept u3.cell (grownBy_putObj' _ D (.deferred none)) (fun r e => by cases e; exact ⟨_, hK', rfl⟩)
    have hc3 := cell_kept u4.cell (grownBy_putObj' _ D (.deferred none)) (fun r e => by cases e; exact ⟨_, hK', rfl⟩)
    have hl : xs.length = t.size := by have := congrArg List.length hS; rw [List.length_map, nodesD_len] at this; exact this
    refine ⟨.tuple #[.int .i64 (xs.length : Int), .int .i64 (dmx xs : Int)], ?_, ?_⟩
    · simp [results, Tryz.f94, go_sem, hc2, hc3]
    · refine ⟨by rw [e1, e2, hl, dmx_all hS], ?_⟩
      have hEW : Ext w ((W.setCell ⟨B1, 0, none⟩ (.int .i64 (xs.length : Int))).setCell ⟨B1 + 1, 0, none⟩ (.int .i64 (dmx xs : Int))).drew := ((below_ext i3 (by omega)).setNew (show w.heap.size ≤ B1 by omega) _).setNew (show w.heap.size ≤ B1 + 1 by omega) _ |>.drew
      exact hEW.trans' (Upd.of_grown (grownBy_putObj' _ D (.deferred none))) (fun i hi e => by cases e; omega)
  case stop =>
    rintro D c pre W _ _ h _
    exact h.elim

end Go.Proofs.YtjjaknmnhhfjeaaGreatDoor

/- Size, and Small of the reference. -/
namespace Go.Proofs.YtjjaknmnhhfjeaaGreatDoor
open Go.RowKit Go.Hw Go
set_option linter.unusedVariables false
set_option linter.unusedSimpArgs false

open Tm
theorem smalls_snoc (d : Nat) (x : Tm) : ∀ (L : List Tm) (left : Int), 0 ≤ left → smalls nmB d left (L ++ [x]) = if smalls nmB d left L < 0 then smalls nmB d left L else small nmB d (smalls nmB d left L) x
  | [], left, h => by
    simp only [List.nil_append, smalls]
    have hn : ¬ left < 0 := by omega
    simp only [hn, if_false]
    split <;> rfl
  | a :: L, left, h => by
    simp only [List.cons_append, smalls]
    by_cases hn : small nmB d left a < 0
    · simp only [hn, if_true]
    · simp only [hn, if_false]
      exact smalls_snoc d x L _ (by omega)
theorem smalls_neg (d : Nat) (M : List Tm) : ∀ (L : List Tm) (left : Int), 0 ≤ left → smalls nmB d left L < 0 → smalls nmB d left (L ++ M) = smalls nmB d left L
  | [], left, h, h2 => by simp only [smalls] at h2; omega
  | a :: L, left, h, h2 => by
    simp only [List.cons_append, smalls] at h2 ⊢
    by_cases hn : small nmB d left a < 0
    · rw [if_pos hn, if_pos hn]
    · rw [if_neg hn] at h2 ⊢
      rw [if_neg hn]
      exact smalls_neg d M L _ (by omega) h2
theorem small_bd (d : Nat) (left : Int) (t : Tm) : -1 ≤ small nmB d left t ∧ (small nmB d left t ≤ left ∨ small nmB d left t = -1) := by
  rw [small_spec]
  have := size_pos t
  split
  · rename_i h; exact ⟨by omega, .inl (by omega)⟩
  · exact ⟨by omega, .inr rfl⟩
set_option maxRecDepth 100000 in
set_option maxHeartbeats 2000000 in
theorem Size_x (t : Tm) (v : Value) (w : World) (htab : AscT w) (hR : TmR (fun k => k < w.heap.size) w t v) (hsz : (t.size : Int) ≤ 1000000000000) : Calls Tryz.prog 38 #[v] w fun e w' => e = .returned (.int .i64 (szF t : Nat)) ∧ Ext w w' := by
  have HR := Lib.hid hR
  obtain ⟨a, cap, rfl, hT⟩ := hR
  dsimp only [tV]
  have HZ := Lib.hid ((Upd.refl (fun _ => False) w).alloc (.cells #[.string t.name, .string t.sort, .slice a t.kids.length cap] 24))
  have hb := alloc0 w (.cells #[.string t.name, .string t.sort, .slice a t.kids.length cap] 24)
  have HF := Lib.hid (fun W (hW : Ext w W) => size_x t _ W (asc_ext htab hW) ((HR.out.ext hW).weaken (fun k hk => Nat.lt_of_lt_of_le hk hW.size)) hsz)
  dsimp only [tV] at HF
  have c0 := cellRow hb 0 (.string t.name) rfl
  have c1 := cellRow hb 1 (.string t.sort) rfl
  have c2 := cellRow hb 2 (.slice a t.kids.length cap) rfl
  clear hT hb
  generalize szF t = X at *
  generalize dpF t = Y at *
  go_enter Tryz.func38, Tryz.ntmps38
  go_wp2_with fail
  refine (HF.out _ HZ.out).mono ?_
  rintro e w4 ⟨rfl, hw4⟩
  have H4 := Lib.hid (HZ.out.ext hw4)
  clear hw4 c0 c1 c2
  go_wp2_with fail
  go_ret
  exact ⟨rfl, H4.out⟩
set_option maxRecDepth 100000 in
set_option maxHeartbeats 2000000 in
theorem small_x : ∀ (t : Tm) (d : Nat) (left : Int) (v : Value) (S : Nat → Prop) (w : World), TmR S w t v → d ≤ 1000 → -1 ≤ left → left ≤ 1000 →
    Calls Tryz.prog 52 #[v, .int .i64 (d : Int), .int .i64 left] w fun e w' => e = .returned (.int .i64 (small nmB d left t)) ∧ Ext w w' := by
  refine Tm.ind (fun nm so L ih => ?_)
  intro d left v S w hR hd hl0 hl1
  obtain ⟨a, cap, rfl, hT⟩ := hR
  dsimp only [tV, Tm.name, Tm.sort, Tm.kids] at hT ⊢
  have HTL := Lib.hid hT
  have HIH := Lib.hid ih
  clear ih hT
  have HZ := Lib.hid ((Upd.refl (fun _ => False) w).alloc (.cells #[.string nm, .string so, .slice a L.length cap] 24))
  have HB := Lib.hid (alloc0 w (.cells #[.string nm, .string so, .slice a L.length cap] 24))
  have c0 := cellRow HB.out 0 (.string nm) rfl
  have c1 := cellRow HB.out 1 (.string so) rfl
  have c2 := cellRow HB.out 2 (.slice a L.length cap) rfl
  have hok : ∀ b, okN nmB (.mk nm so L, d) = b → okN nmB (.mk nm so L, d) = b := fun _ h => h
  have hokd : okN nmB (.mk nm so L, d) = (decide (d ≤ 60) && (nmB nm && (decide (L.length ≤ 6) && (decide (so = nul) || (nmB so && decide (L.length = 0)))))) := rfl
  have HOK := Lib.hid hokd
  clear hok hokd
  by_cases h1 : left ≤ 0
  · have t1 : decide (left ≤ 0) = true := decide_eq_true h1
    have hr : small nmB d left (.mk nm so L) = -1 := by
      rw [small_eq, if_pos (.inl h1)]
    rw [hr]
    go_enter Tryz.func52, Tryz.ntmps52
    go_wp2_with fail
    go_ret
    exact ⟨rfl, HZ.out⟩
  have t1 : decide (left ≤ 0) = false := decide_eq_false h1
  by_cases h2 : 60 < d
  · have t2 : decide ((60 : Int) < (d : Int)) = true := decide_eq_true (by omega)
    have t2' : decide (60 < d) = true := decide_eq_true h2
    have hr : small nmB d left (.mk nm so L) = -1 := by
      rw [small_eq, if_pos (.inr (by rw [HOK.out, decide_eq_false (show ¬ d ≤ 60 by omega), Bool.false_and]))]
    rw [hr]
    go_enter Tryz.func52, Tryz.ntmps52
    go_wp2_with fail
    go_ret
    exact ⟨rfl, HZ.out⟩
  have t2 : decide ((60 : Int) < (d : Int)) = false := decide_eq_false (by omega)
  have t2' : decide (60 < d) = false := decide_eq_false h2
  have k2 : decide (d ≤ 60) = true := decide_eq_true (by omega)
  by_cases h3 : 6 < L.length
  · have t3 : decide ((6 : Int) < (L.length : Int)) = true := decide_eq_true (by omega)
    have t3' : decide (6 < L.length) = true := decide_eq_true h3
    have hr : small nmB d left (.mk nm so L) = -1 := by
      rw [small_eq, if_pos (.inr (by rw [HOK.out, decide_eq_false (show ¬ L.length ≤ 6 by omega)]; simp))]
    rw [hr]
    go_enter Tryz.func52, Tryz.ntmps52
    go_wp2_with fail
    go_ret
    exact ⟨rfl, HZ.out⟩
  have t3 : decide ((6 : Int) < (L.length : Int)) = false := decide_eq_false (by omega)
  have t3' : decide (6 < L.length) = false := decide_eq_false h3
  have k3 : decide (L.length ≤ 6) = true := decide_eq_true (by omega)
  have HN1 := Lib.hid (fun W => rIsName_x nm W)
  cases hnm : nmB nm
  · rw [hnm] at HN1
    have hr : small nmB d left (.mk nm so L) = -1 := by
      rw [small_eq, if_pos (.inr (by rw [HOK.out, hnm]; simp))]
    rw [hr]
    go_enter Tryz.func52, Tryz.ntmps52
    go_wp2_with fail
    refine (HN1.out _).mono ?_
    rintro e w4 ⟨rfl, hw4⟩
    have H4 := Lib.hid (HZ.out.ext hw4)
    have hb4 := HB.out
    have HB4 := Lib.hid (hw4.heap hb4 (fun h => h))
    clear hw4 hb4 c0 c1 c2
    have c0 := cellRow HB4.out 0 (.string nm) rfl
    have c1 := cellRow HB4.out 1 (.string so) rfl
    have c2 := cellRow HB4.out 2 (.slice a L.length cap) rfl
    go_wp2_with fail
    go_ret
    exact ⟨rfl, H4.out⟩
  rw [hnm] at HN1
  by_cases hs0 : so.size = 0
  · have hse := empty_is _ hs0
    have hrv : small nmB d left (.mk nm so L) = smalls nmB (d + 1) (left - 1) L := by
      rw [small_eq]
      refine if_neg ?_
      rintro (h | h)
      · omega
      · rw [HOK.out, k2, hnm, k3, decide_eq_true (show so = nul from hse)] at h; cases h
    subst hse
    go_enter Tryz.func52, Tryz.ntmps52
    go_wp2_with fail
    refine (HN1.out _).mono ?_
    rintro e w4 ⟨rfl, hw4⟩
    have H4 := Lib.hid (HZ.out.ext hw4)
    have hb4 := HB.out
    have HB4 := Lib.hid (hw4.heap hb4 (fun h => h))
    clear hw4 hb4 c0 c1 c2
    have c0 := cellRow HB4.out 0 (.string nm) rfl
    have c1 := cellRow HB4.out 1 (.string ⟨#[]⟩) rfl
    have c2 := cellRow HB4.out 2 (.slice a L.length cap) rfl
    go_wp2_with fail
    clear c0 c1 c2
    go_loopg [2, 7] L.length (fun gk lv iv wr => ∃ (k : Nat) (cur : Int), lv = .int .i64 cur ∧ iv = .int .i64 (k : Int) ∧ gk = L.length - k ∧ k ≤ L.length ∧ Hid (smalls nmB (d + 1) (left - 1) (L.take k) = cur) ∧ 0 ≤ cur ∧ cur ≤ 1000 ∧ Hid (Ext w wr) ∧ Hid (wr.heap[w.heap.size]? = some (.cells #[.string nm, .string ⟨#[]⟩, .slice a L.length cap] 24 (0, 0))))
    case atStart => exact ⟨0, left - 1, by first | rfl | go_num, rfl, rfl, Nat.zero_le _, Lib.hid rfl, by omega, by omega, H4, HB4⟩
    case round =>
      obtain ⟨k, cur, rfl, rfl, rfl, hk, HC, hc0, hc1, HE, HBr⟩ := hrel
      have c2 := cellRow HBr.out 2 (.slice a L.length cap) rfl
      by_cases hlt : k < L.length
      · obtain ⟨g, off, rfl, _, hat⟩ := (HTL.out.ext HE.out).at_ (by omega)
        obtain ⟨a', cap', q0, q1, q2, hkid⟩ := hat k hlt
        have z0 : (0 : Int) ≤ (k : Int) := by omega
        have z1 : (k : Int) < (L.length : Int) := by omega
        have z2 : decide ((k : Int) < (L.length : Int)) = true := decide_eq_true z1
        have z2' : decide (k < L.length) = true := decide_eq_true hlt
        have hmem : tg L k ∈ L := by unfold tg; rw [List.getD_eq_getElem?_getD, List.getElem?_eq_getElem hlt]; exact List.getElem_mem hlt
        have htk : L.take (k + 1) = L.take k ++ [tg L k] := by
          rw [List.take_add_one]
          have : L[k]?.toList = [tg L k] := by unfold tg; rw [List.getD_eq_getElem?_getD, List.getElem?_eq_getElem hlt]; rfl
          rw [this]
        have hsp : L = L.take (k + 1) ++ L.drop (k + 1) := (List.take_append_drop _ _).symm
        have HIX := Lib.hid (HIH.out (tg L k) hmem (d + 1) cur _ S wr ⟨a', cap', rfl, hkid⟩ (by omega) (by omega) hc1)
        have hsn := smalls_snoc (d + 1) (tg L k) (L.take k) (left - 1) (by omega)
        rw [HC.out, if_neg (show ¬ cur < 0 by omega), ← htk] at hsn
        have hbd := small_bd (d + 1) cur (tg L k)
        have HNG := Lib.hid (smalls_neg (d + 1) (L.drop (k + 1)) (L.take (k + 1)) (left - 1) (by omega))
        rw [← hsp] at HNG
        generalize tg L k = x at *
        rw [← Nat.add_assoc] at q1 q2
        dsimp only [tV] at HIX
        rw [show (((d + 1 : Nat)) : Int) = (d : Int) + 1 by omega] at HIX
        have hw1 : IntKind.i64.wrap ((d : Int) + 1) = (d : Int) + 1 := IntWalk.i64_in _ (by omega)
        obtain ⟨r, hr0⟩ : ∃ r, small nmB (d + 1) cur x = r := ⟨_, rfl⟩
        rw [hr0] at HIX hsn hbd
        have HSN := Lib.hid hsn
        clear hsn hr0 htk hsp hmem hkid hat
        go_wp2_with fail
        refine HIX.out.mono ?_
        rintro e w8 ⟨rfl, hw8⟩
        have HE8 := Lib.hid (HE.out.ext hw8)
        have HB8 := Lib.hid (hw8.heap HBr.out (fun h => h))
        clear hw8 c2 q0 q1 q2 HIX
        by_cases hrn : r < 0
        · have hr1 : decide (r < 0) = true := decide_eq_true hrn
          have HRV : Hid (small nmB d left (.mk nm ⟨#[]⟩ L) = r) := Lib.hid (by rw [hrv, HNG.out (by rw [HSN.out]; exact hrn), HSN.out])
          go_wp2_with fail
          go_ret
          rw [HRV.out]
          exact ⟨rfl, HE8.out⟩
        · have hr1 : decide (r < 0) = false := decide_eq_false hrn
          go_wp2_with fail
          go_roundg (L.length - (k + 1))
          case measure => omega
          case rel => exact ⟨k + 1, r, rfl, by go_num, rfl, by omega, HSN, by omega, by omega, HE8, HB8⟩
      · obtain rfl : k = L.length := by omega
        have HRV : Hid (small nmB d left (.mk nm ⟨#[]⟩ L) = cur) := Lib.hid (by rw [hrv, ← HC.out, List.take_length])
        have z2 : decide ((L.length : Int) < (L.length : Int)) = false := decide_eq_false (by omega)
        go_wp2_with fail
        go_ret
        rw [HRV.out]
        exact ⟨rfl, HE.out⟩
  have k5 : decide (so = nul) = false := decide_eq_false (fun e => hs0 (by rw [e]; rfl))
  obtain ⟨e1, e2, e3, e4⟩ := nonempty_t so (Nat.pos_of_ne_zero hs0)
  by_cases h7 : 0 < L.length
  · have t7 : decide ((0 : Int) < (L.length : Int)) = true := decide_eq_true (by omega)
    have t7' : decide (0 < L.length) = true := decide_eq_true h7
    have hr : small nmB d left (.mk nm so L) = -1 := by
      rw [small_eq, if_pos (.inr (by rw [HOK.out, k5, decide_eq_false (show ¬ L.length = 0 by omega)]; simp))]
    rw [hr]
    clear hr HOK HIH
    generalize L.length = KL at *
    go_enter Tryz.func52, Tryz.ntmps52
    go_wp2_with fail
    refine (HN1.out _).mono ?_
    rintro e w4 ⟨rfl, hw4⟩
    have H4 := Lib.hid (HZ.out.ext hw4)
    have hb4 := HB.out
    have HB4 := Lib.hid (hw4.heap hb4 (fun h => h))
    clear hw4 hb4 c0 c1 c2
    have c0 := cellRow HB4.out 0 (.string nm) rfl
    have c1 := cellRow HB4.out 1 (.string so) rfl
    have c2 := cellRow HB4.out 2 (.slice a KL cap) rfl
    go_wp2_with fail
    go_ret
    exact ⟨rfl, H4.out⟩
  have hLn : L = [] := List.eq_nil_of_length_eq_zero (by omega)
  subst hLn
  have HN2 := Lib.hid (fun W => rIsName_x so W)
  cases hns : nmB so
  · rw [hns] at HN2
    have hr : small nmB d left (.mk nm so []) = -1 := by
      rw [small_eq, if_pos (.inr (by rw [HOK.out, k5, hns]; simp))]
    rw [hr]
    go_enter Tryz.func52, Tryz.ntmps52
    go_wp2_with fail
    refine (HN1.out _).mono ?_
    rintro e w4 ⟨rfl, hw4⟩
    have H4 := Lib.hid (HZ.out.ext hw4)
    have hb4 := HB.out
    have HB4 := Lib.hid (hw4.heap hb4 (fun h => h))
    clear hw4 hb4 c0 c1 c2
    have c0 := cellRow HB4.out 0 (.string nm) rfl
    have c1 := cellRow HB4.out 1 (.string so) rfl
    have c2 := cellRow HB4.out 2 (.slice a ([] : List Tm).length cap) rfl
    go_wp2_with fail
    refine (HN2.out _).mono ?_
    rintro e w5 ⟨rfl, hw5⟩
    have H5 := Lib.hid (H4.out.ext hw5)
    have hb5 := HB4.out
    have HB5 := Lib.hid (hw5.heap hb5 (fun h => h))
    clear hw5 hb5 c0 c1 c2
    have c0 := cellRow HB5.out 0 (.string nm) rfl
    have c1 := cellRow HB5.out 1 (.string so) rfl
    have c2 := cellRow HB5.out 2 (.slice a ([] : List Tm).length cap) rfl
    go_wp2_with fail
    go_ret
    exact ⟨rfl, H5.out⟩
  rw [hns] at HN2
  have hrv : small nmB d left (.mk nm so []) = smalls nmB (d + 1) (left - 1) [] := by
    rw [small_eq]
    refine if_neg ?_
    rintro (h | h)
    · omega
    · rw [HOK.out, k2, hnm, k3, k5, hns] at h; cases h
  go_enter Tryz.func52, Tryz.ntmps52
  go_wp2_with fail
  refine (HN1.out _).mono ?_
  rintro e w4 ⟨rfl, hw4⟩
  have H4 := Lib.hid (HZ.out.ext hw4)
  have hb4 := HB.out
  have HB4 := Lib.hid (hw4.heap hb4 (fun h => h))
  clear hw4 hb4 c0 c1 c2
  have c0 := cellRow HB4.out 0 (.string nm) rfl
  have c1 := cellRow HB4.out 1 (.string so) rfl
  have c2 := cellRow HB4.out 2 (.slice a ([] : List Tm).length cap) rfl
  go_wp2_with fail
  refine (HN2.out _).mono ?_
  rintro e w5 ⟨rfl, hw5⟩
  have H5 := Lib.hid (H4.out.ext hw5)
  have hb5 := HB4.out
  have HB5 := Lib.hid (hw5.heap hb5 (fun h => h))
  clear hw5 hb5 c0 c1 c2
  have c0 := cellRow HB5.out 0 (.string nm) rfl
  have c1 := cellRow HB5.out 1 (.string so) rfl
  have c2 := cellRow HB5.out 2 (.slice a ([] : List Tm).length cap) rfl
  go_wp2_with fail
  clear c0 c1 c2
  go_loopg [2, 7] 1 (fun gk lv iv wr => lv = .int .i64 (left - 1) ∧ iv = .int .i64 0 ∧ gk = 1 ∧ Hid (Ext w wr) ∧ Hid (wr.heap[w.heap.size]? = some (.cells #[.string nm, .string so, .slice a ([] : List Tm).length cap] 24 (0, 0))))
  case atStart => exact ⟨by first | rfl | go_num, rfl, rfl, H5, HB5⟩
  case round =>
    obtain ⟨rfl, rfl, rfl, HE, HBr⟩ := hrel
    have c2 := cellRow HBr.out 2 (.slice a ([] : List Tm).length cap) rfl
    go_wp2_with fail
    go_ret
    rw [hrv]
    exact ⟨rfl, HE.out⟩

end Go.Proofs.YtjjaknmnhhfjeaaGreatDoor

/- Compare of the reference. -/
namespace Go.Proofs.YtjjaknmnhhfjeaaGreatDoor
open Go.RowKit Go.Hw Go
set_option linter.unusedVariables false
set_option linter.unusedSimpArgs false

open Tm
theorem bless (x y : ByteArray) : Op.bytesLess x.toList y.toList = blt x y := by
  unfold blt
  rw [bytesLess_eq, Lib.toList_data, Lib.toList_data]
set_option maxRecDepth 100000 in
set_option maxHeartbeats 2000000 in
theorem order_x (x y : ByteArray) (w : World) : Calls Tryz.prog 84 #[.string x, .string y] w fun e w' => e = .returned (.int .i64 (bcmp x y)) ∧ Ext w w' := by
  have hrf := Lib.hid (Upd.refl (fun _ => False) w)
  have t1 := bless x y
  have t2 := bless y x
  have hb : bcmp x y = if blt x y = true then -1 else if blt y x = true then 1 else 0 := rfl
  generalize bcmp x y = Z at *
  cases h1 : blt x y
  · rw [h1] at t1 hb
    cases h2 : blt y x
    · rw [h2] at t2 hb
      have hz : Z = 0 := hb
      subst hz
      have hxy : x = y := by
        by_cases e : x = y
        · exact e
        · rcases blt_tri x y e with h3 | h3
          · rw [h3] at h1; cases h1
          · rw [h3] at h2; cases h2
      have t3 : (x.toList == y.toList) = true := by rw [hxy]; simp
      clear hb h1 h2 hxy
      go_enter Tryz.func84, Tryz.ntmps84
      go_wp2_with fail
      go_ret
      exact ⟨rfl, hrf.out⟩
    · rw [h2] at t2 hb
      have hz : Z = 1 := hb
      subst hz
      have t3 : (x.toList == y.toList) = false := by
        rw [beq_eq_false_iff_ne]
        intro e
        have hxy : x = y := ba_list (by rw [Lib.toList_data, Lib.toList_data] at e; exact e)
        rw [hxy, blt_irrefl] at h2
        cases h2
      clear hb h1 h2
      go_enter Tryz.func84, Tryz.ntmps84
      go_wp2_with fail
      go_ret
      exact ⟨rfl, hrf.out⟩
  · rw [h1] at t1 hb
    have hz : Z = -1 := hb
    subst hz
    clear hb h1
    go_enter Tryz.func84, Tryz.ntmps84
    go_wp2_with fail
    go_ret
    exact ⟨rfl, hrf.out⟩
set_option maxRecDepth 100000 in
set_option maxHeartbeats 2000000 in
theorem compare_x : ∀ (t u : Tm) (v v' : Value) (S T : Nat → Prop) (w : World), TmR S w t v → TmR T w u v' → t.size ≤ 1000000 →
    Calls Tryz.prog 32 #[v, v'] w fun e w' => e = .returned (.int .i64 (cmpT t u)) ∧ Ext w w' := by
  refine Tm.ind (fun n s L ih => ?_)
  intro u v v' S T w hR hR' hsz
  obtain ⟨m, r, M⟩ := u
  obtain ⟨aa, ca, rfl, hT⟩ := hR
  obtain ⟨ab, cb, rfl, hT'⟩ := hR'
  dsimp only [tV, Tm.name, Tm.sort, Tm.kids] at hT hT' ⊢
  have HTL := Lib.hid (And.intro hT hT')
  have HIH := Lib.hid ih
  clear ih hT hT'
  have HZ := Lib.hid (((Upd.refl (fun _ => False) w).alloc (.cells #[.string n, .string s, .slice aa L.length ca] 24)).alloc (.cells #[.string m, .string r, .slice ab M.length cb] 24))
  have HA := Lib.hid (allocOld (alloc0 w (.cells #[.string n, .string s, .slice aa L.length ca] 24)) (.cells #[.string m, .string r, .slice ab M.length cb] 24))
  have HB := Lib.hid (alloc_at (w.alloc (.cells #[.string n, .string s, .slice aa L.length ca] 24)) (.cells #[.string m, .string r, .slice ab M.length cb] 24) (n := w.heap.size + 1) (by simp))
  have HO1 := Lib.hid (fun W => order_x n m W)
  have HO2 := Lib.hid (fun W => order_x s r W)
  have ha0 := (Upd.refl (fun _ => False) _).heap HA.out (fun h => h)
  have hb0 := (Upd.refl (fun _ => False) _).heap HB.out (fun h => h)
  have a0 := cellRow ha0 0 (.string n) rfl
  have a1 := cellRow ha0 1 (.string s) rfl
  have a2 := cellRow ha0 2 (.slice aa L.length ca) rfl
  have b0 := cellRow hb0 0 (.string m) rfl
  have b1 := cellRow hb0 1 (.string r) rfl
  have b2 := cellRow hb0 2 (.slice ab M.length cb) rfl
  clear ha0 hb0
  have HEQ := Lib.hid (cmpT_eq n s L m r M)
  by_cases hs : s.size = 0
  · have hse := empty_is _ hs
    by_cases hr : r.size = 0
    · have hre := empty_is _ hr
      subst hse hre
      rw [if_neg (by simp)] at HEQ
      by_cases h1 : bcmp n m = 0
      rotate_left
      · have t1 : (bcmp n m != 0) = true := by simpa using h1
        have t1' : decide (bcmp n m = 0) = false := decide_eq_false h1
        have hv : cmpT (.mk n ⟨#[]⟩ L) (.mk m ⟨#[]⟩ M) = bcmp n m := by rw [HEQ.out, if_pos h1]
        rw [hv]
        clear hv h1 HEQ
        generalize bcmp n m = Z at *
        go_enter Tryz.func32, Tryz.ntmps32
        go_wp2_with fail
        refine (HO1.out _).mono ?_
        rintro e w4 ⟨rfl, hw4⟩
        have H4 := Lib.hid (hw4)
        clear hw4
        clear a0 a1 a2 b0 b1 b2
        have ha4 := H4.out.heap HA.out (fun h => h)
        have hb4 := H4.out.heap HB.out (fun h => h)
        have a0 := cellRow ha4 0 (.string n) rfl
        have a1 := cellRow ha4 1 (.string ⟨#[]⟩) rfl
        have a2 := cellRow ha4 2 (.slice aa L.length ca) rfl
        have b0 := cellRow hb4 0 (.string m) rfl
        have b1 := cellRow hb4 1 (.string ⟨#[]⟩) rfl
        have b2 := cellRow hb4 2 (.slice ab M.length cb) rfl
        clear ha4 hb4
        go_wp2_with fail
        go_ret
        exact ⟨rfl, HZ.out.ext H4.out⟩
      rw [if_neg (by simp [h1])] at HEQ
      rw [h1] at HO1
      clear h1
      by_cases h2 : bcmp ⟨#[]⟩ ⟨#[]⟩ = 0
      rotate_left
      · have t1 : (bcmp ⟨#[]⟩ ⟨#[]⟩ != 0) = true := by simpa using h2
        have t1' : decide (bcmp ⟨#[]⟩ ⟨#[]⟩ = 0) = false := decide_eq_false h2
        have hv : cmpT (.mk n ⟨#[]⟩ L) (.mk m ⟨#[]⟩ M) = bcmp ⟨#[]⟩ ⟨#[]⟩ := by rw [HEQ.out, if_pos h2]
        rw [hv]
        clear hv h2 HEQ
        generalize bcmp ⟨#[]⟩ ⟨#[]⟩ = Z at *
        go_enter Tryz.func32, Tryz.ntmps32
        go_wp2_with fail
        refine (HO1.out _).mono ?_
        rintro e w4 ⟨rfl, hw4⟩
        have H4 := Lib.hid (hw4)
        clear hw4
        clear a0 a1 a2 b0 b1 b2
        have ha4 := H4.out.heap HA.out (fun h => h)
        have hb4 := H4.out.heap HB.out (fun h => h)
        have a0 := cellRow ha4 0 (.string n) rfl
        have a1 := cellRow ha4 1 (.string ⟨#[]⟩) rfl
        have a2 := cellRow ha4 2 (.slice aa L.length ca) rfl
        have b0 := cellRow hb4 0 (.string m) rfl
        have b1 := cellRow hb4 1 (.string ⟨#[]⟩) rfl
        have b2 := cellRow hb4 2 (.slice ab M.length cb) rfl
        clear ha4 hb4
        go_wp2_with fail
        refine (HO2.out _).mono ?_
        rintro e w5 ⟨rfl, hw5⟩
        have H5 := Lib.hid (H4.out.ext hw5)
        clear hw5
        clear a0 a1 a2 b0 b1 b2
        have ha5 := H5.out.heap HA.out (fun h => h)
        have hb5 := H5.out.heap HB.out (fun h => h)
        have a0 := cellRow ha5 0 (.string n) rfl
        have a1 := cellRow ha5 1 (.string ⟨#[]⟩) rfl
        have a2 := cellRow ha5 2 (.slice aa L.length ca) rfl
        have b0 := cellRow hb5 0 (.string m) rfl
        have b1 := cellRow hb5 1 (.string ⟨#[]⟩) rfl
        have b2 := cellRow hb5 2 (.slice ab M.length cb) rfl
        clear ha5 hb5
        go_wp2_with fail
        go_ret
        exact ⟨rfl, HZ.out.ext H5.out⟩
      rw [if_neg (by simp [h2])] at HEQ
      rw [h2] at HO2
      clear h2
      by_cases h3 : L.length = M.length
      rotate_left
      · have u1 : ((L.length : Int) != (M.length : Int)) = true := by simp; omega
        have u1' : decide ((L.length : Int) = (M.length : Int)) = false := decide_eq_false (by omega)
        have u1'' : decide (L.length = M.length) = false := decide_eq_false h3
        rw [if_pos h3] at HEQ
        by_cases h4 : L.length < M.length
        · have u2 : decide ((L.length : Int) < (M.length : Int)) = true := decide_eq_true (by omega)
          have u2' : decide (L.length < M.length) = true := decide_eq_true h4
          have hv : cmpT (.mk n ⟨#[]⟩ L) (.mk m ⟨#[]⟩ M) = -1 := by rw [HEQ.out, if_pos h4]
          rw [hv]
          clear hv HEQ
          go_enter Tryz.func32, Tryz.ntmps32
          go_wp2_with fail
          refine (HO1.out _).mono ?_
          rintro e w4 ⟨rfl, hw4⟩
          have H4 := Lib.hid (hw4)
          clear hw4
          clear a0 a1 a2 b0 b1 b2
          have ha4 := H4.out.heap HA.out (fun h => h)
          have hb4 := H4.out.heap HB.out (fun h => h)
          have a0 := cellRow ha4 0 (.string n) rfl
          have a1 := cellRow ha4 1 (.string ⟨#[]⟩) rfl
          have a2 := cellRow ha4 2 (.slice aa L.length ca) rfl
          have b0 := cellRow hb4 0 (.string m) rfl
          have b1 := cellRow hb4 1 (.string ⟨#[]⟩) rfl
          have b2 := cellRow hb4 2 (.slice ab M.length cb) rfl
          clear ha4 hb4
          go_wp2_with fail
          refine (HO2.out _).mono ?_
          rintro e w5 ⟨rfl, hw5⟩
          have H5 := Lib.hid (H4.out.ext hw5)
          clear hw5
          clear a0 a1 a2 b0 b1 b2
          have ha5 := H5.out.heap HA.out (fun h => h)
          have hb5 := H5.out.heap HB.out (fun h => h)
          have a0 := cellRow ha5 0 (.string n) rfl
          have a1 := cellRow ha5 1 (.string ⟨#[]⟩) rfl
          have a2 := cellRow ha5 2 (.slice aa L.length ca) rfl
          have b0 := cellRow hb5 0 (.string m) rfl
          have b1 := cellRow hb5 1 (.string ⟨#[]⟩) rfl
          have b2 := cellRow hb5 2 (.slice ab M.length cb) rfl
          clear ha5 hb5
          go_wp2_with fail
          go_ret
          exact ⟨rfl, HZ.out.ext H5.out⟩
        · have u2 : decide ((L.length : Int) < (M.length : Int)) = false := decide_eq_false (by omega)
          have u2' : decide (L.length < M.length) = false := decide_eq_false h4
          have hv : cmpT (.mk n ⟨#[]⟩ L) (.mk m ⟨#[]⟩ M) = 1 := by rw [HEQ.out, if_neg h4]
          rw [hv]
          clear hv HEQ
          go_enter Tryz.func32, Tryz.ntmps32
          go_wp2_with fail
          refine (HO1.out _).mono ?_
          rintro e w4 ⟨rfl, hw4⟩
          have H4 := Lib.hid (hw4)
          clear hw4
          clear a0 a1 a2 b0 b1 b2
          have ha4 := H4.out.heap HA.out (fun h => h)
          have hb4 := H4.out.heap HB.out (fun h => h)
          have a0 := cellRow ha4 0 (.string n) rfl
          have a1 := cellRow ha4 1 (.string ⟨#[]⟩) rfl
          have a2 := cellRow ha4 2 (.slice aa L.length ca) rfl
          have b0 := cellRow hb4 0 (.string m) rfl
          have b1 := cellRow hb4 1 (.string ⟨#[]⟩) rfl
          have b2 := cellRow hb4 2 (.slice ab M.length cb) rfl
          clear ha4 hb4
          go_wp2_with fail
          refine (HO2.out _).mono ?_
          rintro e w5 ⟨rfl, hw5⟩
          have H5 := Lib.hid (H4.out.ext hw5)
          clear hw5
          clear a0 a1 a2 b0 b1 b2
          have ha5 := H5.out.heap HA.out (fun h => h)
          have hb5 := H5.out.heap HB.out (fun h => h)
          have a0 := cellRow ha5 0 (.string n) rfl
          have a1 := cellRow ha5 1 (.string ⟨#[]⟩) rfl
          have a2 := cellRow ha5 2 (.slice aa L.length ca) rfl
          have b0 := cellRow hb5 0 (.string m) rfl
          have b1 := cellRow hb5 1 (.string ⟨#[]⟩) rfl
          have b2 := cellRow hb5 2 (.slice ab M.length cb) rfl
          clear ha5 hb5
          go_wp2_with fail
          go_ret
          exact ⟨rfl, HZ.out.ext H5.out⟩
      rw [if_neg (by simp [h3])] at HEQ
      have u1 : ((L.length : Int) != (M.length : Int)) = false := by simp; omega
      have u1' : decide ((L.length : Int) = (M.length : Int)) = true := decide_eq_true (by omega)
      have u1'' : decide (L.length = M.length) = true := decide_eq_true h3
      have H3 := Lib.hid h3
      clear h3
      go_enter Tryz.func32, Tryz.ntmps32
      go_wp2_with fail
      refine (HO1.out _).mono ?_
      rintro e w4 ⟨rfl, hw4⟩
      have H4 := Lib.hid (hw4)
      clear hw4
      clear a0 a1 a2 b0 b1 b2
      have ha4 := H4.out.heap HA.out (fun h => h)
      have hb4 := H4.out.heap HB.out (fun h => h)
      have a0 := cellRow ha4 0 (.string n) rfl
      have a1 := cellRow ha4 1 (.string ⟨#[]⟩) rfl
      have a2 := cellRow ha4 2 (.slice aa L.length ca) rfl
      have b0 := cellRow hb4 0 (.string m) rfl
      have b1 := cellRow hb4 1 (.string ⟨#[]⟩) rfl
      have b2 := cellRow hb4 2 (.slice ab M.length cb) rfl
      clear ha4 hb4
      go_wp2_with fail
      refine (HO2.out _).mono ?_
      rintro e w5 ⟨rfl, hw5⟩
      have H5 := Lib.hid (H4.out.ext hw5)
      clear hw5
      clear a0 a1 a2 b0 b1 b2
      have ha5 := H5.out.heap HA.out (fun h => h)
      have hb5 := H5.out.heap HB.out (fun h => h)
      have a0 := cellRow ha5 0 (.string n) rfl
      have a1 := cellRow ha5 1 (.string ⟨#[]⟩) rfl
      have a2 := cellRow ha5 2 (.slice aa L.length ca) rfl
      have b0 := cellRow hb5 0 (.string m) rfl
      have b1 := cellRow hb5 1 (.string ⟨#[]⟩) rfl
      have b2 := cellRow hb5 2 (.slice ab M.length cb) rfl
      clear ha5 hb5
      go_wp2_with fail
      clear a0 a1 a2 b0 b1 b2
      have hlL : L.length ≤ 1000000 := by have h1 := length_le_sizes L; have h2 := hsz; rw [size_eq] at h2; exact Nat.le_trans h1 (Nat.le_of_succ_le h2)
      go_loopg [7] L.length (fun gk iv wr => ∃ k : Nat, iv = .int .i64 (k : Int) ∧ gk = L.length - k ∧ k ≤ L.length ∧ Hid (∀ j, j < k → cmpT (tg L j) (tg M j) = 0) ∧ Hid (Ext ((w.alloc (.cells #[.string n, .string ⟨#[]⟩, .slice aa L.length ca] 24)).alloc (.cells #[.string m, .string ⟨#[]⟩, .slice ab M.length cb] 24)) wr))
      case atStart => exact ⟨0, rfl, rfl, Nat.zero_le _, Lib.hid (fun j h => absurd h (Nat.not_lt_zero _)), H5⟩
      case round =>
        obtain ⟨k, rfl, rfl, hk, HC, HE⟩ := hrel
        have HEw := Lib.hid (HZ.out.ext HE.out)
        have haw := HE.out.heap HA.out (fun h => h)
        have hbw := HE.out.heap HB.out (fun h => h)
        have a0 := cellRow haw 0 (.string n) rfl
        have a1 := cellRow haw 1 (.string ⟨#[]⟩) rfl
        have a2 := cellRow haw 2 (.slice aa L.length ca) rfl
        have b0 := cellRow hbw 0 (.string m) rfl
        have b1 := cellRow hbw 1 (.string ⟨#[]⟩) rfl
        have b2 := cellRow hbw 2 (.slice ab M.length cb) rfl
        clear haw hbw
        by_cases hlt : k < L.length
        · have hltM : k < M.length := by have := H3.out; omega
          obtain ⟨g, off, rfl, _, hat⟩ := (HTL.out.1.ext HEw.out).at_ (by omega)
          obtain ⟨g', off', rfl, _, hat'⟩ := (HTL.out.2.ext HEw.out).at_ (by omega)
          obtain ⟨ka, kc, q0, q1, q2, hkid⟩ := hat k hlt
          obtain ⟨ka', kc', p0, p1, p2, hkid'⟩ := hat' k hltM
          have z0 : (0 : Int) ≤ (k : Int) := by omega
          have z1 : (k : Int) < (L.length : Int) := by omega
          have z2 : decide ((k : Int) < (L.length : Int)) = true := decide_eq_true z1
          have z2' : decide (k < L.length) = true := decide_eq_true hlt
          have z3 : (k : Int) < (M.length : Int) := by omega
          have hmem : tg L k ∈ L := by unfold tg; rw [List.getD_eq_getElem?_getD, List.getElem?_eq_getElem hlt]; exact List.getElem_mem hlt
          have hszk : (tg L k).size ≤ 1000000 := by have h1 := size_mem hmem; have h2 := hsz; rw [size_eq] at h2; exact Nat.le_trans h1 (Nat.le_of_succ_le h2)
          have HIX := Lib.hid (fun W (hW : Ext wr W) => HIH.out (tg L k) hmem (tg M k) _ _ S T W ⟨ka, kc, rfl, hkid.ext hW⟩ ⟨ka', kc', rfl, hkid'.ext hW⟩ hszk)
          have HOF := Lib.hid (cmps_of L M k H3.out hlt HC.out)
          have HNX := Lib.hid (fun h : cmpT (tg L k) (tg M k) = 0 => fun j (hj : j < k + 1) => by
            rcases Nat.lt_succ_iff_lt_or_eq.1 hj with h5 | h5
            · exact HC.out j h5
            · rw [h5]; exact h)
          dsimp only [tV] at HIX
          obtain ⟨R, hR⟩ : ∃ R, cmpT (tg L k) (tg M k) = R := ⟨_, rfl⟩
          rw [hR] at HIX
          have HRR := Lib.hid hR
          clear hR hmem hat hat' hkid hkid'
          obtain ⟨x, hx⟩ : ∃ x, tg L k = x := ⟨_, rfl⟩
          obtain ⟨y, hy⟩ : ∃ y, tg M k = y := ⟨_, rfl⟩
          rw [hx] at q0 q1 q2 HIX
          rw [hy] at p0 p1 p2 HIX
          clear hx hy hszk hltM
          rw [← Nat.add_assoc] at q1 q2 p1 p2
          have xq0 := fun x : XW wr => x.ext.cell q0 (fun h => h)
          have xq1 := fun x : XW wr => x.ext.cell q1 (fun h => h)
          have xq2 := fun x : XW wr => x.ext.cell q2 (fun h => h)
          have xp0 := fun x : XW wr => x.ext.cell p0 (fun h => h)
          have xp1 := fun x : XW wr => x.ext.cell p1 (fun h => h)
          have xp2 := fun x : XW wr => x.ext.cell p2 (fun h => h)
          have xa2 := fun x : XW wr => x.ext.cell a2 (fun h => h)
          have xb2 := fun x : XW wr => x.ext.cell b2 (fun h => h)
          have hrfs := Upd.refl (fun _ => False) wr
          clear q0 q1 q2 p0 p1 p2 a0 a1 b0 b1 b2
          go_wp2_with fail
          clear a2
          refine wp_region_ext wr (by assumption) (by kernel_rfl) (by kernel_rfl) ?_
          repeat (first | go_big_quiet_skip | (go_big_quiet_want; go_big_quiet_op; first | go_big_quiet_on | (apply Exists.intro; refine ⟨fun x => ?_, ?_⟩; (go_at_call 32; exact XW.call (HIX.out x.val x.ext)); go_big_quiet_on)))
          refine wpQuiet_nil ?_
          rintro w8 ⟨⟨_, hyw8⟩, rfl⟩
          try dsimp only
          have HE8 := Lib.hid (HE.out.ext hyw8)
          clear xq0 xq1 xq2 xp0 xp1 xp2 xa2 xb2 hrfs hyw8 HIX
          by_cases hz : R = 0
          · have hz1 : (R != 0) = false := by simp [hz]
            have HN := Lib.hid (HNX.out (HRR.out.trans hz))
            have hzz := Lib.hid hz
            clear hz
            go_wp2_with fail
            go_roundg (L.length - (k + 1))
            case measure => omega
            case rel => exact ⟨k + 1, by go_num, rfl, by omega, HN, HE8⟩
          · have hz1 : (R != 0) = true := by simpa using hz
            have HV : Hid (cmpT (.mk n ⟨#[]⟩ L) (.mk m ⟨#[]⟩ M) = R) := Lib.hid (by rw [HEQ.out, HOF.out (by show cmpT (tg L k) (tg M k) ≠ 0; rw [HRR.out]; exact hz)]; exact HRR.out)
            have hzz := Lib.hid hz
            clear hz
            go_wp2_with fail
            go_ret
            rw [HV.out]
            exact ⟨rfl, HZ.out.ext HE8.out⟩
        · obtain rfl : k = L.length := by omega
          have HV : Hid (cmpT (.mk n ⟨#[]⟩ L) (.mk m ⟨#[]⟩ M) = 0) := Lib.hid (by rw [HEQ.out]; exact cmps_all L M H3.out HC.out)
          go_wp2_with fail
          go_ret
          rw [HV.out]
          exact ⟨rfl, HEw.out⟩
    · have hrn : r ≠ nul := fun e => hr (by rw [e]; rfl)
      have hsn : ¬ s ≠ nul := fun h => h hse
      have hdd : decide (s ≠ nul) ≠ decide (r ≠ nul) := by rw [decide_eq_false hsn, decide_eq_true hrn]; decide
      have hv : cmpT (.mk n s L) (.mk m r M) = 1 := by rw [HEQ.out, if_pos hdd, if_neg hsn]
      clear hsn hdd
      obtain ⟨e1, e2, e3, e4⟩ := nonempty_t r (Nat.pos_of_ne_zero hr)
      rw [hv]
      subst hse
      clear hv HEQ
      go_enter Tryz.func32, Tryz.ntmps32
      go_wp2_with fail
      go_ret
      exact ⟨rfl, HZ.out⟩
  · have hsn : s ≠ nul := fun e => hs (by rw [e]; rfl)
    obtain ⟨e1, e2, e3, e4⟩ := nonempty_t s (Nat.pos_of_ne_zero hs)
    by_cases hr : r.size = 0
    · have hre := empty_is _ hr
      have hrn : ¬ r ≠ nul := fun h => h hre
      have hdd : decide (s ≠ nul) ≠ decide (r ≠ nul) := by rw [decide_eq_true hsn, decide_eq_false hrn]; decide
      have hv : cmpT (.mk n s L) (.mk m r M) = -1 := by rw [HEQ.out, if_pos hdd, if_pos hsn]
      clear hrn hdd
      rw [hv]
      subst hre
      clear hv HEQ
      go_enter Tryz.func32, Tryz.ntmps32
      go_wp2_with fail
      go_ret
      exact ⟨rfl, HZ.out⟩
    · have hrn : r ≠ nul := fun e => hr (by rw [e]; rfl)
      obtain ⟨f1, f2, f3, f4⟩ := nonempty_t r (Nat.pos_of_ne_zero hr)
      rw [if_neg (by simp [hsn, hrn])] at HEQ
      by_cases h1 : bcmp n m = 0
      rotate_left
      · have t1 : (bcmp n m != 0) = true := by simpa using h1
        have t1' : decide (bcmp n m = 0) = false := decide_eq_false h1
        have hv : cmpT (.mk n s L) (.mk m r M) = bcmp n m := by rw [HEQ.out, if_pos h1]
        rw [hv]
        clear hv h1 HEQ
        generalize bcmp n m = Z at *
        go_enter Tryz.func32, Tryz.ntmps32
        go_wp2_with fail
        refine (HO1.out _).mono ?_
        rintro e w4 ⟨rfl, hw4⟩
        have H4 := Lib.hid (hw4)
        clear hw4
        clear a0 a1 a2 b0 b1 b2
        have ha4 := H4.out.heap HA.out (fun h => h)
        have hb4 := H4.out.heap HB.out (fun h => h)
        have a0 := cellRow ha4 0 (.string n) rfl
        have a1 := cellRow ha4 1 (.string s) rfl
        have a2 := cellRow ha4 2 (.slice aa L.length ca) rfl
        have b0 := cellRow hb4 0 (.string m) rfl
        have b1 := cellRow hb4 1 (.string r) rfl
        have b2 := cellRow hb4 2 (.slice ab M.length cb) rfl
        clear ha4 hb4
        go_wp2_with fail
        go_ret
        exact ⟨rfl, HZ.out.ext H4.out⟩
      rw [if_neg (by simp [h1])] at HEQ
      rw [h1] at HO1
      clear h1
      by_cases h2 : bcmp s r = 0
      rotate_left
      · have t1 : (bcmp s r != 0) = true := by simpa using h2
        have t1' : decide (bcmp s r = 0) = false := decide_eq_false h2
        have hv : cmpT (.mk n s L) (.mk m r M) = bcmp s r := by rw [HEQ.out, if_pos h2]
        rw [hv]
        clear hv h2 HEQ
        generalize bcmp s r = Z at *
        go_enter Tryz.func32, Tryz.ntmps32
        go_wp2_with fail
        refine (HO1.out _).mono ?_
        rintro e w4 ⟨rfl, hw4⟩
        have H4 := Lib.hid (hw4)
        clear hw4
        clear a0 a1 a2 b0 b1 b2
        have ha4 := H4.out.heap HA.out (fun h => h)
        have hb4 := H4.out.heap HB.out (fun h => h)
        have a0 := cellRow ha4 0 (.string n) rfl
        have a1 := cellRow ha4 1 (.string s) rfl
        have a2 := cellRow ha4 2 (.slice aa L.length ca) rfl
        have b0 := cellRow hb4 0 (.string m) rfl
        have b1 := cellRow hb4 1 (.string r) rfl
        have b2 := cellRow hb4 2 (.slice ab M.length cb) rfl
        clear ha4 hb4
        go_wp2_with fail
        refine (HO2.out _).mono ?_
        rintro e w5 ⟨rfl, hw5⟩
        have H5 := Lib.hid (H4.out.ext hw5)
        clear hw5
        clear a0 a1 a2 b0 b1 b2
        have ha5 := H5.out.heap HA.out (fun h => h)
        have hb5 := H5.out.heap HB.out (fun h => h)
        have a0 := cellRow ha5 0 (.string n) rfl
        have a1 := cellRow ha5 1 (.string s) rfl
        have a2 := cellRow ha5 2 (.slice aa L.length ca) rfl
        have b0 := cellRow hb5 0 (.string m) rfl
        have b1 := cellRow hb5 1 (.string r) rfl
        have b2 := cellRow hb5 2 (.slice ab M.length cb) rfl
        clear ha5 hb5
        go_wp2_with fail
        go_ret
        exact ⟨rfl, HZ.out.ext H5.out⟩
      rw [if_neg (by simp [h2])] at HEQ
      rw [h2] at HO2
      clear h2
      by_cases h3 : L.length = M.length
      rotate_left
      · have u1 : ((L.length : Int) != (M.length : Int)) = true := by simp; omega
        have u1' : decide ((L.length : Int) = (M.length : Int)) = false := decide_eq_false (by omega)
        have u1'' : decide (L.length = M.length) = false := decide_eq_false h3
        rw [if_pos h3] at HEQ
        by_cases h4 : L.length < M.length
        · have u2 : decide ((L.length : Int) < (M.length : Int)) = true := decide_eq_true (by omega)
          have u2' : decide (L.length < M.length) = true := decide_eq_true h4
          have hv : cmpT (.mk n s L) (.mk m r M) = -1 := by rw [HEQ.out, if_pos h4]
          rw [hv]
          clear hv HEQ
          go_enter Tryz.func32, Tryz.ntmps32
          go_wp2_with fail
          refine (HO1.out _).mono ?_
          rintro e w4 ⟨rfl, hw4⟩
          have H4 := Lib.hid (hw4)
          clear hw4
          clear a0 a1 a2 b0 b1 b2
          have ha4 := H4.out.heap HA.out (fun h => h)
          have hb4 := H4.out.heap HB.out (fun h => h)
          have a0 := cellRow ha4 0 (.string n) rfl
          have a1 := cellRow ha4 1 (.string s) rfl
          have a2 := cellRow ha4 2 (.slice aa L.length ca) rfl
          have b0 := cellRow hb4 0 (.string m) rfl
          have b1 := cellRow hb4 1 (.string r) rfl
          have b2 := cellRow hb4 2 (.slice ab M.length cb) rfl
          clear ha4 hb4
          go_wp2_with fail
          refine (HO2.out _).mono ?_
          rintro e w5 ⟨rfl, hw5⟩
          have H5 := Lib.hid (H4.out.ext hw5)
          clear hw5
          clear a0 a1 a2 b0 b1 b2
          have ha5 := H5.out.heap HA.out (fun h => h)
          have hb5 := H5.out.heap HB.out (fun h => h)
          have a0 := cellRow ha5 0 (.string n) rfl
          have a1 := cellRow ha5 1 (.string s) rfl
          have a2 := cellRow ha5 2 (.slice aa L.length ca) rfl
          have b0 := cellRow hb5 0 (.string m) rfl
          have b1 := cellRow hb5 1 (.string r) rfl
          have b2 := cellRow hb5 2 (.slice ab M.length cb) rfl
          clear ha5 hb5
          go_wp2_with fail
          go_ret
          exact ⟨rfl, HZ.out.ext H5.out⟩
        · have u2 : decide ((L.length : Int) < (M.length : Int)) = false := decide_eq_false (by omega)
          have u2' : decide (L.length < M.length) = false := decide_eq_false h4
          have hv : cmpT (.mk n s L) (.mk m r M) = 1 := by rw [HEQ.out, if_neg h4]
          rw [hv]
          clear hv HEQ
          go_enter Tryz.func32, Tryz.ntmps32
          go_wp2_with fail
          refine (HO1.out _).mono ?_
          rintro e w4 ⟨rfl, hw4⟩
          have H4 := Lib.hid (hw4)
          clear hw4
          clear a0 a1 a2 b0 b1 b2
          have ha4 := H4.out.heap HA.out (fun h => h)
          have hb4 := H4.out.heap HB.out (fun h => h)
          have a0 := cellRow ha4 0 (.string n) rfl
          have a1 := cellRow ha4 1 (.string s) rfl
          have a2 := cellRow ha4 2 (.slice aa L.length ca) rfl
          have b0 := cellRow hb4 0 (.string m) rfl
          have b1 := cellRow hb4 1 (.string r) rfl
          have b2 := cellRow hb4 2 (.slice ab M.length cb) rfl
          clear ha4 hb4
          go_wp2_with fail
          refine (HO2.out _).mono ?_
          rintro e w5 ⟨rfl, hw5⟩
          have H5 := Lib.hid (H4.out.ext hw5)
          clear hw5
          clear a0 a1 a2 b0 b1 b2
          have ha5 := H5.out.heap HA.out (fun h => h)
          have hb5 := H5.out.heap HB.out (fun h => h)
          have a0 := cellRow ha5 0 (.string n) rfl
          have a1 := cellRow ha5 1 (.string s) rfl
          have a2 := cellRow ha5 2 (.slice aa L.length ca) rfl
          have b0 := cellRow hb5 0 (.string m) rfl
          have b1 := cellRow hb5 1 (.string r) rfl
          have b2 := cellRow hb5 2 (.slice ab M.length cb) rfl
          clear ha5 hb5
          go_wp2_with fail
          go_ret
          exact ⟨rfl, HZ.out.ext H5.out⟩
      rw [if_neg (by simp [h3])] at HEQ
      have u1 : ((L.length : Int) != (M.length : Int)) = false := by simp; omega
      have u1' : decide ((L.length : Int) = (M.length : Int)) = true := decide_eq_true (by omega)
      have u1'' : decide (L.length = M.length) = true := decide_eq_true h3
      have H3 := Lib.hid h3
      clear h3
      go_enter Tryz.func32, Tryz.ntmps32
      go_wp2_with fail
      refine (HO1.out _).mono ?_
      rintro e w4 ⟨rfl, hw4⟩
      have H4 := Lib.hid (hw4)
      clear hw4
      clear a0 a1 a2 b0 b1 b2
      have ha4 := H4.out.heap HA.out (fun h => h)
      have hb4 := H4.out.heap HB.out (fun h => h)
      have a0 := cellRow ha4 0 (.string n) rfl
      have a1 := cellRow ha4 1 (.string s) rfl
      have a2 := cellRow ha4 2 (.slice aa L.length ca) rfl
      have b0 := cellRow hb4 0 (.string m) rfl
      have b1 := cellRow hb4 1 (.string r) rfl
      have b2 := cellRow hb4 2 (.slice ab M.length cb) rfl
      clear ha4 hb4
      go_wp2_with fail
      refine (HO2.out _).mono ?_
      rintro e w5 ⟨rfl, hw5⟩
      have H5 := Lib.hid (H4.out.ext hw5)
      clear hw5
      clear a0 a1 a2 b0 b1 b2
      have ha5 := H5.out.heap HA.out (fun h => h)
      have hb5 := H5.out.heap HB.out (fun h => h)
      have a0 := cellRow ha5 0 (.string n) rfl
      have a1 := cellRow ha5 1 (.string s) rfl
      have a2 := cellRow ha5 2 (.slice aa L.length ca) rfl
      have b0 := cellRow hb5 0 (.string m) rfl
      have b1 := cellRow hb5 1 (.string r) rfl
      have b2 := cellRow hb5 2 (.slice ab M.length cb) rfl
      clear ha5 hb5
      go_wp2_with fail
      clear a0 a1 a2 b0 b1 b2
      have hlL : L.length ≤ 1000000 := by have h1 := length_le_sizes L; have h2 := hsz; rw [size_eq] at h2; exact Nat.le_trans h1 (Nat.le_of_succ_le h2)
      go_loopg [7] L.length (fun gk iv wr => ∃ k : Nat, iv = .int .i64 (k : Int) ∧ gk = L.length - k ∧ k ≤ L.length ∧ Hid (∀ j, j < k → cmpT (tg L j) (tg M j) = 0) ∧ Hid (Ext ((w.alloc (.cells #[.string n, .string s, .slice aa L.length ca] 24)).alloc (.cells #[.string m, .string r, .slice ab M.length cb] 24)) wr))
      case atStart => exact ⟨0, rfl, rfl, Nat.zero_le _, Lib.hid (fun j h => absurd h (Nat.not_lt_zero _)), H5⟩
      case round =>
        obtain ⟨k, rfl, rfl, hk, HC, HE⟩ := hrel
        have HEw := Lib.hid (HZ.out.ext HE.out)
        have haw := HE.out.heap HA.out (fun h => h)
        have hbw := HE.out.heap HB.out (fun h => h)
        have a0 := cellRow haw 0 (.string n) rfl
        have a1 := cellRow haw 1 (.string s) rfl
        have a2 := cellRow haw 2 (.slice aa L.length ca) rfl
        have b0 := cellRow hbw 0 (.string m) rfl
        have b1 := cellRow hbw 1 (.string r) rfl
        have b2 := cellRow hbw 2 (.slice ab M.length cb) rfl
        clear haw hbw
        by_cases hlt : k < L.length
        · have hltM : k < M.length := by have := H3.out; omega
          obtain ⟨g, off, rfl, _, hat⟩ := (HTL.out.1.ext HEw.out).at_ (by omega)
          obtain ⟨g', off', rfl, _, hat'⟩ := (HTL.out.2.ext HEw.out).at_ (by omega)
          obtain ⟨ka, kc, q0, q1, q2, hkid⟩ := hat k hlt
          obtain ⟨ka', kc', p0, p1, p2, hkid'⟩ := hat' k hltM
          have z0 : (0 : Int) ≤ (k : Int) := by omega
          have z1 : (k : Int) < (L.length : Int) := by omega
          have z2 : decide ((k : Int) < (L.length : Int)) = true := decide_eq_true z1
          have z2' : decide (k < L.length) = true := decide_eq_true hlt
          have z3 : (k : Int) < (M.length : Int) := by omega
          have hmem : tg L k ∈ L := by unfold tg; rw [List.getD_eq_getElem?_getD, List.getElem?_eq_getElem hlt]; exact List.getElem_mem hlt
          have hszk : (tg L k).size ≤ 1000000 := by have h1 := size_mem hmem; have h2 := hsz; rw [size_eq] at h2; exact Nat.le_trans h1 (Nat.le_of_succ_le h2)
          have HIX := Lib.hid (fun W (hW : Ext wr W) => HIH.out (tg L k) hmem (tg M k) _ _ S T W ⟨ka, kc, rfl, hkid.ext hW⟩ ⟨ka', kc', rfl, hkid'.ext hW⟩ hszk)
          have HOF := Lib.hid (cmps_of L M k H3.out hlt HC.out)
          have HNX := Lib.hid (fun h : cmpT (tg L k) (tg M k) = 0 => fun j (hj : j < k + 1) => by
            rcases Nat.lt_succ_iff_lt_or_eq.1 hj with h5 | h5
            · exact HC.out j h5
            · rw [h5]; exact h)
          dsimp only [tV] at HIX
          obtain ⟨R, hR⟩ : ∃ R, cmpT (tg L k) (tg M k) = R := ⟨_, rfl⟩
          rw [hR] at HIX
          have HRR := Lib.hid hR
          clear hR hmem hat hat' hkid hkid'
          obtain ⟨x, hx⟩ : ∃ x, tg L k = x := ⟨_, rfl⟩
          obtain ⟨y, hy⟩ : ∃ y, tg M k = y := ⟨_, rfl⟩
          rw [hx] at q0 q1 q2 HIX
          rw [hy] at p0 p1 p2 HIX
          clear hx hy hszk hltM
          rw [← Nat.add_assoc] at q1 q2 p1 p2
          have xq0 := fun x : XW wr => x.ext.cell q0 (fun h => h)
          have xq1 := fun x : XW wr => x.ext.cell q1 (fun h => h)
          have xq2 := fun x : XW wr => x.ext.cell q2 (fun h => h)
          have xp0 := fun x : XW wr => x.ext.cell p0 (fun h => h)
          have xp1 := fun x : XW wr => x.ext.cell p1 (fun h => h)
          have xp2 := fun x : XW wr => x.ext.cell p2 (fun h => h)
          have xa2 := fun x : XW wr => x.ext.cell a2 (fun h => h)
          have xb2 := fun x : XW wr => x.ext.cell b2 (fun h => h)
          have hrfs := Upd.refl (fun _ => False) wr
          clear q0 q1 q2 p0 p1 p2 a0 a1 b0 b1 b2
          go_wp2_with fail
          clear a2
          refine wp_region_ext wr (by assumption) (by kernel_rfl) (by kernel_rfl) ?_
          repeat (first | go_big_quiet_skip | (go_big_quiet_want; go_big_quiet_op; first | go_big_quiet_on | (apply Exists.intro; refine ⟨fun x => ?_, ?_⟩; (go_at_call 32; exact XW.call (HIX.out x.val x.ext)); go_big_quiet_on)))
          refine wpQuiet_nil ?_
          rintro w8 ⟨⟨_, hyw8⟩, rfl⟩
          try dsimp only
          have HE8 := Lib.hid (HE.out.ext hyw8)
          clear xq0 xq1 xq2 xp0 xp1 xp2 xa2 xb2 hrfs hyw8 HIX
          by_cases hz : R = 0
          · have hz1 : (R != 0) = false := by simp [hz]
            have HN := Lib.hid (HNX.out (HRR.out.trans hz))
            have hzz := Lib.hid hz
            clear hz
            go_wp2_with fail
            go_roundg (L.length - (k + 1))
            case measure => omega
            case rel => exact ⟨k + 1, by go_num, rfl, by omega, HN, HE8⟩
          · have hz1 : (R != 0) = true := by simpa using hz
            have HV : Hid (cmpT (.mk n s L) (.mk m r M) = R) := Lib.hid (by rw [HEQ.out, HOF.out (by show cmpT (tg L k) (tg M k) ≠ 0; rw [HRR.out]; exact hz)]; exact HRR.out)
            have hzz := Lib.hid hz
            clear hz
            go_wp2_with fail
            go_ret
            rw [HV.out]
            exact ⟨rfl, HZ.out.ext HE8.out⟩
        · obtain rfl : k = L.length := by omega
          have HV : Hid (cmpT (.mk n s L) (.mk m r M) = 0) := Lib.hid (by rw [HEQ.out]; exact cmps_all L M H3.out HC.out)
          go_wp2_with fail
          go_ret
          rw [HV.out]
          exact ⟨rfl, HEw.out⟩

end Go.Proofs.YtjjaknmnhhfjeaaGreatDoor

/- Same of the reference. -/
namespace Go.Proofs.YtjjaknmnhhfjeaaGreatDoor
open Go.RowKit Go.Hw Go
set_option linter.unusedVariables false
set_option linter.unusedSimpArgs false

open Tm
set_option maxRecDepth 100000 in
set_option maxHeartbeats 2000000 in
theorem same_x (t u : Tm) (v v' : Value) (S T : Nat → Prop) (w : World) (hR : TmR S w t v) (hR' : TmR T w u v') (hsz : t.size ≤ 1000000) :
    Calls Tryz.prog 14 #[v, v'] w fun e w' => e = .returned (.bool (decide (t = u))) ∧ Ext w w' := by
  have HR := Lib.hid (And.intro hR hR')
  obtain ⟨aa, ca, rfl, hT⟩ := hR
  obtain ⟨ab, cb, rfl, hT'⟩ := hR'
  have HC := Lib.hid (fun W (hW : Ext w W) => compare_x t u _ _ S T W (HR.out.1.ext hW) (HR.out.2.ext hW) hsz)
  dsimp only [tV] at HC ⊢
  have HZ := Lib.hid (((Upd.refl (fun _ => False) w).alloc (.cells #[.string t.name, .string t.sort, .slice aa t.kids.length ca] 24)).alloc (.cells #[.string u.name, .string u.sort, .slice ab u.kids.length cb] 24))
  have HA := Lib.hid (allocOld (alloc0 w (.cells #[.string t.name, .string t.sort, .slice aa t.kids.length ca] 24)) (.cells #[.string u.name, .string u.sort, .slice ab u.kids.length cb] 24))
  have HB := Lib.hid (alloc_at (w.alloc (.cells #[.string t.name, .string t.sort, .slice aa t.kids.length ca] 24)) (.cells #[.string u.name, .string u.sort, .slice ab u.kids.length cb] 24) (n := w.heap.size + 1) (by simp))
  have a0 := cellRow HA.out 0 (.string t.name) rfl
  have a1 := cellRow HA.out 1 (.string t.sort) rfl
  have a2 := cellRow HA.out 2 (.slice aa t.kids.length ca) rfl
  have b0 := cellRow HB.out 0 (.string u.name) rfl
  have b1 := cellRow HB.out 1 (.string u.sort) rfl
  have b2 := cellRow HB.out 2 (.slice ab u.kids.length cb) rfl
  have hz : decide (t = u) = (cmpT t u == 0) := by
    rw [Bool.eq_iff_iff, decide_eq_true_eq, beq_iff_eq, cmpT_zero]
  rw [hz]
  clear hz hT hT'
  generalize cmpT t u = Z at *
  go_enter Tryz.func14, Tryz.ntmps14
  go_wp2_with fail
  refine (HC.out _ HZ.out).mono ?_
  rintro e w4 ⟨rfl, hw4⟩
  have H4 := Lib.hid (HZ.out.ext hw4)
  clear hw4 a0 a1 a2 b0 b1 b2
  go_wp2_with fail
  go_ret
  exact ⟨rfl, H4.out⟩

end Go.Proofs.YtjjaknmnhhfjeaaGreatDoor

/- add of the reference. -/
namespace Go.Proofs.YtjjaknmnhhfjeaaGreatDoor
open Go.RowKit Go.Hw Go
set_option linter.unusedVariables false
set_option linter.unusedSimpArgs false

open Tm
theorem infoF : (Tryz.prog.info? 78).map (fun i => (i.zero, i.size, i.bytes)) = some (some (.agg #[.string ⟨#[]⟩, .string ⟨#[]⟩]), 2, 32) := by kernel_rfl
theorem ins_fir {S : Nat → Prop} {base e : Nat} {W : World} {v : Value} {l : List Vd} {f : Vd} {k : Nat} (hk : k ≤ l.length) (h : W.ownsRow base e 2 v (k + 1 + (l.length - k)) (fCells (l.take k) ++ (fCells [f] ++ fCells (l.drop k)))) :
    FiR (fun j => S j ∨ base ≤ j) W v (l.take k ++ f :: l.drop k) := by
  have h1 : (l.take k ++ f :: l.drop k).length = k + 1 + (l.length - k) := by simp only [List.length_append, List.length_take, List.length_cons, List.length_drop]; omega
  have h2 : fCells (l.take k ++ f :: l.drop k) = fCells (l.take k) ++ (fCells [f] ++ fCells (l.drop k)) := by
    rw [fCells_append, show f :: l.drop k = [f] ++ l.drop k from rfl, fCells_append]
  unfold FiR
  rw [h1, h2]
  exact SlR.weaken (SlR.of_own h) (fun j hj => .inr (h.lt j hj).1)
set_option maxRecDepth 100000 in
set_option maxHeartbeats 2000000 in
theorem add_x (l : List Vd) (f : Vd) (v : Value) (S : Nat → Prop) (w : World) (hR : FiR S w v l) (hl : l.length ≤ 100000) :
    Calls Tryz.prog 95 #[v, .agg #[.string f.1, .string f.2]] w fun e w' => ∃ r, e = .returned (.tuple #[r, .bool (vadd l f).2]) ∧ FiR (fun k => S k ∨ w.heap.size ≤ k) w' r (vadd l f).1 ∧ Ext w w' := by
  have HR := Lib.hid hR
  obtain ⟨a, cap, rfl⟩ := hR.shape
  have HZ := Lib.hid ((Upd.refl (fun _ => False) w).alloc (.cells #[.string f.1, .string f.2] 78))
  have HB := Lib.hid (alloc0 w (.cells #[.string f.1, .string f.2] 78))
  have HVA := Lib.hid (vadd_ix f l)
  clear hR
  go_enter Tryz.func95, Tryz.ntmps95
  go_wp2_with fail
  go_loopg [6] l.length (fun gk iv wr => ∃ k : Nat, iv = .int .i64 (k : Int) ∧ gk = l.length - k ∧ k ≤ l.length ∧ Hid (∀ j, j < k → blt (vg l j).1 f.1 = true) ∧ Hid (Ext w wr) ∧ Hid (wr.heap[w.heap.size]? = some (.cells #[.string f.1, .string f.2] 78 (0, 0))))
  case atStart => exact ⟨0, rfl, rfl, Nat.zero_le _, Lib.hid (fun j h => absurd h (Nat.not_lt_zero _)), HZ, HB⟩
  case round =>
    obtain ⟨k, rfl, rfl, hk, HC, HE, HBr⟩ := hrel
    have f0 := cellRow HBr.out 0 (.string f.1) rfl
    have f1 := cellRow HBr.out 1 (.string f.2) rfl
    by_cases hlt : k < l.length
    · obtain ⟨g, off, rfl, hat⟩ := (HR.out.ext HE.out).at_ (by omega)
      obtain ⟨q0, q1⟩ := hat k hlt
      have hcap : k ≤ cap := Nat.le_trans hk (SlR.le_cap HR.out rfl)
      have z0 : (0 : Int) ≤ (k : Int) := by omega
      have z1 : (k : Int) < (l.length : Int) := by omega
      have z2 : decide ((k : Int) < (l.length : Int)) = true := decide_eq_true z1
      have z2' : decide (k < l.length) = true := decide_eq_true hlt
      have t1 := bless (vg l k).1 f.1
      have hix := vix_uniq l f k hk HC.out
      have hnx : blt (vg l k).1 f.1 = true → ∀ j, j < k + 1 → blt (vg l j).1 f.1 = true := fun h j hj => by
        rcases Nat.lt_succ_iff_lt_or_eq.1 hj with h5 | h5
        · exact HC.out j h5
        · rw [h5]; exact h
      have HIX := Lib.hid hix
      have HNX := Lib.hid hnx
      clear hix hnx hat
      obtain ⟨x, hx⟩ : ∃ x, vg l k = x := ⟨_, rfl⟩
      have HXX := Lib.hid hx
      rw [hx] at q0 q1 t1 HIX HNX
      clear hx
      cases hb : blt x.1 f.1
      · rw [hb] at t1
        have HVX : Hid (vix l f = k) := Lib.hid (HIX.out (fun _ => hb))
        clear hb
        have HEQ := Lib.hid HVA.out
        rw [HVX.out] at HEQ
        go_wp2_with fail
        go_quiet (fail)
        generalize hwq : wr.drewN nq = wq at *
        have HEq : Hid (Ext w wq) := Lib.hid (by rw [← hwq]; exact HE.out.drewN' nq)
        have HBq : Hid (wq.heap[w.heap.size]? = some (.cells #[.string f.1, .string f.2] 78 (0, 0))) := Lib.hid (by rw [← hwq]; exact HBr.out)
        have q0' : wq.cell? ⟨g, off + k * 2, none⟩ = some (.string x.1) := by rw [← hwq]; exact q0
        have q1' : wq.cell? ⟨g, off + k * 2 + 1, none⟩ = some (.string x.2) := by rw [← hwq]; exact q1
        clear hwq HE HBr q0 q1 f0 f1
        have f0 := cellRow HBq.out 0 (.string f.1) rfl
        have f1 := cellRow HBq.out 1 (.string f.2) rfl
        by_cases he : x.1 = f.1
        · have t3 : (x.1.toList == f.1.toList) = true := by rw [he]; simp
          have HV2 : Hid (vadd l f = (l, decide (x.2 = f.2))) := Lib.hid (by rw [HEQ.out, if_pos ⟨hlt, by rw [HXX.out]; exact he⟩, HXX.out])
          clear he
          have t4 : (x.2.toList == f.2.toList) = decide (x.2 = f.2) := by
            rw [Bool.eq_iff_iff, beq_iff_eq, decide_eq_true_eq]
            exact ⟨fun e => ba_list (by rw [Lib.toList_data, Lib.toList_data] at e; exact e), fun e => by rw [e]⟩
          obtain ⟨BB, hBB⟩ : ∃ b, decide (x.2 = f.2) = b := ⟨_, rfl⟩
          rw [hBB] at t4 HV2
          clear hBB
          go_wp2_with fail
          go_quiet (fail)
          go_wp2_with fail
          go_quiet (fail)
          go_wp2_with fail
          go_ret2
          rw [HV2.out]
          exact ⟨_, rfl, SlR.weaken (SlR.drewN (SlR.drewN (FiR.ext HR.out HEq.out) _) _) (fun k h => .inl h), (HEq.out.drewN' _).drewN' _⟩
        · have t3 : (x.1.toList == f.1.toList) = false := by
            rw [beq_eq_false_iff_ne]
            intro e
            exact he (ba_list (by rw [Lib.toList_data, Lib.toList_data] at e; exact e))
          have HV2 : Hid (vadd l f = (l.take k ++ f :: l.drop k, true)) := Lib.hid (by rw [HEQ.out, if_neg (fun h => he (by rw [← HXX.out]; exact h.2))])
          clear he
          go_wp2_with fail
          go_quiet (fail)
          generalize hwq : wq.drewN nq = wz at *
          have HEz : Hid (Ext w wz) := Lib.hid (by rw [← hwq]; exact HEq.out.drewN' nq)
          have HBz : Hid (wz.heap[w.heap.size]? = some (.cells #[.string f.1, .string f.2] 78 (0, 0))) := Lib.hid (by rw [← hwq]; exact HBq.out)
          clear hwq HEq HBq q0' q1' f0 f1 t1 t3
          have f0 := cellRow HBz.out 0 (.string f.1) rfl
          have f1 := cellRow HBz.out 1 (.string f.2) rfl
          have xf0 := fun x : XW wz => x.ext.cell f0 (fun h => h)
          have xf1 := fun x : XW wz => x.ext.cell f1 (fun h => h)
          clear f0 f1
          go_wp2_with fail
          refine wp_region_parF (α := Option Addr × Nat) 7 [] 7 [(7, 2), (8, 2)] [[], [], [], [1, 2], [0, 1, 2, 3], [], [5], [0, 1, 2, 3, 4, 5, 6], [0, 1, 2, 3, 4, 5, 6, 7]]
            [some ⟨fun x => .slice x.1 0 0, fun x W => W.ownsRow w.heap.size 78 2 (.slice x.1 0 0) 0 [], fun x W W' h hE => own_kept h hE (fun _ _ h => h)⟩, none, none, none, some ⟨fun x => .slice x.1 k x.2, fun x W => W.ownsRow w.heap.size 78 2 (.slice x.1 k x.2) k (fCells (l.take k)), fun x W W' h hE => own_kept h hE (fun _ _ h => h)⟩, none, some ⟨fun x => .slice x.1 1 x.2, fun x W => FiR (fun j => w.heap.size ≤ j) W (.slice x.1 1 x.2) [f], fun x W W' h hE => FiR.ext h hE⟩]
            [true, false, false, false, true, false, true] (by kernel_rfl) (by kernel_rfl) rfl (fun _ _ d _ _ h => by cases d <;> exact h) ?_
          simp only [List.take_succ_cons, List.take_zero, pickO, List.getElem?_cons_zero, List.getElem?_cons_succ]
          refine can_mem _ rfl (by go_simp) (fun W hW hG K hK => ?_) (fun K zz0 hK => ?_)
          · go_simp
            exact hK (some ⟨W.heap.size, 0, none⟩, 0) _ ((Upd.refl (fun _ => False) W).alloc _) (World.ownsRow_lit (base := w.heap.size) (e := 78) (size := 2) W #[] 0 (Nat.le_trans HEz.out.size hW.size) (by unfold maxLen; omega) (by simp))
          refine hK _ ?_; clear hK K
          dsimp only
          iterate 3 (refine can_pure0 rfl (fun K hK => ?_); go_simp; refine hK _ ?_; clear hK K)
          obtain ⟨iS, hi, hz0, hz1, hz2⟩ := info_parts infoF
          refine can_mem _ rfl (by go_simp) (fun W hW hG K hK => ?_) (fun K zz4 hK => ?_)
          · have g0 := hG _ (List.mem_singleton.2 rfl) (by show (0 : Nat) ∈ _; decide)
            have hsl : SlR S W 2 (.slice (some ⟨g, off, none⟩) k cap) k (fCells (l.take k)) := by
              have h := (HR.out.ext HEz.out).ext hW |>.to rfl k hk
              rw [fCells_take] at h
              exact h
            refine step_append_new _ (.tmp 47) (.tmp 50) 72 rfl w.heap.size 78 iS (.agg #[.string ⟨#[]⟩, .string ⟨#[]⟩]) 2 32 Tryz.underlying72 hi hz0 hz1 hz2 rfl (by decide) _ rfl g0 S _ k _ rfl hsl (fCells_one _) (by unfold maxLen; omega) (by omega) (Nat.le_trans HEz.out.size hW.size) ?_
            intro v' w' hE4 hO4
            obtain ⟨p4, c4, rfl⟩ := own_shape hO4
            exact hK (p4, c4) _ hE4 hO4
          refine hK _ ?_; clear hK K
          dsimp only
          refine can_pure0 rfl (fun K hK => ?_); go_simp; refine hK _ ?_; clear hK K
          refine can_mem _ rfl (by go_simp) (fun W hW hG K hK => ?_) (fun K zz6 hK => ?_)
          · go_simp
            exact hK (some ⟨W.heap.size, 0, none⟩, 1) _ ((Upd.refl (fun _ => False) W).alloc _) (SlR.weaken (SlR.of_own (World.ownsRow_lit (base := w.heap.size) (e := 78) (size := 2) W #[.string f.1, .string f.2] 1 (Nat.le_trans HEz.out.size hW.size) (by unfold maxLen; omega) (by simp))) (fun k hk => by injection hk with hk; rw [← hk]; exact Nat.le_trans HEz.out.size hW.size))
          refine hK _ ?_; clear hK K
          dsimp only
          refine can_end (fun w8 hW hG => ?_)
          have g4 := hG _ (List.mem_append_left _ (List.mem_append_right _ (List.mem_singleton.2 rfl)))
          have g6 := hG _ (List.mem_append_right _ (List.mem_singleton.2 rfl))
          dsimp only at g4 g6
          have hW8 : Hid (Ext w w8) := Lib.hid (HEz.out.trans hW)
          clear hG hW
          refine mix_two (fun K hK => ?_)
          rw [if_pos (by go_simp)]
          refine step_append_sl _ (.tmp 51) (.tmp 53) 72 rfl w.heap.size 78 iS (.agg #[.string ⟨#[]⟩, .string ⟨#[]⟩]) 2 32 Tryz.underlying72 hi hz0 hz1 hz2 rfl (by decide) (.slice zz4.1 k zz4.2) k _ rfl g4 (fun j => w.heap.size ≤ j) (.slice zz6.1 1 zz6.2) 1 _ rfl g6 (fCells_one _) (by unfold maxLen; omega) (by omega) hW8.out.size ?_
          intro v7 w9 hG7
          refine hK _ _ ?_; clear hK K
          refine mix_two (fun K hK => ?_); go_simp; refine hK _ _ ?_; clear hK K
          simp only [wpMix]
          have hW9 : Hid (Ext w w9) := Lib.hid (hW8.out.trans' hG7.upd (fun j hj h => absurd (g4.lt j h).1 (by omega)))
          have g9 := Lib.hid hG7.own
          clear hG7 g4 g6 hW8
          obtain ⟨p7, c7, rfl⟩ := own_shape g9.out
          have hR9 : SlR S w9 2 (.slice (some ⟨g, off, none⟩) l.length cap) l.length (fCells l) := HR.out.ext hW9.out
          have hs9 := hW9.out.size
          go_wp2_with (with_reducible (refine stop_at (o := ⟨some 58, _, _, _, _, _⟩) ?_))
          refine Stop.go ?_
          refine wpList_slice_from _ rfl 72 _ _ rfl 2 (by kernel_rfl) (fun _ => by kernel_rfl) _ _ _ _ rfl hR9 k .i64 (k : Int) rfl rfl hk (fun sv hsv => ?_)
          rw [fCells_drop] at hsv
          obtain ⟨ps, cs, rfl⟩ := hsv.shape
          go_wp2_with (at_builtin; refine wpList_append_sl _ rfl (.tmp 55) (.tmp 58) 72 rfl w.heap.size 78 iS (.agg #[.string ⟨#[]⟩, .string ⟨#[]⟩]) 2 32 Tryz.underlying72 hi hz0 hz1 hz2 rfl (by decide) (.slice p7 (k + 1) c7) (k + 1) _ rfl g9.out S (.slice ps (l.length - k) cs) (l.length - k) (fCells (l.drop k)) rfl hsv (fCells_one _) ?c3 ?c4 hs9 ?_)
          case c3 => unfold maxLen; omega
          case c4 => omega
          intro v10 w10 hG
          have HON := Lib.hid hG.own
          have HEN : Hid (Ext w w10) := Lib.hid (hW9.out.trans' hG.upd (fun i hi e => by have := (g9.out.lt i e).1; omega))
          clear hG hR9 hs9 hsv
          go_wp2_with fail
          go_ret2
          rw [HV2.out]
          exact ⟨v10, rfl, ins_fir hk HON.out, HEN.out⟩
      · rw [hb] at t1
        have HN := Lib.hid (HNX.out hb)
        clear hb
        go_wp2_with fail
        go_quiet (fail)
        go_wp2_with fail
        go_roundg (l.length - (k + 1))
        case measure => omega
        case rel => exact ⟨k + 1, by go_num, rfl, by omega, HN, Lib.hid (HE.out.drewN' nq), Lib.hid HBr.out⟩
    · have hkl : k = l.length := by omega
      have HVX : Hid (vix l f = k) := Lib.hid (vix_uniq l f k hk HC.out (fun h => absurd h hlt))
      have HV2 : Hid (vadd l f = (l.take k ++ f :: l.drop k, true)) := Lib.hid (by rw [HVA.out, HVX.out, if_neg (fun h => absurd h.1 hlt)])
      have z0 : (0 : Int) ≤ (k : Int) := by omega
      have z2 : decide ((k : Int) < (l.length : Int)) = false := decide_eq_false (by omega)
      have z2' : decide (k < l.length) = false := decide_eq_false hlt
      have hcap : k ≤ cap := Nat.le_trans hk (SlR.le_cap HR.out rfl)
      clear hkl
      go_wp2_with fail
      go_quiet (fail)
      generalize hwq : wr.drewN nq = wq at *
      have HEq : Hid (Ext w wq) := Lib.hid (by rw [← hwq]; exact HE.out.drewN' nq)
      have HBq : Hid (wq.heap[w.heap.size]? = some (.cells #[.string f.1, .string f.2] 78 (0, 0))) := Lib.hid (by rw [← hwq]; exact HBr.out)
      clear hwq HE HBr f0 f1
      go_wp2_with fail
      go_quiet (fail)
      generalize hwq : wq.drewN nq = wz at *
      have HEz : Hid (Ext w wz) := Lib.hid (by rw [← hwq]; exact HEq.out.drewN' nq)
      have HBz : Hid (wz.heap[w.heap.size]? = some (.cells #[.string f.1, .string f.2] 78 (0, 0))) := Lib.hid (by rw [← hwq]; exact HBq.out)
      clear hwq HEq HBq
      have f0 := cellRow HBz.out 0 (.string f.1) rfl
      have f1 := cellRow HBz.out 1 (.string f.2) rfl
      have xf0 := fun x : XW wz => x.ext.cell f0 (fun h => h)
      have xf1 := fun x : XW wz => x.ext.cell f1 (fun h => h)
      clear f0 f1
      go_wp2_with fail
      refine wp_region_parF (α := Option Addr × Nat) 7 [] 7 [(7, 2), (8, 2)] [[], [], [], [1, 2], [0, 1, 2, 3], [], [5], [0, 1, 2, 3, 4, 5, 6], [0, 1, 2, 3, 4, 5, 6, 7]]
        [some ⟨fun x => .slice x.1 0 0, fun x W => W.ownsRow w.heap.size 78 2 (.slice x.1 0 0) 0 [], fun x W W' h hE => own_kept h hE (fun _ _ h => h)⟩, none, none, none, some ⟨fun x => .slice x.1 k x.2, fun x W => W.ownsRow w.heap.size 78 2 (.slice x.1 k x.2) k (fCells (l.take k)), fun x W W' h hE => own_kept h hE (fun _ _ h => h)⟩, none, some ⟨fun x => .slice x.1 1 x.2, fun x W => FiR (fun j => w.heap.size ≤ j) W (.slice x.1 1 x.2) [f], fun x W W' h hE => FiR.ext h hE⟩]
        [true, false, false, false, true, false, true] (by kernel_rfl) (by kernel_rfl) rfl (fun _ _ d _ _ h => by cases d <;> exact h) ?_
      simp only [List.take_succ_cons, List.take_zero, pickO, List.getElem?_cons_zero, List.getElem?_cons_succ]
      refine can_mem _ rfl (by go_simp) (fun W hW hG K hK => ?_) (fun K zz0 hK => ?_)
      · go_simp
        exact hK (some ⟨W.heap.size, 0, none⟩, 0) _ ((Upd.refl (fun _ => False) W).alloc _) (World.ownsRow_lit (base := w.heap.size) (e := 78) (size := 2) W #[] 0 (Nat.le_trans HEz.out.size hW.size) (by unfold maxLen; omega) (by simp))
      refine hK _ ?_; clear hK K
      dsimp only
      iterate 3 (refine can_pure0 rfl (fun K hK => ?_); go_simp; refine hK _ ?_; clear hK K)
      obtain ⟨iS, hi, hz0, hz1, hz2⟩ := info_parts infoF
      refine can_mem _ rfl (by go_simp) (fun W hW hG K hK => ?_) (fun K zz4 hK => ?_)
      · have g0 := hG _ (List.mem_singleton.2 rfl) (by show (0 : Nat) ∈ _; decide)
        have hsl : SlR S W 2 (.slice a k cap) k (fCells (l.take k)) := by
          have h := (HR.out.ext HEz.out).ext hW |>.to rfl k hk
          rw [fCells_take] at h
          exact h
        refine step_append_new _ (.tmp 47) (.tmp 50) 72 rfl w.heap.size 78 iS (.agg #[.string ⟨#[]⟩, .string ⟨#[]⟩]) 2 32 Tryz.underlying72 hi hz0 hz1 hz2 rfl (by decide) _ rfl g0 S _ k _ rfl hsl (fCells_one _) (by unfold maxLen; omega) (by omega) (Nat.le_trans HEz.out.size hW.size) ?_
        intro v' w' hE4 hO4
        obtain ⟨p4, c4, rfl⟩ := own_shape hO4
        exact hK (p4, c4) _ hE4 hO4
      refine hK _ ?_; clear hK K
      dsimp only
      refine can_pure0 rfl (fun K hK => ?_); go_simp; refine hK _ ?_; clear hK K
      refine can_mem _ rfl (by go_simp) (fun W hW hG K hK => ?_) (fun K zz6 hK => ?_)
      · go_simp
        exact hK (some ⟨W.heap.size, 0, none⟩, 1) _ ((Upd.refl (fun _ => False) W).alloc _) (SlR.weaken (SlR.of_own (World.ownsRow_lit (base := w.heap.size) (e := 78) (size := 2) W #[.string f.1, .string f.2] 1 (Nat.le_trans HEz.out.size hW.size) (by unfold maxLen; omega) (by simp))) (fun k hk => by injection hk with hk; rw [← hk]; exact Nat.le_trans HEz.out.size hW.size))
      refine hK _ ?_; clear hK K
      dsimp only
      refine can_end (fun w8 hW hG => ?_)
      have g4 := hG _ (List.mem_append_left _ (List.mem_append_right _ (List.mem_singleton.2 rfl)))
      have g6 := hG _ (List.mem_append_right _ (List.mem_singleton.2 rfl))
      dsimp only at g4 g6
      have hW8 : Hid (Ext w w8) := Lib.hid (HEz.out.trans hW)
      clear hG hW
      refine mix_two (fun K hK => ?_)
      rw [if_pos (by go_simp)]
      refine step_append_sl _ (.tmp 51) (.tmp 53) 72 rfl w.heap.size 78 iS (.agg #[.string ⟨#[]⟩, .string ⟨#[]⟩]) 2 32 Tryz.underlying72 hi hz0 hz1 hz2 rfl (by decide) (.slice zz4.1 k zz4.2) k _ rfl g4 (fun j => w.heap.size ≤ j) (.slice zz6.1 1 zz6.2) 1 _ rfl g6 (fCells_one _) (by unfold maxLen; omega) (by omega) hW8.out.size ?_
      intro v7 w9 hG7
      refine hK _ _ ?_; clear hK K
      refine mix_two (fun K hK => ?_); go_simp; refine hK _ _ ?_; clear hK K
      simp only [wpMix]
      have hW9 : Hid (Ext w w9) := Lib.hid (hW8.out.trans' hG7.upd (fun j hj h => absurd (g4.lt j h).1 (by omega)))
      have g9 := Lib.hid hG7.own
      clear hG7 g4 g6 hW8
      obtain ⟨p7, c7, rfl⟩ := own_shape g9.out
      have hR9 : SlR S w9 2 (.slice a l.length cap) l.length (fCells l) := HR.out.ext hW9.out
      have hs9 := hW9.out.size
      go_wp2_with (with_reducible (refine stop_at (o := ⟨some 58, _, _, _, _, _⟩) ?_))
      refine Stop.go ?_
      refine wpList_slice_from _ rfl 72 _ _ rfl 2 (by kernel_rfl) (fun _ => by kernel_rfl) _ _ _ _ rfl hR9 k .i64 (k : Int) rfl rfl hk (fun sv hsv => ?_)
      rw [fCells_drop] at hsv
      obtain ⟨ps, cs, rfl⟩ := hsv.shape
      go_wp2_with (at_builtin; refine wpList_append_sl _ rfl (.tmp 55) (.tmp 58) 72 rfl w.heap.size 78 iS (.agg #[.string ⟨#[]⟩, .string ⟨#[]⟩]) 2 32 Tryz.underlying72 hi hz0 hz1 hz2 rfl (by decide) (.slice p7 (k + 1) c7) (k + 1) _ rfl g9.out S (.slice ps (l.length - k) cs) (l.length - k) (fCells (l.drop k)) rfl hsv (fCells_one _) ?c3 ?c4 hs9 ?_)
      case c3 => unfold maxLen; omega
      case c4 => omega
      intro v10 w10 hG
      have HON := Lib.hid hG.own
      have HEN : Hid (Ext w w10) := Lib.hid (hW9.out.trans' hG.upd (fun i hi e => by have := (g9.out.lt i e).1; omega))
      clear hG hR9 hs9 hsv
      go_wp2_with fail
      go_ret2
      rw [HV2.out]
      exact ⟨v10, rfl, ins_fir hk HON.out, HEN.out⟩

end Go.Proofs.YtjjaknmnhhfjeaaGreatDoor

/- vars of the reference. -/
namespace Go.Proofs.YtjjaknmnhhfjeaaGreatDoor
open Go.RowKit Go.Hw Go
set_option linter.unusedVariables false
set_option linter.unusedSimpArgs false

open Tm
theorem vadd_len (f : Vd) : ∀ l : List Vd, (vadd l f).1.length ≤ l.length + 1
  | [] => by simp [vadd]
  | g :: l => by
    simp only [vadd]
    split
    · simp only [List.length_cons]; have := vadd_len f l; omega
    · split <;> simp
theorem vFold_len : ∀ (fs l : List Vd), (vFold l fs).1.length ≤ l.length + fs.length
  | [], l => by simp [vFold]
  | f :: fs, l => by
    simp only [vFold]
    split
    · have h1 := vFold_len fs (vadd l f).1
      have h2 := vadd_len f l
      simp only [List.length_cons]; omega
    · simp
theorem vFold_app : ∀ (fs gs l : List Vd), vFold l (fs ++ gs) = if (vFold l fs).2 = true then vFold (vFold l fs).1 gs else vFold l fs
  | [], gs, l => by simp [vFold]
  | f :: fs, gs, l => by
    by_cases h : (vadd l f).2 = true
    · have e1 : ∀ x, vFold l (f :: x) = vFold (vadd l f).1 x := fun x => by rw [vFold, if_pos h]
      rw [List.cons_append, e1, e1]; exact vFold_app fs gs _
    · have e1 : ∀ x, vFold l (f :: x) = (l, false) := fun x => by rw [vFold, if_neg h]
      rw [List.cons_append, e1, e1]; rfl
def VL (t : Tm) : Prop := ∀ x ∈ sbts t, x.sort ≠ nul → x.kids = []
theorem VL.kid {t x : Tm} (h : VL t) (hx : x ∈ t.kids) : VL x := fun y hy => h y (mem_sbts_kid hx hy)
theorem vl_node (n : By) (L : List Tm) : vl (sbts (.mk n nul L)) = L.flatMap (fun x => vl (sbts x)) := by
  rw [sbts_eq]
  have h1 : ∀ M : List Tm, vl (M.flatMap sbts) = M.flatMap (fun x => vl (sbts x)) := by
    intro M
    induction M with
    | nil => rfl
    | cons x M ih => rw [List.flatMap_cons, vl_append, ih, List.flatMap_cons]
  have h2 : vl [Tm.mk n nul L] = [] := rfl
  rw [← List.singleton_append, vl_append, h2, h1]; rfl
theorem vl_leaf (n s : By) (h : s ≠ nul) : vl (sbts (.mk n s [])) = [(n, s)] := by
  rw [sbts_eq]
  simp [vl, Tm.sort, Tm.name, Tm.kids, h]
theorem vl_len (t : Tm) : (vl (sbts t)).length ≤ t.size := by
  have h1 : (vl (sbts t)).length ≤ (sbts t).length := List.length_filterMap_le _ _
  have h2 : (sbts t).length = t.size := by rw [sbts, List.length_map, nodesD_len]
  omega
abbrev vls (L : List Tm) : List Vd := L.flatMap fun x => vl (sbts x)
theorem vls_len : ∀ L : List Tm, (vls L).length ≤ sizes L
  | [] => by simp [sizes]
  | x :: L => by
    have h1 := vl_len x
    have h2 := vls_len L
    simp only [vls, List.flatMap_cons, List.length_append, sizes] at h2 ⊢
    omega
theorem tk_snoc (L : List Tm) (k : Nat) (h : k < L.length) : L.take (k + 1) = L.take k ++ [tg L k] := by
  rw [List.take_add_one]
  have : L[k]?.toList = [tg L k] := by unfold tg; rw [List.getD_eq_getElem?_getD, List.getElem?_eq_getElem h]; rfl
  rw [this]
theorem tg_mem (L : List Tm) (k : Nat) (h : k < L.length) : tg L k ∈ L := by
  unfold tg; rw [List.getD_eq_getElem?_getD, List.getElem?_eq_getElem h]; exact List.getElem_mem h
theorem vls_snoc (L : List Tm) (k : Nat) (h : k < L.length) : vls (L.take (k + 1)) = vls (L.take k) ++ vl (sbts (tg L k)) := by
  rw [tk_snoc L k h]
  unfold vls
  rw [List.flatMap_append, List.flatMap_cons, List.flatMap_nil, List.append_nil]
theorem kid_room (L : List Tm) (k : Nat) (h : k < L.length) : (vls (L.take k)).length + (tg L k).size ≤ sizes L := by
  have h1 := vls_len (L.take k)
  have h2 : sizes L = sizes (L.take (k + 1)) + sizes (L.drop (k + 1)) := by rw [← sizes_append, List.take_append_drop]
  rw [tk_snoc L k h, sizes_append] at h2
  have h3 : sizes [tg L k] = (tg L k).size := by simp [sizes]
  omega
theorem vls_fold (L : List Tm) (l cur : List Vd) (k : Nat) (h : k < L.length) (hc : vFold l (vls (L.take k)) = (cur, true)) :
    (∀ m, vFold cur (vl (sbts (tg L k))) = (m, true) → vFold l (vls (L.take (k + 1))) = (m, true)) ∧
    ((vFold cur (vl (sbts (tg L k)))).2 = false → (vFold l (vls L)).2 = false) := by
  have h1 : vFold l (vls (L.take (k + 1))) = vFold cur (vl (sbts (tg L k))) := by
    rw [vls_snoc L k h, vFold_app, hc, if_pos rfl]
  refine ⟨fun m hm => by rw [h1, hm], fun hf => ?_⟩
  have h2 : vls L = vls (L.take (k + 1)) ++ vls (L.drop (k + 1)) := by
    unfold vls
    rw [← List.flatMap_append, List.take_append_drop]
  rw [h2, vFold_app, h1, if_neg (by rw [hf]; simp)]
  exact hf
set_option maxRecDepth 100000 in
set_option maxHeartbeats 2000000 in
theorem vars_x : ∀ (t : Tm) (l : List Vd) (v v' : Value) (S T : Nat → Prop) (w : World), TmR T w t v' → FiR S w v l → VL t → l.length + t.size ≤ 100000 →
    Calls Tryz.prog 53 #[v, v'] w fun e w' => ∃ r, e = .returned (.tuple #[r, .bool (vFold l (vl (sbts t))).2]) ∧ ((vFold l (vl (sbts t))).2 = true → FiR (fun k => S k ∨ w.heap.size ≤ k) w' r (vFold l (vl (sbts t))).1) ∧ Ext w w' := by
  refine Tm.ind (fun nm so L ih => ?_)
  intro l v v' S T w hT hF hV hsz
  obtain ⟨a, cap, rfl, hT⟩ := hT
  dsimp only [tV, Tm.name, Tm.sort, Tm.kids] at hT ⊢
  have HTL := Lib.hid hT
  have HIH := Lib.hid ih
  have HF := Lib.hid hF
  have HVL := Lib.hid hV
  obtain ⟨fa, fc, rfl⟩ := hF.shape
  clear ih hT hF hV
  have HZ := Lib.hid ((Upd.refl (fun _ => False) w).alloc (.cells #[.string nm, .string so, .slice a L.length cap] 24))
  have HB := Lib.hid (alloc0 w (.cells #[.string nm, .string so, .slice a L.length cap] 24))
  by_cases hs0 : so.size = 0
  · have hse := empty_is _ hs0
    subst hse
    rw [show vl (sbts (.mk nm ⟨#[]⟩ L)) = vls L from vl_node nm L]
    have hroom : l.length + sizes L + 1 ≤ 100000 := by rw [size_eq] at hsz; exact hsz
    have HR0 := Lib.hid hroom
    have hlL : L.length ≤ 100000 := by have h1 := length_le_sizes L; omega
    clear hsz hroom
    have c0 := cellRow HB.out 0 (.string nm) rfl
    have c1 := cellRow HB.out 1 (.string ⟨#[]⟩) rfl
    have c2 := cellRow HB.out 2 (.slice a L.length cap) rfl
    have hVK : ∀ x ∈ L, VL x := fun x hx => VL.kid (t := .mk nm ⟨#[]⟩ L) HVL.out hx
    have HVK := Lib.hid hVK
    clear hVK HVL
    go_enter Tryz.func53, Tryz.ntmps53
    go_wp2_with fail
    clear c0 c1 c2
    go_loopg [0, 6] L.length (fun gk lv iv wr => ∃ (k : Nat) (cur : List Vd), iv = .int .i64 (k : Int) ∧ gk = L.length - k ∧ k ≤ L.length ∧ Hid (vFold l (vls (L.take k)) = (cur, true)) ∧ Hid (FiR (fun j => S j ∨ w.heap.size ≤ j) wr lv cur) ∧ Hid (Ext w wr) ∧ Hid (wr.heap[w.heap.size]? = some (.cells #[.string nm, .string ⟨#[]⟩, .slice a L.length cap] 24 (0, 0))))
    case atStart => exact ⟨0, l, rfl, rfl, Nat.zero_le _, Lib.hid rfl, Lib.hid (SlR.weaken (FiR.ext HF.out HZ.out) (fun j h => .inl h)), HZ, HB⟩
    case round =>
      obtain ⟨k, cur, rfl, rfl, hk, HC, HFk, HE, HBr⟩ := hrel
      have c2 := cellRow HBr.out 2 (.slice a L.length cap) rfl
      by_cases hlt : k < L.length
      · obtain ⟨g, off, rfl, _, hat⟩ := (HTL.out.ext HE.out).at_ (by omega)
        obtain ⟨ka, kc, q0, q1, q2, hkid⟩ := hat k hlt
        have z0 : (0 : Int) ≤ (k : Int) := by omega
        have z1 : (k : Int) < (L.length : Int) := by omega
        have z2 : decide ((k : Int) < (L.length : Int)) = true := decide_eq_true z1
        have z2' : decide (k < L.length) = true := decide_eq_true hlt
        have hmem := tg_mem L k hlt
        have hrm := kid_room L k hlt
        have hln : cur.length ≤ l.length + (vls (L.take k)).length := by have := vFold_len (vls (L.take k)) l; rw [HC.out] at this; exact this
        obtain ⟨hv1, hv2⟩ := vls_fold L l cur k hlt HC.out
        have HIX := Lib.hid (HIH.out (tg L k) hmem cur _ _ _ T wr ⟨ka, kc, rfl, hkid⟩ HFk.out (HVK.out _ hmem) (by have := HR0.out; omega))
        dsimp only [tV] at HIX
        generalize vl (sbts (tg L k)) = ff at hv1 hv2 HIX
        obtain ⟨⟨m, b⟩, hm⟩ : ∃ p, vFold cur ff = p := ⟨_, rfl⟩
        rw [hm] at hv1 hv2 HIX
        have HV1 := Lib.hid hv1
        have HV2 := Lib.hid hv2
        obtain ⟨x, hx⟩ : ∃ x, tg L k = x := ⟨_, rfl⟩
        rw [hx] at q0 q1 q2 HIX
        rw [← Nat.add_assoc] at q1 q2
        clear hmem hrm hln hv1 hv2 hm hx hat hkid
        go_wp2_with fail
        refine HIX.out.mono ?_
        rintro e w8 ⟨r, rfl, hr, hw8⟩
        have HE8 := Lib.hid (HE.out.ext hw8)
        have HB8 := Lib.hid (hw8.heap HBr.out (fun h => h))
        have HFr : Hid (b = true → FiR (fun j => S j ∨ w.heap.size ≤ j) w8 r m) := Lib.hid (fun hb => SlR.weaken (hr hb) (fun j h => by
          rcases h with h | h
          · exact h
          · exact .inr (Nat.le_trans HE.out.size h)))
        clear hr hw8 c2 q0 q1 q2 HIX
        cases b
        · have HVF := Lib.hid (HV2.out rfl)
          go_wp2_with fail
          go_ret2
          rw [HVF.out]
          exact ⟨_, rfl, fun h => (by cases h), HE8.out⟩
        · have HN := Lib.hid (HV1.out m rfl)
          go_wp2_with fail
          go_roundg (L.length - (k + 1))
          case measure => omega
          case rel => exact ⟨k + 1, m, by go_num, rfl, by omega, HN, Lib.hid (HFr.out trivial), HE8, HB8⟩
      · obtain rfl : k = L.length := by omega
        have HV : Hid (vFold l (vls L) = (cur, true)) := Lib.hid (by rw [← HC.out, List.take_length])
        have z2 : decide ((L.length : Int) < (L.length : Int)) = false := decide_eq_false (by omega)
        go_wp2_with fail
        go_ret2
        rw [HV.out]
        exact ⟨_, rfl, fun _ => HFk.out, HE.out⟩
  · have hLn : L = [] := HVL.out _ (mem_sbts_self _) (fun e => hs0 (by show so.size = 0; rw [show so = nul from e]; rfl))
    subst hLn
    obtain ⟨e1, e2, e3, e4⟩ := nonempty_t so (Nat.pos_of_ne_zero hs0)
    rw [vl_leaf nm so (fun e => hs0 (by rw [e]; rfl))]
    have hadd : vFold l [(nm, so)] = if (vadd l (nm, so)).2 = true then ((vadd l (nm, so)).1, true) else (l, false) := by rw [vFold]; rfl
    have HADD := Lib.hid (fun W hW => add_x l (nm, so) _ S W (HF.out.ext hW) (by omega))
    have c0 := cellRow HB.out 0 (.string nm) rfl
    have c1 := cellRow HB.out 1 (.string so) rfl
    have c2 := cellRow HB.out 2 (.slice a ([] : List Tm).length cap) rfl
    dsimp only at HADD
    obtain ⟨⟨m, b⟩, hm⟩ : ∃ p, vadd l (nm, so) = p := ⟨_, rfl⟩
    rw [hm] at HADD hadd
    dsimp only at HADD hadd
    have HAD := Lib.hid hadd
    clear hadd hm
    go_enter Tryz.func53, Tryz.ntmps53
    go_wp2_with fail
    refine (HADD.out _ HZ.out).mono ?_
    rintro e w4 ⟨r, rfl, hr, hw4⟩
    have HRR := Lib.hid (SlR.weaken hr (fun j h => by
      rcases h with h | h
      · exact Or.inl h
      · exact Or.inr (Nat.le_trans HZ.out.size h)) : FiR (fun j => S j ∨ w.heap.size ≤ j) w4 r m)
    have H4 := Lib.hid (HZ.out.ext hw4)
    clear hr hw4 c0 c1 c2
    go_wp2_with fail
    go_ret2
    rw [HAD.out]
    cases b
    · exact ⟨r, rfl, fun h => by simp at h, H4.out⟩
    · exact ⟨r, rfl, fun _ => HRR.out, H4.out⟩

end Go.Proofs.YtjjaknmnhhfjeaaGreatDoor

/- Names of the reference of the path order. -/
namespace Go.Proofs.YtjjaknmnhhfjeaaGreatDoor
open Go.RowKit Go.Hw Go
set_option linter.unusedVariables false
set_option linter.unusedSimpArgs false

open Tm
abbrev StR (S : Nat → Prop) (w : World) (v : Value) (l : List By) : Prop := SlR S w 1 v l.length (l.map Value.string)
abbrev bg (l : List By) (i : Nat) : By := l.getD i nul
theorem bg_at (l : List By) (i : Nat) (h : i < l.length) : bg l i = l[i] := by unfold bg; rw [List.getD_eq_getElem?_getD, List.getElem?_eq_getElem h]; rfl
theorem StR.ext {S : Nat → Prop} {w w' : World} {v : Value} {l : List By} (h : StR S w v l) (hu : Ext w w') : StR S w' v l := SlR.kept h hu (fun _ _ h => h)
theorem StR.at_ {S : Nat → Prop} {w : World} {a : Option Addr} {n cap : Nat} {l : List By} (h : StR S w (.slice a n cap) l) (hl : 0 < l.length) :
    ∃ g off, a = some ⟨g, off, none⟩ ∧ S g ∧ ∀ i, i < l.length → w.cell? ⟨g, off + i, none⟩ = some (.string (bg l i)) := by
  obtain ⟨g, off, c, e, _, hS, hj⟩ := SlR.pos h hl
  injection e with e1 e2 e3
  refine ⟨g, off, e1, hS, fun i hi => ?_⟩
  rw [hj i (by omega), bg_at l i hi, List.getElem?_map, List.getElem?_eq_getElem hi]
  rfl
theorem StR.to {S : Nat → Prop} {w : World} {a : Option Addr} {n cap : Nat} {l : List By} (h : StR S w (.slice a n cap) l) {k : Nat} (hk : k ≤ l.length) : StR S w (.slice a k cap) (l.take k) := by
  have h1 := SlR.to h rfl k hk
  unfold StR
  rw [Nat.mul_one, ← List.map_take] at h1
  rw [List.length_take, Nat.min_eq_left hk]
  exact h1
theorem str_ne {a b : By} (h : a ≠ b) : (a.toList == b.toList) = false := beq_eq_false_iff_ne.2 (fun e => h (ba_list (by rw [Lib.toList_data, Lib.toList_data] at e; exact e)))
theorem str_dec (a b : By) : (a.toList == b.toList) = decide (a = b) := by
  by_cases h : a = b
  · rw [decide_eq_true h, h]; simp
  · rw [decide_eq_false h, str_ne h]
end Go.Proofs.YtjjaknmnhhfjeaaGreatDoor

/- Formed of the reference. -/
namespace Go.Proofs.YtjjaknmnhhfjeaaGreatDoor
open Go.RowKit Go.Hw Go
set_option linter.unusedVariables false
set_option linter.unusedSimpArgs false

open Tm
theorem wf_formed {t : Tm} (h : wf nmB t = true) : formed nmB t = true := by
  unfold wf at h
  rw [Bool.and_eq_true] at h
  exact h.1
theorem formed_nd {t : Tm} (h : formed nmB t = true) : t.size ≤ 1000 ∧ ∀ x ∈ sbts t, nmB x.name = true ∧ x.kids.length ≤ 6 ∧ (x.sort = nul ∨ nmB x.sort = true ∧ x.kids = []) := by
  obtain ⟨h1, h2⟩ := (formed_iff nmB t).1 h
  refine ⟨h1, fun x hx => ?_⟩
  have hx1 : x ∈ (nodesD 1 t).map (·.1) := by rw [nodesD_fst t 1 0]; exact hx
  obtain ⟨p, hp, rfl⟩ := List.mem_map.1 hx1
  have h3 := h2 p hp
  unfold okN at h3
  simp only [Bool.and_eq_true, Bool.or_eq_true, decide_eq_true_eq] at h3
  refine ⟨h3.2.1, h3.2.2.1, ?_⟩
  rcases h3.2.2.2 with h | h
  · exact .inl h
  · exact .inr ⟨h.1, List.eq_nil_of_length_eq_zero h.2⟩
theorem formed_VL {t : Tm} (h : formed nmB t = true) : VL t := fun x hx hs => by
  rcases ((formed_nd h).2 x hx).2.2 with e | e
  · exact absurd e hs
  · exact e.2
set_option maxRecDepth 100000 in
set_option maxHeartbeats 2000000 in
theorem rformed_x (t : Tm) (v : Value) (S : Nat → Prop) (w : World) (hR : TmR S w t v) : Calls Tryz.prog 15 #[v] w fun e w' => e = .returned (.bool (wf nmB t)) ∧ Ext w w' := by
  have HR := Lib.hid hR
  obtain ⟨a, cap, rfl, hT⟩ := hR
  have HSM := Lib.hid (fun W (hW : Ext w W) => small_x t 1 1000 _ S W (HR.out.ext hW) (by omega) (by omega) (by omega))
  have HSF := Lib.hid (small_formed nmB t)
  dsimp only [tV] at HSM ⊢
  have HZ := Lib.hid ((Upd.refl (fun _ => False) w).alloc (.cells #[.string t.name, .string t.sort, .slice a t.kids.length cap] 24))
  have HB := Lib.hid (alloc0 w (.cells #[.string t.name, .string t.sort, .slice a t.kids.length cap] 24))
  have c0 := cellRow HB.out 0 (.string t.name) rfl
  have c1 := cellRow HB.out 1 (.string t.sort) rfl
  have c2 := cellRow HB.out 2 (.slice a t.kids.length cap) rfl
  by_cases hf : formed nmB t = true
  · have hsz := (formed_nd hf).1
    have HVA := Lib.hid (fun W (hW : Ext w W) => vars_x t [] (.slice none 0 0) _ S S W (HR.out.ext hW) (SlR.nil S W 2) (formed_VL hf) (by show 0 + t.size ≤ 100000; omega))
    have HV : Hid (wf nmB t = (vFold [] (vl (sbts t))).2) := Lib.hid (by unfold wf; rw [hf, Bool.true_and, varsT_ok])
    have z1 : ¬ (small nmB 1 1000 t < 0) := by
      have := HSF.out
      rw [hf] at this
      have := of_decide_eq_true this.symm
      omega
    dsimp only [tV] at HVA
    clear hT hf hsz
    generalize small nmB 1 1000 t = R at *
    generalize (vFold [] (vl (sbts t))).2 = B at *
    go_enter Tryz.func15, Tryz.ntmps15
    go_wp2_with fail
    refine (HSM.out _ HZ.out).mono ?_
    rintro e w4 ⟨rfl, hw4⟩
    have H4 := Lib.hid (HZ.out.ext hw4)
    have HB4 := Lib.hid (hw4.heap HB.out (fun h => h))
    clear hw4 c0 c1 c2
    have c0 := cellRow HB4.out 0 (.string t.name) rfl
    have c1 := cellRow HB4.out 1 (.string t.sort) rfl
    have c2 := cellRow HB4.out 2 (.slice a t.kids.length cap) rfl
    go_wp2_with fail
    refine (HVA.out _ H4.out).mono ?_
    rintro e w5 ⟨r, rfl, _, hw5⟩
    have H5 := Lib.hid (H4.out.ext hw5)
    clear hw5 c0 c1 c2
    go_wp2_with fail
    go_ret
    rw [HV.out]
    exact ⟨rfl, H5.out⟩
  · have HV : Hid (wf nmB t = false) := Lib.hid (by unfold wf; rw [Bool.eq_false_iff.2 hf]; rfl)
    have z1 : small nmB 1 1000 t < 0 := by
      have h1 := HSF.out
      rw [Bool.eq_false_iff.2 hf] at h1
      have := of_decide_eq_false h1.symm
      omega
    clear hT hf
    generalize small nmB 1 1000 t = R at *
    go_enter Tryz.func15, Tryz.ntmps15
    go_wp2_with fail
    refine (HSM.out _ HZ.out).mono ?_
    rintro e w4 ⟨rfl, hw4⟩
    have H4 := Lib.hid (HZ.out.ext hw4)
    clear hw4 c0 c1 c2
    go_wp2_with fail
    go_ret
    rw [HV.out]
    exact ⟨rfl, H4.out⟩
theorem infoS : (Tryz.prog.info? 9).map (fun i => (i.zero, i.size, i.bytes)) = some (some (.string ⟨#[]⟩), 1, 16) := by kernel_rfl
end Go.Proofs.YtjjaknmnhhfjeaaGreatDoor

/- Ops of the reference. -/
namespace Go.Proofs.YtjjaknmnhhfjeaaGreatDoor
open Go.RowKit Go.Hw Go
set_option linter.unusedVariables false
set_option linter.unusedSimpArgs false

open Tm
end Go.Proofs.YtjjaknmnhhfjeaaGreatDoor

/- Knows, occurs of the reference. -/
namespace Go.Proofs.YtjjaknmnhhfjeaaGreatDoor
open Go.RowKit Go.Hw Go
set_option linter.unusedVariables false
set_option linter.unusedSimpArgs false

open Tm
end Go.Proofs.YtjjaknmnhhfjeaaGreatDoor

/- cell of the reference. -/
namespace Go.Proofs.YtjjaknmnhhfjeaaGreatDoor
open Go.RowKit Go.Hw Go
set_option linter.unusedVariables false
set_option linter.unusedSimpArgs false

open Tm
end Go.Proofs.YtjjaknmnhhfjeaaGreatDoor
