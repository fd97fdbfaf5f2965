/- The texts I83 Y5 Y6, one behind the other. -/
import Derived.Test.YtjjaknmnhhfjeaaGreatDoorKAN
import Derived.Test.YtjjaknmnhhfjeaaGreatDoorKAO
import Derived.Test.YtjjaknmnhhfjeaaGreatDoorKAG
import Derived.Lib.AppendIntMem
/- Sort, Valid, Vars of the reference. -/
namespace Go.Proofs.YtjjaknmnhhfjeaaGreatDoor
open Go.RowKit Go.Hw Go
set_option linter.unusedVariables false
set_option linter.unusedSimpArgs false

open Tm
def sortF (g : Sg) (t : Tm) : By × Int := if vsgB nmB g = false ∨ wf nmB t = false then (nul, 1) else if wrongF g t ≠ 0 then (nul, wrongF g t) else (ownF g t, 0)
end Go.Proofs.YtjjaknmnhhfjeaaGreatDoor

/- Sort and Valid of the program. -/
namespace Go.Proofs.YtjjaknmnhhfjeaaGreatDoor
open Go.RowKit Go.Hw Go
set_option linter.unusedVariables false
set_option linter.unusedSimpArgs false

open Go.Shelf Tm
attribute [local go_sem] Oper.semAt_some
theorem wrgL_snoc {g : Sg} {l : List Tm} {x : Tm} (h : wrgL g l = 0) : wrgL g (l ++ [x]) = ndE g x := by
  rw [wrgL_app, if_neg (fun h2 => h2 h), wrgL]
  by_cases h3 : ndE g x = 0
  · rw [if_neg (fun h4 => h4 h3), h3]; rfl
  · rw [if_pos h3]
theorem sbts_of {S : Nat → Prop} {w0 : World} {xs : List (NdS S w0)} {t : Tm} (h : xs.map NdS.pr = nodesD 1 t) : xs.map NdS.t = sbts t := by
  have h1 := congrArg (List.map (·.1)) h
  rw [List.map_map] at h1
  unfold sbts
  rw [nodesD_fst t 0 1, ← h1]
  rfl
theorem wrg_pre {g : Sg} {S : Nat → Prop} {w0 : World} {pre : List (NdS S w0)} {t : Tm} (h : pre.map NdS.pr <+: nodesD 1 t) (h2 : wrgL g (pre.map NdS.t) ≠ 0) : wrgT g t = wrgL g (pre.map NdS.t) := by
  obtain ⟨r, hr⟩ := h
  have h1 := congrArg (List.map (·.1)) hr
  rw [List.map_append, List.map_map] at h1
  unfold wrgT sbts
  rw [nodesD_fst t 0 1, ← h1, wrgL_app, if_pos (by exact h2)]
  rfl
theorem resOk_of {g : Sg} (h : vsgB nmB g = true) : ResOk g := by
  unfold vsgB at h
  rw [Bool.and_eq_true, Bool.and_eq_true, Bool.and_eq_true] at h
  obtain ⟨_, _, h1, h2⟩ := h
  have h3 := ((precP_iff nmB g.1).1 h1).2.1
  intro o ho e
  obtain ⟨j, hj, rfl⟩ := List.mem_iff_getElem.1 ho
  have h4 := List.all_eq_true.1 h2 j (List.mem_range.2 hj)
  unfold okD at h4
  rw [Bool.and_eq_true, Bool.and_eq_true, Bool.and_eq_true, Bool.and_eq_true] at h4
  have h5 := of_decide_eq_true h4.2.2.2.1
  rw [dg_at hj, e] at h5
  have h6 := h3 _ h5
  rw [nm_empty nul rfl] at h6
  cases h6
set_option maxRecDepth 100000 in
set_option maxHeartbeats 8000000 in
theorem psort_x (g : Sg) (t : Tm) (v u : Value) (S : Nat → Prop) (w : World) (hG : SgR S w g v) (hS : ∀ k, S k → k < w.heap.size) (hR : TmR (fun k => k < w.heap.size) w t u) (htab : AscT w) (hsz : (t.size : Int) ≤ 1000000000000) (hl1 : g.1.length ≤ 1000000) (hl2 : g.2.length ≤ 1000000) (hl3 : ∀ d ∈ g.2, d.2.1.length ≤ 1000000) :
    Calls Tryz.prog 30 #[v, u] w fun e w' => e = .returned (.tuple #[.string (sortF g t).1, .int .i64 (sortF g t).2]) ∧ Ext w w' := by
  have HVS := Lib.hid (fun W (hW : Ext w W) => pvsig_x g v S W (hG.ext hW) (asc_ext htab hW) hl1 hl2 hl3)
  have HWF := Lib.hid (fun W (hW : Ext w W) => wellFormed_x t u W (asc_ext htab hW) ((hR.ext hW).weaken (fun k hk => Nat.lt_of_lt_of_le hk hW.size)) hsz)
  have HWR := Lib.hid (fun (hr : ResOk g) x y T W (hW : Ext w W) (hx : TmR T W x y) => pwrong_x g x v y S T W (hG.ext hW) (fun k hk => Nat.lt_of_lt_of_le (hS k hk) hW.size) hx hr hl1 hl2 hl3)
  have HOW := Lib.hid (fun W (hW : Ext w W) => pown_x g t v u S _ W (hG.ext hW) (fun k hk => Nat.lt_of_lt_of_le (hS k hk) hW.size) (hR.ext hW) hl2)
  obtain ⟨sa, sc, oa, oc, rfl, _, _⟩ := hG
  obtain ⟨a, cap, rfl, hT⟩ := hR
  dsimp only [tV] at HVS HWF HWR HOW ⊢
  obtain ⟨V, hV⟩ : ∃ V, sortF g t = V := ⟨_, rfl⟩
  have HVV : Hid (V = if vsgB nmB g = false ∨ wf nmB t = false then (nul, 1) else if wrongF g t ≠ 0 then (nul, wrongF g t) else (ownF g t, 0)) := Lib.hid (by rw [← hV]; rfl)
  rw [hV]
  clear hV
  have hE3 : Ext w ((((w.alloc (.cells #[.slice sa g.1.length sc, .slice oa g.2.length oc] 42)).alloc (.cells #[.string t.name, .string t.sort, .slice a t.kids.length cap] 24)).alloc (.cells #[.string ⟨#[]⟩] 9)).alloc (.cells #[.int .i64 0] 28)) := ((((Upd.refl (fun _ => False) w).alloc _).alloc _).alloc _).alloc _
  have hs3 : ((((w.alloc (.cells #[.slice sa g.1.length sc, .slice oa g.2.length oc] 42)).alloc (.cells #[.string t.name, .string t.sort, .slice a t.kids.length cap] 24)).alloc (.cells #[.string ⟨#[]⟩] 9)).alloc (.cells #[.int .i64 0] 28)).heap.size = w.heap.size + 4 := by simp
  have hb0 : ((((w.alloc (.cells #[.slice sa g.1.length sc, .slice oa g.2.length oc] 42)).alloc (.cells #[.string t.name, .string t.sort, .slice a t.kids.length cap] 24)).alloc (.cells #[.string ⟨#[]⟩] 9)).alloc (.cells #[.int .i64 0] 28)).heap[w.heap.size]? = some (.cells #[.slice sa g.1.length sc, .slice oa g.2.length oc] 42 (0, 0)) := allocOld (allocOld (allocOld (alloc0 _ _) _) _) _
  have hb1 : ((((w.alloc (.cells #[.slice sa g.1.length sc, .slice oa g.2.length oc] 42)).alloc (.cells #[.string t.name, .string t.sort, .slice a t.kids.length cap] 24)).alloc (.cells #[.string ⟨#[]⟩] 9)).alloc (.cells #[.int .i64 0] 28)).heap[w.heap.size + 1]? = some (.cells #[.string t.name, .string t.sort, .slice a t.kids.length cap] 24 (0, 0)) := allocOld (allocOld (alloc_at _ _ (by simp)) _) _
  have hb23 : Boxed ((((w.alloc (.cells #[.slice sa g.1.length sc, .slice oa g.2.length oc] 42)).alloc (.cells #[.string t.name, .string t.sort, .slice a t.kids.length cap] 24)).alloc (.cells #[.string ⟨#[]⟩] 9)).alloc (.cells #[.int .i64 0] 28)) (w.heap.size + 1 + 1) 9 (.string ⟨#[]⟩) := allocOld (alloc_at _ _ (by simp)) _
  have hb33 : Boxed ((((w.alloc (.cells #[.slice sa g.1.length sc, .slice oa g.2.length oc] 42)).alloc (.cells #[.string t.name, .string t.sort, .slice a t.kids.length cap] 24)).alloc (.cells #[.string ⟨#[]⟩] 9)).alloc (.cells #[.int .i64 0] 28)) (w.heap.size + 1 + 1 + 1) 28 (.int .i64 0) := alloc_at _ _ (by simp)
  refine (callsIn_wide (n := 9)).1 ?_
  have hro : Fence.wide.round = none := rfl
  have hd : Fence.wide.depth = none := rfl
  have hf : ∀ k, Fence.wide.fn k := fun _ => trivial
  have h1 : 1 ≤ 9 := by omega
  refine callsIn_of_wp_marks Tryz.func30 rfl trivial ?_ hro
  have c0 := cellRow hb0 0 (.slice sa g.1.length sc) rfl
  have c1 := cellRow hb0 1 (.slice oa g.2.length oc) rfl
  have t0 := cellRow hb1 0 (.string t.name) rfl
  have t1 := cellRow hb1 1 (.string t.sort) rfl
  have t2 := cellRow hb1 2 (.slice a t.kids.length cap) rfl
  simp only [Tryz.ntmps30, List.size_toArray, List.length_cons, List.length_nil, Nat.reduceAdd, Nat.reduceSub, Array.replicate_succ, Array.replicate_zero, List.push_toArray, List.append_toArray, List.nil_append, List.cons_append]
  gi_wp2
  generalize ((((w.alloc (.cells #[.slice sa g.1.length sc, .slice oa g.2.length oc] 42)).alloc (.cells #[.string t.name, .string t.sort, .slice a t.kids.length cap] 24)).alloc (.cells #[.string ⟨#[]⟩] 9)).alloc (.cells #[.int .i64 0] 28)) = w3 at *
  generalize hB3 : w.heap.size + 1 + 1 + 1 = B3 at *
  generalize hB2 : w.heap.size + 1 + 1 = B2 at *
  generalize hB1 : w.heap.size + 1 = B1 at *
  generalize hB0 : w.heap.size = B0 at *
  refine (callsIn_wide.2 (HVS.out _ hE3)).mono ?_
  rintro e w4 ⟨rfl, hE4⟩
  have hb04 := hE4.heap hb0 (fun h => h)
  have hb14 := hE4.heap hb1 (fun h => h)
  have hb24 : Boxed w4 B2 9 (.string ⟨#[]⟩) := hE4.heap hb23 (fun h => h)
  have hb34 : Boxed w4 B3 28 (.int .i64 0) := hE4.heap hb33 (fun h => h)
  have hE := hE3.ext hE4
  have hsz4 := hE4.size
  clear c0 c1 t0 t1 t2
  have c0 := cellRow hb04 0 (.slice sa g.1.length sc) rfl
  have c1 := cellRow hb04 1 (.slice oa g.2.length oc) rfl
  have t0 := cellRow hb14 0 (.string t.name) rfl
  have t1 := cellRow hb14 1 (.string t.sort) rfl
  have t2 := cellRow hb14 2 (.slice a t.kids.length cap) rfl
  have r2 := hb24.cell
  have r3 := hb34.cell
  have s2 := hb24.frozen
  have s3 := hb34.frozen
  clear hE4 hE3 hb0 hb1 hb23 hb33
  cases hvs : vsgB nmB g
  · have HV : Hid (V = (nul, 1)) := Lib.hid (by rw [HVV.out, if_pos (.inl hvs)])
    gi_wp2
    have i2 : Boxed (w4.setCell ⟨B2, 0, none⟩ (.string ⟨#[]⟩)) B2 9 (.string ⟨#[]⟩) := setBlock hb24 0 _
    have i3 : Boxed (w4.setCell ⟨B2, 0, none⟩ (.string ⟨#[]⟩)) B3 28 (.int .i64 0) := Boxed.other hb34 (by omega) _
    have i2' : Boxed ((w4.setCell ⟨B2, 0, none⟩ (.string ⟨#[]⟩)).setCell ⟨B3, 0, none⟩ (.int .i64 1)) B2 9 (.string ⟨#[]⟩) := Boxed.other i2 (by omega) _
    have i3' : Boxed ((w4.setCell ⟨B2, 0, none⟩ (.string ⟨#[]⟩)).setCell ⟨B3, 0, none⟩ (.int .i64 1)) B3 28 (.int .i64 1) := setBlock i3 0 _
    have q2 := i2'.cell
    have q3 := i3'.cell
    exact ⟨.tuple #[.string ⟨#[]⟩, .int .i64 1], by simp [results, Tryz.f30, go_sem, q2, q3], by rw [HV.out]; rfl, (hE.setNew (show w.heap.size ≤ B2 by omega) _).setNew (show w.heap.size ≤ B3 by omega) _⟩
  gi_wp2
  refine (callsIn_wide.2 (HWF.out _ hE)).mono ?_
  rintro e w5 ⟨rfl, hE5⟩
  have hb05 := hE5.heap hb04 (fun h => h)
  have hb15 := hE5.heap hb14 (fun h => h)
  have hb25 : Boxed w5 B2 9 (.string ⟨#[]⟩) := hE5.heap hb24 (fun h => h)
  have hb35 : Boxed w5 B3 28 (.int .i64 0) := hE5.heap hb34 (fun h => h)
  have hEb := hE.ext hE5
  have hsz5 := hE5.size
  clear c0 c1 t0 t1 t2 r2 r3 s2 s3 hb04 hb14 hb24 hb34 hE hE5
  have c0 := cellRow hb05 0 (.slice sa g.1.length sc) rfl
  have c1 := cellRow hb05 1 (.slice oa g.2.length oc) rfl
  have t0 := cellRow hb15 0 (.string t.name) rfl
  have t1 := cellRow hb15 1 (.string t.sort) rfl
  have t2 := cellRow hb15 2 (.slice a t.kids.length cap) rfl
  have r2 := hb25.cell
  have r3 := hb35.cell
  have s2 := hb25.frozen
  have s3 := hb35.frozen
  cases hwf : wf nmB t
  · have HV : Hid (V = (nul, 1)) := Lib.hid (by rw [HVV.out, if_pos (.inr hwf)])
    gi_wp2
    have i2 : Boxed (w5.setCell ⟨B2, 0, none⟩ (.string ⟨#[]⟩)) B2 9 (.string ⟨#[]⟩) := setBlock hb25 0 _
    have i3 : Boxed (w5.setCell ⟨B2, 0, none⟩ (.string ⟨#[]⟩)) B3 28 (.int .i64 0) := Boxed.other hb35 (by omega) _
    have i2' : Boxed ((w5.setCell ⟨B2, 0, none⟩ (.string ⟨#[]⟩)).setCell ⟨B3, 0, none⟩ (.int .i64 1)) B2 9 (.string ⟨#[]⟩) := Boxed.other i2 (by omega) _
    have i3' : Boxed ((w5.setCell ⟨B2, 0, none⟩ (.string ⟨#[]⟩)).setCell ⟨B3, 0, none⟩ (.int .i64 1)) B3 28 (.int .i64 1) := setBlock i3 0 _
    have q2 := i2'.cell
    have q3 := i3'.cell
    exact ⟨.tuple #[.string ⟨#[]⟩, .int .i64 1], by simp [results, Tryz.f30, go_sem, q2, q3], by rw [HV.out]; rfl, (hEb.setNew (show w.heap.size ≤ B2 by omega) _).setNew (show w.heap.size ≤ B3 by omega) _⟩
  have HV2 : Hid (V = if wrongF g t ≠ 0 then (nul, wrongF g t) else (ownF g t, 0)) := Lib.hid (by rw [HVV.out, if_neg (by rw [hvs, hwf]; simp)])
  have hro2 := resOk_of hvs
  have HWQ := Lib.hid (wrg_eq g t (wf_nop hwf))
  gi_wp2
  refine (callsIn_wide.2 (nodes_x t (.slice a t.kids.length cap) w5 ⟨_, _, _, rfl⟩)).mono ?_
  rintro e w6 ⟨rfl, hE6, hs6, hb6, hv6⟩
  have hb06 := hE6.heap hb05 (fun h => h)
  have hb16 := hE6.heap hb15 (fun h => h)
  have hb26 : Boxed w6 B2 9 (.string ⟨#[]⟩) := hE6.heap hb25 (fun h => h)
  have hb36 : Boxed w6 B3 28 (.int .i64 0) := hE6.heap hb35 (fun h => h)
  have hEE := hEb.ext hE6
  have hZ0 := hb35.lt
  clear c0 c1 t0 t1 t2 r2 r3 s2 s3 hb05 hb15 hb25 hb35 hEb hE6
  obtain ⟨Z, hZ⟩ : ∃ Z, w5.heap.size = Z := ⟨_, rfl⟩
  rw [hZ] at hs6 hb6 hv6 hsz5 hZ0 ⊢
  gi_wp2
  refine wpIn_rangeFunc_ownH hro h1 (gf := 114) (lb := #[.pointer (some ⟨Z + 1, 0, none⟩), .pointer (some ⟨Z, 0, none⟩)]) rfl trivial (enters_of Tryz.func114 (by kernel_rfl) rfl)
    (nodes_stopsS Fence.wide hd (9 - 1) hf hro (Z + 1) Z (fun k => k = B2 ∨ k = B3) (fun k => k < B0) w6 (by omega) (by omega) (by omega) (by omega) t a cap (hB0 ▸ hT.ext hEE) hv6 hb6 (by omega)) (fun h k => KpG.trans h k) (fun W l o o' _ hl hc _ => KpG.putObj W l o o' hl hc) (Below.refl _ _) (fun _ => rfl)
    (fun pre W => (wrgL g (pre.map NdS.t) = 0 ∧ Boxed W B2 9 (.string ⟨#[]⟩)) ∧ (Boxed W B3 28 (.int .i64 0) ∧ Below B2 w6 W))
    (fun c pre W => ((c = .ret ∧ wrgL g (pre.map NdS.t) ≠ 0) ∧ Boxed W B2 9 (.string ⟨#[]⟩)) ∧ (Boxed W B3 28 (.int .i64 (wrgL g (pre.map NdS.t))) ∧ Below B2 w6 W))
    (OwnFrom.and (OwnFrom.and (ownFrom_pure _ _) (Own.from (boxed_own B2 9 (fun _ => Value.string ⟨#[]⟩)) _)) (OwnFrom.and (Own.from (boxed_own B3 28 (fun _ => Value.int .i64 0)) _) (ownFrom_below (by omega) (by omega))))
    (fun c => OwnFrom.and (OwnFrom.and (ownFrom_pure _ _) (Own.from (boxed_own B2 9 (fun _ => Value.string ⟨#[]⟩)) _)) (OwnFrom.and (Own.from (boxed_own B3 28 (fun pre : List (NdS (fun k => k < B0) w6) => Value.int .i64 (wrgL g (pre.map NdS.t)))) _) (ownFrom_below (by omega) (by omega))))
    ⟨⟨rfl, hb26⟩, hb36, Below.refl _ _⟩
    (fun x a' W => ∃ Bx, W.heap[Bx]? = some (.cells #[.string x.t.name, .string x.t.sort, .slice x.a x.t.kids.length x.cap] 24 (0, 0)) ∧ a' = { tmps := #[(.agg #[.slice sa g.1.length sc, .slice oa g.2.length oc]), (.agg #[.string t.name, .string t.sort, .slice a t.kids.length cap]), .pointer (some ⟨B0, 0, none⟩), .pointer (some ⟨B1, 0, none⟩), .pointer (some ⟨B2, 0, none⟩), .pointer (some ⟨B3, 0, none⟩), .pointer (some ⟨Bx, 0, none⟩), undef, undef, undef, (.agg #[.slice sa g.1.length sc, .slice oa g.2.length oc]), .bool true, .bool false, .bool false, (.agg #[.string t.name, .string t.sort, .slice a t.kids.length cap]), .bool true, .bool false, .bool false, (.agg #[.string t.name, .string t.sort, .slice a t.kids.length cap]), (.func (.func 114) #[] #[.pointer (some ⟨Z + 1, 0, none⟩), .pointer (some ⟨Z, 0, none⟩)]), (.agg #[.string x.t.name, .string x.t.sort, .slice x.a x.t.kids.length x.cap]), .int .i64 (x.d : Int), undef, undef, undef, undef, undef, undef, undef, undef, undef, undef, undef, undef, undef], defers := [] })
    (fun x a' _ X Y row hs hg hr => by
      obtain ⟨Bx, e2, e3⟩ := hs
      refine ⟨Bx, (Upd.of_grown hg).heap e2 (fun e => ?_), e3⟩
      obtain ⟨o, ho, hc⟩ := (hr Bx e.symm).2
      rw [e2] at ho
      cases ho
      cases hc) ?assign ?body ?done ?stop
  case assign =>
    rintro l pre x W K ⟨⟨i0, i1⟩, i2, i3⟩ hK
    dsimp only [NdS.encs, tV]
    have hbx := alloc0 W (.cells #[.string x.t.name, .string x.t.sort, .slice x.a x.t.kids.length x.cap] 24)
    gi_wp2
    exact hK _ _ (keeps_ext _ ((Upd.refl _ W).alloc _)) (KpG.of_ext ((Upd.refl _ W).alloc _)) ⟨⟨i0, i1.alloc _⟩, i2.alloc _, i3.alloc (by have := i3.size; omega) _⟩ ⟨W.heap.size, hbx, rfl⟩
  case body =>
    rintro l pre x a' W hl hrec ⟨⟨i0, i1⟩, i2, i3⟩ ⟨Bx, hbx, rfl⟩ hlt
    have hEW : Ext w W := below_ext (n := B0) ((hB0 ▸ Ext.below hEE).trans (i3.mono (by omega))) (by omega)
    have hUW : Upd (fun k => B2 ≤ k) w6 W := ⟨i3.os, i3.tape, i3.output, i3.size, fun k hk hf => i3.block k (by omega)⟩
    have hb0W := hUW.heap hb06 (by omega)
    have x0 := cellRow hbx 0 (.string x.t.name) rfl
    have x1 := cellRow hbx 1 (.string x.t.sort) rfl
    have x2 := cellRow hbx 2 (.slice x.a x.t.kids.length x.cap) rfl
    have c0 := cellRow hb0W 0 (.slice sa g.1.length sc) rfl
    have c1 := cellRow hb0W 1 (.slice oa g.2.length oc) rfl
    have HN := Lib.hid (HWR.out hro2 x.t (tV x.t (.slice x.a x.t.kids.length x.cap)) (fun k => k < B0) W hEW ⟨x.a, x.cap, rfl, x.ok.kept hUW (fun k hk e => by omega)⟩)
    have HSN := Lib.hid (wrgL_snoc (x := x.t) i0)
    have HI0 := Lib.hid i0
    dsimp only [tV] at HN
    clear hrec i0
    obtain ⟨E, hE⟩ : ∃ E, ndE g x.t = E := ⟨_, rfl⟩
    rw [hE] at HN HSN
    clear hE
    gi_wp2
    refine (CallsIn.inRound l (callsIn_wide.2 HN.out)).mono ?_
    rintro e W2 ⟨rfl, hW2⟩
    have j1 : Boxed W2 B2 9 (.string ⟨#[]⟩) := hW2.heap i1 (fun h => h)
    have j2 : Boxed W2 B3 28 (.int .i64 0) := hW2.heap i2 (fun h => h)
    have j3 : Below B2 w6 W2 := i3.trans ⟨hW2.os, hW2.tape, hW2.output, hW2.size, fun k hk => hW2.block k (by have := i3.size; omega) (fun h => h)⟩
    clear x0 x1 x2 c0 c1 HN
    have hmap : (pre ++ [x]).map NdS.t = pre.map NdS.t ++ [x.t] := by rw [List.map_append]; rfl
    by_cases he : E = 0
    · have y1 : (E == 0) = true := by rw [he]; rfl
      have y2 : (E != 0) = false := by rw [he]; rfl
      have HSN2 : Hid (wrgL g ((pre ++ [x]).map NdS.t) = 0) := Lib.hid (by rw [hmap, HSN.out, he])
      clear he HSN
      gi_wp2
      exact ⟨keeps_ext _ hW2, KpG.of_ext hW2, ⟨HSN2.out, j1⟩, j2, j3⟩
    · have y1 : (E == 0) = false := beq_eq_false_iff_ne.2 he
      have y2 : (E != 0) = true := bne_iff_ne.2 he
      have HSN2 : Hid (wrgL g ((pre ++ [x]).map NdS.t) = E) := Lib.hid (by rw [hmap, HSN.out])
      have HNE := Lib.hid he
      have r2 := j1.cell
      have r3 := j2.cell
      have s2 := j1.frozen
      have s3 := j2.frozen
      clear he HSN
      gi_wp2
      have st := ((Upd.refl (fun k => k = B2 ∨ k = B3) W2).setCell (p := ⟨B2, 0, none⟩) (.inl (.inl rfl)) (.string ⟨#[]⟩)).setCell (p := ⟨B3, 0, none⟩) (.inl (.inr rfl)) (.int .i64 E)
      have u1 : Boxed (W2.setCell ⟨B2, 0, none⟩ (.string ⟨#[]⟩)) B2 9 (.string ⟨#[]⟩) := setBlock j1 0 _
      have u2 : Boxed (W2.setCell ⟨B2, 0, none⟩ (.string ⟨#[]⟩)) B3 28 (.int .i64 0) := Boxed.other j2 (by omega) _
      refine ⟨(keeps_ext _ hW2).trans (keeps_upd _ st (fun k o e ho => ?_)), ⟨⟨rfl, by rw [HSN2.out]; exact HNE.out⟩, Boxed.other u1 (by omega) _⟩, by rw [HSN2.out]; exact setBlock u2 0 _, (j3.setCell (p := ⟨B2, 0, none⟩) (Nat.le_refl _) _).setCell (p := ⟨B3, 0, none⟩) (by show B2 ≤ B3; omega) _⟩
      rcases e with e | e
      · subst e; rw [show W2.heap[k]? = _ from j1] at ho; cases ho; rfl
      · subst e; rw [show W2.heap[k]? = _ from j2] at ho; cases ho; rfl
  case done =>
    rintro D xs W hD hS' ⟨⟨i0, i1⟩, i2, i3⟩ hK
    have hEW : Ext w W := below_ext (n := B0) ((hB0 ▸ Ext.below hEE).trans (i3.mono (by omega))) (by omega)
    have hUW : Upd (fun k => B2 ≤ k) w6 W := ⟨i3.os, i3.tape, i3.output, i3.size, fun k hk hf => i3.block k (by omega)⟩
    have hb0W := hUW.heap hb06 (by omega)
    have hb1W := hUW.heap hb16 (by omega)
    have c0 := cellRow hb0W 0 (.slice sa g.1.length sc) rfl
    have c1 := cellRow hb0W 1 (.slice oa g.2.length oc) rfl
    have t0 := cellRow hb1W 0 (.string t.name) rfl
    have t1 := cellRow hb1W 1 (.string t.sort) rfl
    have t2 := cellRow hb1W 2 (.slice a t.kids.length cap) rfl
    have hw0 : wrongF g t = 0 := by rw [← HWQ.out]; unfold wrgT; rw [← sbts_of hS']; exact i0
    have HV : Hid (V = (ownF g t, 0)) := Lib.hid (by rw [HV2.out, if_neg (fun h => h hw0)])
    have HO := Lib.hid (HOW.out W hEW)
    rw [ownP_fst] at HO
    clear hw0 i0 hS'
    gi_wp2
    refine (callsIn_wide.2 HO.out).mono ?_
    rintro e W2 ⟨rfl, hW2⟩
    have j1 : Boxed W2 B2 9 (.string ⟨#[]⟩) := hW2.heap i1 (fun h => h)
    have j2 : Boxed W2 B3 28 (.int .i64 0) := hW2.heap i2 (fun h => h)
    have hK2 := hW2.heap hK (fun h => h)
    have hE2 := hEW.trans hW2
    have r2 := j1.cell
    have r3 := j2.cell
    have s2 := j1.frozen
    have s3 := j2.frozen
    obtain ⟨o1, ho1⟩ : ∃ o, ownF g t = o := ⟨_, rfl⟩
    rw [ho1] at HV ⊢
    clear c0 c1 t0 t1 t2 HO ho1
    gi_wp2
    have st := ((Upd.refl (fun k => k = B2 ∨ k = B3) W2).setCell (p := ⟨B2, 0, none⟩) (.inl (.inl rfl)) (.string o1)).setCell (p := ⟨B3, 0, none⟩) (.inl (.inr rfl)) (.int .i64 0)
    have hK' := (keeps_upd 0 st (fun k o e ho => by
      rcases e with e | e
      · subst e; rw [show W2.heap[k]? = _ from j1] at ho; cases ho; rfl
      · subst e; rw [show W2.heap[k]? = _ from j2] at ho; cases ho; rfl)).same D _ (Nat.zero_le _) hK2 rfl
    have u1 : Boxed (W2.setCell ⟨B2, 0, none⟩ (.string o1)) B2 9 (.string o1) := setBlock j1 0 _
    have u2 : Boxed (W2.setCell ⟨B2, 0, none⟩ (.string o1)) B3 28 (.int .i64 0) := Boxed.other j2 (by omega) _
    have u3 : Boxed ((W2.setCell ⟨B2, 0, none⟩ (.string o1)).setCell ⟨B3, 0, none⟩ (.int .i64 0)) B2 9 (.string o1) := Boxed.other u1 (by omega) _
    have u4 : Boxed ((W2.setCell ⟨B2, 0, none⟩ (.string o1)).setCell ⟨B3, 0, none⟩ (.int .i64 0)) B3 28 (.int .i64 0) := setBlock u2 0 _
    refine ⟨by simp, .inl ⟨_, _, rfl, run_takeDeferred hK', ?_⟩⟩
    have hc2 := cell_kept u3.cell (grownBy_putObj' _ D (.deferred none)) (fun r e => by cases e; exact ⟨_, hK', rfl⟩)
    have hc3 := cell_kept u4.cell (grownBy_putObj' _ D (.deferred none)) (fun r e => by cases e; exact ⟨_, hK', rfl⟩)
    refine ⟨.tuple #[.string o1, .int .i64 0], by simp [results, Tryz.f30, go_sem, hc2, hc3], by rw [HV.out], ?_⟩
    have hEX : Ext w ((W2.setCell ⟨B2, 0, none⟩ (.string o1)).setCell ⟨B3, 0, none⟩ (.int .i64 0)) := (hE2.setNew (show w.heap.size ≤ B2 by omega) _).setNew (show w.heap.size ≤ B3 by omega) _
    exact hEX.trans' (Upd.of_grown (grownBy_putObj' _ D (.deferred none))) (fun i hi e => by cases e; omega)
  case stop =>
    rintro D c pre W hD hSp ⟨⟨⟨rfl, hbad⟩, i1⟩, i2, i3⟩ hK
    have hEW : Ext w W := below_ext (n := B0) ((hB0 ▸ Ext.below hEE).trans (i3.mono (by omega))) (by omega)
    have hwr := wrg_pre hSp hbad
    rw [HWQ.out] at hwr
    have HV : Hid (V = (nul, wrgL g (pre.map NdS.t))) := Lib.hid (by rw [HV2.out, hwr, if_pos hbad])
    generalize wrgL g (pre.map NdS.t) = E at *
    clear hwr hbad hSp
    gi_wp2
    refine ⟨by simp, .inl ⟨_, _, rfl, run_takeDeferred hK, ?_⟩⟩
    have hc2 := cell_kept i1.cell (grownBy_putObj' _ D (.deferred none)) (fun r e => by cases e; exact ⟨_, hK, rfl⟩)
    have hc3 := cell_kept i2.cell (grownBy_putObj' _ D (.deferred none)) (fun r e => by cases e; exact ⟨_, hK, rfl⟩)
    refine ⟨.tuple #[.string ⟨#[]⟩, .int .i64 E], by simp [results, Tryz.f30, go_sem, hc2, hc3], by rw [HV.out]; rfl, ?_⟩
    exact hEW.trans' (Upd.of_grown (grownBy_putObj' _ D (.deferred none))) (fun i hi e => by cases e; omega)
end Go.Proofs.YtjjaknmnhhfjeaaGreatDoor

/- A Builder of the call's own; numbers. -/
namespace Go.Proofs.YtjjaknmnhhfjeaaGreatDoor
open Go.RowKit Go.Hw Go
set_option linter.unusedVariables false
set_option linter.unusedSimpArgs false

open Tm
def bs (l : List UInt8) : ByteArray := ⟨l.toArray⟩
theorem bs_size (l : List UInt8) : (bs l).size = l.length := by simp [bs, ByteArray.size]
theorem bs_app (a b : List UInt8) : bs a ++ bs b = bs (a ++ b) := by
  apply ByteArray.ext
  simp [bs, ByteArray.data_append]
theorem bs_data (l : List UInt8) : (bs l).data.toList = l := by simp [bs]
theorem bs_of (s : ByteArray) : bs s.data.toList = s := by cases s; simp [bs]
theorem bs_nil : bs [] = ⟨#[]⟩ := rfl
theorem below_tr {a b c : World} (h : Ext a b) (k : Below a.heap.size b c) : Ext a c :=
  ⟨k.os.trans h.os, k.tape.trans h.tape, k.output.trans h.output, Nat.le_trans h.size k.size, fun i hi _ => (k.block i hi).trans (h.block i hi (fun x => x))⟩
/-! ### a Builder of the call's own -/
def BdR (B b : Nat) (l : List UInt8) (w : World) : Prop := Lib.IsBuilder 120 5 B b (Lib.byteCells l) w
theorem BdR.new (B : Nat) (w : World) (h : B ≤ w.heap.size) : BdR B w.heap.size [] (w.alloc (.cells #[.pointer none, .slice none 0 0] 120)) :=
  Or.inl ⟨h, .slice none 0 0, alloc0 w _, World.ownsRow_nil _ _ _ _, by simp [Value.ownBlock]⟩
theorem BdR.at_ext {B b : Nat} {p : Value} {l : List Value} {w w' : World} (h : Lib.BuilderAt 120 5 B b p l w) (hb : Ext w w') : Lib.BuilderAt 120 5 B b p l w' := by
  obtain ⟨h1, v, h2, h3, h4⟩ := h
  exact ⟨h1, v, hb.heap h2 (fun h => h), own_kept h3 hb (fun _ _ h => h), h4⟩
theorem BdR.ext {B b : Nat} {l : List UInt8} {w w' : World} (h : BdR B b l w) (hb : Ext w w') : BdR B b l w' := by
  rcases h with h | h
  · exact Or.inl (BdR.at_ext h hb)
  · exact Or.inr (BdR.at_ext h hb)
theorem infoU8 : (Tryz.prog.info? 5).map (fun i => (i.zero, i.size, i.bytes)) = some (some (.int .u8 0), 1, 1) := by kernel_rfl
theorem infoBd : (Tryz.prog.info? 120).map (·.size) = some 2 := by kernel_rfl
set_option maxRecDepth 100000 in
set_option maxHeartbeats 1000000 in
theorem ccheck_x (B b : Nat) (bs : List Value) (w : World) (h : Lib.IsBuilder 120 5 B b bs w) :
    Calls Tryz.prog 107 #[.pointer (some ⟨b, 0, none⟩)] w fun e w' => e = .returned (.tuple #[]) ∧ Lib.BuilderAt 120 5 B b (.pointer (some ⟨b, 0, none⟩)) bs w' ∧ Below B w w' := by
  obtain ⟨j, hj, hjs⟩ := Option.map_eq_some_iff.1 infoBd
  have HH := Lib.hid h
  rcases h with h | h
  · have c0 := h.cell0
    have f0 := h.frozen0
    have HS := Lib.hid h.shape
    have hcv := Lib.run_to_unsafe (P := Tryz.prog) w ⟨b, 0, none⟩ Tryz.underlying117 Tryz.underlying181 hj (by rw [hjs]; decide) HS.out (Nat.zero_lt_succ 1)
    have HX := Lib.hid h
    clear h
    go_enter Tryz.func107, Tryz.ntmps107
    go_wp2_with fail
    rw [run_callFunc_extern Tryz.func131 (by kernel_rfl) (by kernel_rfl) (by kernel_rfl) (e := Extern.AbiNoEscape.same) (by kernel_rfl), Lib.run_noEscape]
    simp only [Result.andThen]
    rw [Oper.upon_value]
    go_wp2_with fail
    rw [Lib.run_from_unsafe (P := Tryz.prog) w ⟨b, 0, none⟩ Tryz.underlying181 Tryz.underlying117 hj HS.out (by kernel_rfl)]
    simp only [Result.andThen]
    rw [Oper.upon_value]
    go_wp2_with fail
    go_end0
    exact ⟨rfl, HX.out.used _, (Below.refl B w).setCell (p := ⟨b, 0, none⟩) HX.out.1 _⟩
  · have c0 := h.cell0
    have hq := Lib.run_neq_ptr_same (P := Tryz.prog) w ⟨b, 0, none⟩ Tryz.underlying117 hj
    have HX := Lib.hid h
    clear h
    go_enter Tryz.func107, Tryz.ntmps107
    go_wp2_with fail
    go_end0
    exact ⟨rfl, HX.out, Below.refl B _⟩
set_option maxHeartbeats 1000000 in
theorem write_x (B b : Nat) (l m : List UInt8) (w : World) (h : BdR B b l w) (hlen : l.length + m.length ≤ 140737488355328) (hB : B ≤ w.heap.size) :
    Calls Tryz.prog 69 #[.pointer (some ⟨b, 0, none⟩), .string (bs m)] w fun e w' => e = .returned (.tuple #[.int .i64 m.length, .nilIface]) ∧ BdR B b (l ++ m) w' ∧ Below B w w' := by
  obtain ⟨i0, hi, hz0, hz1, hz2⟩ := info_parts infoU8
  have H0 := Lib.hid h
  clear h
  have hsz := bs_size m
  generalize hm : bs m = s at *
  have HM := Lib.hid hm
  clear hm
  go_enter Tryz.func69, Tryz.ntmps69
  go_wp2_with fail
  refine (ccheck_x B b _ _ H0.out).mono ?_
  rintro e w1 ⟨rfl, h1, hb1⟩
  obtain ⟨hB1, v, hbk, hown, hne⟩ := h1
  have HOWN := Lib.hid hown
  obtain ⟨va, vc, hvs⟩ := own_shape hown
  clear hown
  subst hvs
  have c0 := cellRow hbk 0 _ rfl
  have c1 := cellRow hbk 1 _ rfl
  have HBK := Lib.hid hbk
  have HNE := Lib.hid hne
  clear hbk hne
  go_wp2_with (at_builtin; refine Lib.wpList_append_own_string _ rfl _ _ 118 9 rfl B 5 i0 Tryz.underlying118 Tryz.underlying9 hi hz0 hz1 hz2 _ _ _ rfl HOWN.out s rfl ?c3 ?c4 ?c5 ?_)
  case c3 => rw [Lib.byteCells_length]; unfold maxLen; omega
  case c4 => rw [Lib.byteCells_length]; omega
  case c5 => have := hb1.size; omega
  intro v' w2 hown' hgrow _
  have hlt : b < w1.heap.size := (Array.getElem?_eq_some_iff.1 HBK.out).1
  have hb2 : w2.heap[b]? = some (.cells #[.pointer (some ⟨b, 0, none⟩), .slice va (Lib.byteCells l).length vc] 120 (0, 0)) := by
    rw [hgrow.block b hlt (fun e => HNE.out e.symm)]
    exact HBK.out
  have HB2 := Lib.hid hb2
  have d1 := cellRow hb2 1 _ rfl
  have f1 := frozenRow hb2 1
  have HO := Lib.hid hown'
  obtain ⟨xa, xc, hxs⟩ := own_shape hown'
  subst hxs
  have HG := Lib.hid hgrow
  clear hown' hb2 hgrow c0 c1
  go_wp2_with fail
  go_ret2
  refine ⟨rfl, Or.inr ?_, ?_⟩
  · have h8 := HO.out
    rw [← HM.out, Lib.strCells_eq, bs_data] at h8
    refine Lib.BuilderAt.put (T := 120) (e := 5) hB1 HB2.out (bs' := Lib.byteCells (l ++ m)) ?_ (by decide)
    rw [show Lib.byteCells (l ++ m) = Lib.byteCells l ++ Lib.byteCells m by simp [Lib.byteCells]]
    rw [List.length_append, Lib.byteCells_length m]
    exact h8
  · exact (hb1.grown HG.out (by have := hb1.size; omega) (fun k hk => (HOWN.out.lt k hk).1)).setCell (p := ⟨b, 1, none⟩) hB1 _
theorem bstr_x (B b : Nat) (l : List UInt8) (w : World) (h : BdR B b l w) (hB : B ≤ w.heap.size) :
    Calls Tryz.prog 72 #[.pointer (some ⟨b, 0, none⟩)] w fun e w' => e = .returned (.string (bs l)) ∧ Below B w w' :=
  Tryz.Builder_String_any B b l w h hB

/-! ### numbers -/
def numG : Sg := ([⟨#[110, 97, 116]⟩], [(⟨#[122, 101, 114, 111]⟩, [], ⟨#[110, 97, 116]⟩), (⟨#[115]⟩, [⟨#[110, 97, 116]⟩], ⟨#[110, 97, 116]⟩)])
set_option maxRecDepth 100000 in
set_option maxHeartbeats 2000000 in
theorem numbers_x (w : World) : Calls Tryz.prog 44 #[] w fun e w' => ∃ v, e = .returned v ∧ SgR (fun k => w.heap.size ≤ k ∧ k < w'.heap.size) w' numG v ∧ Ext w w' := by
  have HE := Lib.hid (((((Upd.refl (fun _ => False) w).alloc (.cells #[.slice (some ⟨w.heap.size + 1, 0, none⟩) 1 1, .slice (some ⟨w.heap.size + 1 + 1 + 1, 0, none⟩) 2 2] 42)).alloc (.cells #[.string ⟨#[110, 97, 116]⟩] 9)).alloc (.cells #[.string ⟨#[110, 97, 116]⟩] 9)).alloc (.cells #[.string ⟨#[122, 101, 114, 111]⟩, .slice none 0 0, .string ⟨#[110, 97, 116]⟩, .string ⟨#[115]⟩, .slice (some ⟨w.heap.size + 1 + 1, 0, none⟩) 1 1, .string ⟨#[110, 97, 116]⟩] 96))
  have HB0 := Lib.hid (allocOld (allocOld (allocOld (alloc0 w (.cells #[.slice (some ⟨w.heap.size + 1, 0, none⟩) 1 1, .slice (some ⟨w.heap.size + 1 + 1 + 1, 0, none⟩) 2 2] 42)) (.cells #[.string ⟨#[110, 97, 116]⟩] 9)) (.cells #[.string ⟨#[110, 97, 116]⟩] 9)) (.cells #[.string ⟨#[122, 101, 114, 111]⟩, .slice none 0 0, .string ⟨#[110, 97, 116]⟩, .string ⟨#[115]⟩, .slice (some ⟨w.heap.size + 1 + 1, 0, none⟩) 1 1, .string ⟨#[110, 97, 116]⟩] 96))
  have HB1 := Lib.hid (allocOld (allocOld (alloc_at (w.alloc (.cells #[.slice (some ⟨w.heap.size + 1, 0, none⟩) 1 1, .slice (some ⟨w.heap.size + 1 + 1 + 1, 0, none⟩) 2 2] 42)) (.cells #[.string ⟨#[110, 97, 116]⟩] 9) (n := w.heap.size + 1) (by simp)) (.cells #[.string ⟨#[110, 97, 116]⟩] 9)) (.cells #[.string ⟨#[122, 101, 114, 111]⟩, .slice none 0 0, .string ⟨#[110, 97, 116]⟩, .string ⟨#[115]⟩, .slice (some ⟨w.heap.size + 1 + 1, 0, none⟩) 1 1, .string ⟨#[110, 97, 116]⟩] 96))
  have HB2 := Lib.hid (allocOld (alloc_at ((w.alloc (.cells #[.slice (some ⟨w.heap.size + 1, 0, none⟩) 1 1, .slice (some ⟨w.heap.size + 1 + 1 + 1, 0, none⟩) 2 2] 42)).alloc (.cells #[.string ⟨#[110, 97, 116]⟩] 9)) (.cells #[.string ⟨#[110, 97, 116]⟩] 9) (n := w.heap.size + 1 + 1) (by simp)) (.cells #[.string ⟨#[122, 101, 114, 111]⟩, .slice none 0 0, .string ⟨#[110, 97, 116]⟩, .string ⟨#[115]⟩, .slice (some ⟨w.heap.size + 1 + 1, 0, none⟩) 1 1, .string ⟨#[110, 97, 116]⟩] 96))
  have HB3 := Lib.hid (alloc_at (((w.alloc (.cells #[.slice (some ⟨w.heap.size + 1, 0, none⟩) 1 1, .slice (some ⟨w.heap.size + 1 + 1 + 1, 0, none⟩) 2 2] 42)).alloc (.cells #[.string ⟨#[110, 97, 116]⟩] 9)).alloc (.cells #[.string ⟨#[110, 97, 116]⟩] 9)) (.cells #[.string ⟨#[122, 101, 114, 111]⟩, .slice none 0 0, .string ⟨#[110, 97, 116]⟩, .string ⟨#[115]⟩, .slice (some ⟨w.heap.size + 1 + 1, 0, none⟩) 1 1, .string ⟨#[110, 97, 116]⟩] 96) (n := w.heap.size + 1 + 1 + 1) (by simp))
  have HSZ : Hid (((((w.alloc (.cells #[.slice (some ⟨w.heap.size + 1, 0, none⟩) 1 1, .slice (some ⟨w.heap.size + 1 + 1 + 1, 0, none⟩) 2 2] 42)).alloc (.cells #[.string ⟨#[110, 97, 116]⟩] 9)).alloc (.cells #[.string ⟨#[110, 97, 116]⟩] 9)).alloc (.cells #[.string ⟨#[122, 101, 114, 111]⟩, .slice none 0 0, .string ⟨#[110, 97, 116]⟩, .string ⟨#[115]⟩, .slice (some ⟨w.heap.size + 1 + 1, 0, none⟩) 1 1, .string ⟨#[110, 97, 116]⟩] 96)).heap.size = w.heap.size + 4) := Lib.hid (by simp)
  have e0 := cellRow HB0.out 0 _ rfl
  have e1 := cellRow HB0.out 1 _ rfl
  go_enter Tryz.func44, Tryz.ntmps44
  go_wp2_with fail
  generalize ((((w.alloc (.cells #[.slice (some ⟨w.heap.size + 1, 0, none⟩) 1 1, .slice (some ⟨w.heap.size + 1 + 1 + 1, 0, none⟩) 2 2] 42)).alloc (.cells #[.string ⟨#[110, 97, 116]⟩] 9)).alloc (.cells #[.string ⟨#[110, 97, 116]⟩] 9)).alloc (.cells #[.string ⟨#[122, 101, 114, 111]⟩, .slice none 0 0, .string ⟨#[110, 97, 116]⟩, .string ⟨#[115]⟩, .slice (some ⟨w.heap.size + 1 + 1, 0, none⟩) 1 1, .string ⟨#[110, 97, 116]⟩] 96)) = w1 at *
  refine bodyPost_ret (v := .agg #[.slice (some ⟨w.heap.size + 1, 0, none⟩) 1 1, .slice (some ⟨w.heap.size + 1 + 1 + 1, 0, none⟩) 2 2]) (by simp [results, Tryz.results44, go_sem, e0, e1]) rfl ?_
  have hb1 := HB1.out
  have hb2 := HB2.out
  have hb3 := HB3.out
  have hsz1 := HSZ.out
  refine ⟨_, rfl, ⟨some ⟨w.heap.size + 1, 0, none⟩, 1, some ⟨w.heap.size + 1 + 1 + 1, 0, none⟩, 2, rfl, ?_, ?_⟩, HE.out⟩
  · refine SlR.mk' rfl rfl (by decide) (fun _ => ⟨by omega, by omega⟩) (fun j hj => ?_)
    have hj0 : j = 0 := by have : numG.1.length = 1 := rfl; omega
    subst hj0
    exact cellRow hb1 0 _ rfl
  · refine ⟨[.slice none 0 0, .slice (some ⟨w.heap.size + 1 + 1, 0, none⟩) 1 1], SlR.mk' rfl rfl (by decide) (fun _ => ⟨by omega, by omega⟩) (fun j hj => ?_), fun i hi => ?_⟩
    · have hj6 : j < 6 := hj
      rcases j with _ | _ | _ | _ | _ | _ | j
      · exact cellRow hb3 0 _ rfl
      · exact cellRow hb3 1 _ rfl
      · exact cellRow hb3 2 _ rfl
      · exact cellRow hb3 3 _ rfl
      · exact cellRow hb3 4 _ rfl
      · exact cellRow hb3 5 _ rfl
      · omega
    · have hi2 : i < 2 := hi
      rcases i with _ | _ | i
      · exact SlR.nil _ _ _
      · refine SlR.mk' (g := w.heap.size + 1 + 1) (off := 0) (cap := 1) rfl rfl (by decide) (fun _ => ⟨by omega, by omega⟩) (fun j hj => ?_)
        have hj0 : j = 0 := by have : (dg numG.2 (0 + 1)).2.1.length = 1 := rfl; omega
        subst hj0
        exact cellRow hb2 0 _ rfl
      · omega

end Go.Proofs.YtjjaknmnhhfjeaaGreatDoor
