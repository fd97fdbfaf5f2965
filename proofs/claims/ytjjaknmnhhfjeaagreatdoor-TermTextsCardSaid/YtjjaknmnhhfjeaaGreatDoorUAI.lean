/- The texts Y5 Y6 Y7 Y8 Y9, one behind the other. -/
import Derived.Test.YtjjaknmnhhfjeaaGreatDoorUAH
import Derived.Test.YtjjaknmnhhfjeaaGreatDoorUAE
import Derived.Lib.AppendIntMem
import Derived.Test.YtjjaknmnhhfjeaaGreatDoorUAC
import Derived.Test.YtjjaknmnhhfjeaaGreatDoorUAD
/- Sort and Valid of the program. -/
namespace Go.Proofs.YtjjaknmnhhfjeaaGreatDoor
open Go.RowKit Go.Hw Go
set_option linter.unusedVariables false
set_option linter.unusedSimpArgs false

open Go.Shelf Tm
attribute [local go_sem] Oper.semAt_some
theorem wrgL_snoc {g : Sg} {l : List Tm} {x : Tm} (h : wrgL g l = 0) : wrgL g (l ++ [x]) = ndE g x := by
  rw [wrgL_app, if_neg (fun h2 => h2 h), wrgL]
  by_cases h3 : ndE g x = 0
  · rw [if_neg (fun h4 => h4 h3), h3]; rfl
  · rw [if_pos h3]
theorem sbts_of {S : Nat → Prop} {w0 : World} {xs : List (NdS S w0)} {t : Tm} (h : xs.map NdS.pr = nodesD 1 t) : xs.map NdS.t = sbts t := by
  have h1 := congrArg (List.map (·.1)) h
  rw [List.map_map] at h1
  unfold sbts
  rw [nodesD_fst t 0 1, ← h1]
  rfl
theorem wrg_pre {g : Sg} {S : Nat → Prop} {w0 : World} {pre : List (NdS S w0)} {t : Tm} (h : pre.map NdS.pr <+: nodesD 1 t) (h2 : wrgL g (pre.map NdS.t) ≠ 0) : wrgT g t = wrgL g (pre.map NdS.t) := by
  obtain ⟨r, hr⟩ := h
  have h1 := congrArg (List.map (·.1)) hr
  rw [List.map_append, List.map_map] at h1
  unfold wrgT sbts
  rw [nodesD_fst t 0 1, ← h1, wrgL_app, if_pos (by exact h2)]
  rfl
theorem resOk_of {g : Sg} (h : vsgB nmB g = true) : ResOk g := by
  unfold vsgB at h
  rw [Bool.and_eq_true, Bool.and_eq_true, Bool.and_eq_true] at h
  obtain ⟨_, _, h1, h2⟩ := h
  have h3 := ((precP_iff nmB g.1).1 h1).2.1
  intro o ho e
  obtain ⟨j, hj, rfl⟩ := List.mem_iff_getElem.1 ho
  have h4 := List.all_eq_true.1 h2 j (List.mem_range.2 hj)
  unfold okD at h4
  rw [Bool.and_eq_true, Bool.and_eq_true, Bool.and_eq_true, Bool.and_eq_true] at h4
  have h5 := of_decide_eq_true h4.2.2.2.1
  rw [dg_at hj, e] at h5
  have h6 := h3 _ h5
  rw [nm_empty nul rfl] at h6
  cases h6
set_option maxRecDepth 100000 in
set_option maxHeartbeats 8000000 in
theorem psort_x (g : Sg) (t : Tm) (v u : Value) (S : Nat → Prop) (w : World) (hG : SgR S w g v) (hS : ∀ k, S k → k < w.heap.size) (hR : TmR (fun k => k < w.heap.size) w t u) (htab : AscT w) (hsz : (t.size : Int) ≤ 1000000000000) (hl1 : g.1.length ≤ 1000000) (hl2 : g.2.length ≤ 1000000) (hl3 : ∀ d ∈ g.2, d.2.1.length ≤ 1000000) :
    Calls Tryz.prog 30 #[v, u] w fun e w' => e = .returned (.tuple #[.string (sortF g t).1, .int .i64 (sortF g t).2]) ∧ Ext w w' := by
  have HVS := Lib.hid (fun W (hW : Ext w W) => pvsig_x g v S W (hG.ext hW) (asc_ext htab hW) hl1 hl2 hl3)
  have HWF := Lib.hid (fun W (hW : Ext w W) => wellFormed_x t u W (asc_ext htab hW) ((hR.ext hW).weaken (fun k hk => Nat.lt_of_lt_of_le hk hW.size)) hsz)
  have HWR := Lib.hid (fun (hr : ResOk g) x y T W (hW : Ext w W) (hx : TmR T W x y) => pwrong_x g x v y S T W (hG.ext hW) (fun k hk => Nat.lt_of_lt_of_le (hS k hk) hW.size) hx hr hl1 hl2 hl3)
  have HOW := Lib.hid (fun W (hW : Ext w W) => pown_x g t v u S _ W (hG.ext hW) (fun k hk => Nat.lt_of_lt_of_le (hS k hk) hW.size) (hR.ext hW) hl2)
  obtain ⟨sa, sc, oa, oc, rfl, _, _⟩ := hG
  obtain ⟨a, cap, rfl, hT⟩ := hR
  dsimp only [tV] at HVS HWF HWR HOW ⊢
  obtain ⟨V, hV⟩ : ∃ V, sortF g t = V := ⟨_, rfl⟩
  have HVV : Hid (V = if vsgB nmB g = false ∨ wf nmB t = false then (nul, 1) else if wrongF g t ≠ 0 then (nul, wrongF g t) else (ownF g t, 0)) := Lib.hid (by rw [← hV]; rfl)
  rw [hV]
  clear hV
  have hE3 : Ext w ((((w.alloc (.cells #[.slice sa g.1.length sc, .slice oa g.2.length oc] 42)).alloc (.cells #[.string t.name, .string t.sort, .slice a t.kids.length cap] 24)).alloc (.cells #[.string ⟨#[]⟩] 9)).alloc (.cells #[.int .i64 0] 28)) := ((((Upd.refl (fun _ => False) w).alloc _).alloc _).alloc _).alloc _
  have hs3 : ((((w.alloc (.cells #[.slice sa g.1.length sc, .slice oa g.2.length oc] 42)).alloc (.cells #[.string t.name, .string t.sort, .slice a t.kids.length cap] 24)).alloc (.cells #[.string ⟨#[]⟩] 9)).alloc (.cells #[.int .i64 0] 28)).heap.size = w.heap.size + 4 := by simp
  have hb0 : ((((w.alloc (.cells #[.slice sa g.1.length sc, .slice oa g.2.length oc] 42)).alloc (.cells #[.string t.name, .string t.sort, .slice a t.kids.length cap] 24)).alloc (.cells #[.string ⟨#[]⟩] 9)).alloc (.cells #[.int .i64 0] 28)).heap[w.heap.size]? = some (.cells #[.slice sa g.1.length sc, .slice oa g.2.length oc] 42 (0, 0)) := allocOld (allocOld (allocOld (alloc0 _ _) _) _) _
  have hb1 : ((((w.alloc (.cells #[.slice sa g.1.length sc, .slice oa g.2.length oc] 42)).alloc (.cells #[.string t.name, .string t.sort, .slice a t.kids.length cap] 24)).alloc (.cells #[.string ⟨#[]⟩] 9)).alloc (.cells #[.int .i64 0] 28)).heap[w.heap.size + 1]? = some (.cells #[.string t.name, .string t.sort, .slice a t.kids.length cap] 24 (0, 0)) := allocOld (allocOld (alloc_at _ _ (by simp)) _) _
  have hb23 : Boxed ((((w.alloc (.cells #[.slice sa g.1.length sc, .slice oa g.2.length oc] 42)).alloc (.cells #[.string t.name, .string t.sort, .slice a t.kids.length cap] 24)).alloc (.cells #[.string ⟨#[]⟩] 9)).alloc (.cells #[.int .i64 0] 28)) (w.heap.size + 1 + 1) 9 (.string ⟨#[]⟩) := allocOld (alloc_at _ _ (by simp)) _
  have hb33 : Boxed ((((w.alloc (.cells #[.slice sa g.1.length sc, .slice oa g.2.length oc] 42)).alloc (.cells #[.string t.name, .string t.sort, .slice a t.kids.length cap] 24)).alloc (.cells #[.string ⟨#[]⟩] 9)).alloc (.cells #[.int .i64 0] 28)) (w.heap.size + 1 + 1 + 1) 28 (.int .i64 0) := alloc_at _ _ (by simp)
  refine (callsIn_wide (n := 9)).1 ?_
  have hro : Fence.wide.round = none := rfl
  have hd : Fence.wide.depth = none := rfl
  have hf : ∀ k, Fence.wide.fn k := fun _ => trivial
  have h1 : 1 ≤ 9 := by omega
  refine callsIn_of_wp_marks Tryz.func30 rfl trivial ?_ hro
  have c0 := cellRow hb0 0 (.slice sa g.1.length sc) rfl
  have c1 := cellRow hb0 1 (.slice oa g.2.length oc) rfl
  have t0 := cellRow hb1 0 (.string t.name) rfl
  have t1 := cellRow hb1 1 (.string t.sort) rfl
  have t2 := cellRow hb1 2 (.slice a t.kids.length cap) rfl
  simp only [Tryz.ntmps30, List.size_toArray, List.length_cons, List.length_nil, Nat.reduceAdd, Nat.reduceSub, Array.replicate_succ, Array.replicate_zero, List.push_toArray, List.append_toArray, List.nil_append, List.cons_append]
  gi_wp2
  generalize ((((w.alloc (.cells #[.slice sa g.1.length sc, .slice oa g.2.length oc] 42)).alloc (.cells #[.string t.name, .string t.sort, .slice a t.kids.length cap] 24)).alloc (.cells #[.string ⟨#[]⟩] 9)).alloc (.cells #[.int .i64 0] 28)) = w3 at *
  generalize hB3 : w.heap.size + 1 + 1 + 1 = B3 at *
  generalize hB2 : w.heap.size + 1 + 1 = B2 at *
  generalize hB1 : w.heap.size + 1 = B1 at *
  generalize hB0 : w.heap.size = B0 at *
  refine (callsIn_wide.2 (HVS.out _ hE3)).mono ?_
  rintro e w4 ⟨rfl, hE4⟩
  have hb04 := hE4.heap hb0 (fun h => h)
  have hb14 := hE4.heap hb1 (fun h => h)
  have hb24 : Boxed w4 B2 9 (.string ⟨#[]⟩) := hE4.heap hb23 (fun h => h)
  have hb34 : Boxed w4 B3 28 (.int .i64 0) := hE4.heap hb33 (fun h => h)
  have hE := hE3.ext hE4
  have hsz4 := hE4.size
  clear c0 c1 t0 t1 t2
  have c0 := cellRow hb04 0 (.slice sa g.1.length sc) rfl
  have c1 := cellRow hb04 1 (.slice oa g.2.length oc) rfl
  have t0 := cellRow hb14 0 (.string t.name) rfl
  have t1 := cellRow hb14 1 (.string t.sort) rfl
  have t2 := cellRow hb14 2 (.slice a t.kids.length cap) rfl
  have r2 := hb24.cell
  have r3 := hb34.cell
  have s2 := hb24.frozen
  have s3 := hb34.frozen
  clear hE4 hE3 hb0 hb1 hb23 hb33
  cases hvs : vsgB nmB g
  · have HV : Hid (V = (nul, 1)) := Lib.hid (by rw [HVV.out, if_pos (.inl hvs)])
    gi_wp2
    have i2 : Boxed (w4.setCell ⟨B2, 0, none⟩ (.string ⟨#[]⟩)) B2 9 (.string ⟨#[]⟩) := setBlock hb24 0 _
    have i3 : Boxed (w4.setCell ⟨B2, 0, none⟩ (.string ⟨#[]⟩)) B3 28 (.int .i64 0) := Boxed.other hb34 (by omega) _
    have i2' : Boxed ((w4.setCell ⟨B2, 0, none⟩ (.string ⟨#[]⟩)).setCell ⟨B3, 0, none⟩ (.int .i64 1)) B2 9 (.string ⟨#[]⟩) := Boxed.other i2 (by omega) _
    have i3' : Boxed ((w4.setCell ⟨B2, 0, none⟩ (.string ⟨#[]⟩)).setCell ⟨B3, 0, none⟩ (.int .i64 1)) B3 28 (.int .i64 1) := setBlock i3 0 _
    have q2 := i2'.cell
    have q3 := i3'.cell
    exact ⟨.tuple #[.string ⟨#[]⟩, .int .i64 1], by simp [results, Tryz.f30, go_sem, q2, q3], by rw [HV.out]; rfl, (hE.setNew (show w.heap.size ≤ B2 by omega) _).setNew (show w.heap.size ≤ B3 by omega) _⟩
  gi_wp2
  refine (callsIn_wide.2 (HWF.out _ hE)).mono ?_
  rintro e w5 ⟨rfl, hE5⟩
  have hb05 := hE5.heap hb04 (fun h => h)
  have hb15 := hE5.heap hb14 (fun h => h)
  have hb25 : Boxed w5 B2 9 (.string ⟨#[]⟩) := hE5.heap hb24 (fun h => h)
  have hb35 : Boxed w5 B3 28 (.int .i64 0) := hE5.heap hb34 (fun h => h)
  have hEb := hE.ext hE5
  have hsz5 := hE5.size
  clear c0 c1 t0 t1 t2 r2 r3 s2 s3 hb04 hb14 hb24 hb34 hE hE5
  have c0 := cellRow hb05 0 (.slice sa g.1.length sc) rfl
  have c1 := cellRow hb05 1 (.slice oa g.2.length oc) rfl
  have t0 := cellRow hb15 0 (.string t.name) rfl
  have t1 := cellRow hb15 1 (.string t.sort) rfl
  have t2 := cellRow hb15 2 (.slice a t.kids.length cap) rfl
  have r2 := hb25.cell
  have r3 := hb35.cell
  have s2 := hb25.frozen
  have s3 := hb35.frozen
  cases hwf : wf nmB t
  · have HV : Hid (V = (nul, 1)) := Lib.hid (by rw [HVV.out, if_pos (.inr hwf)])
    gi_wp2
    have i2 : Boxed (w5.setCell ⟨B2, 0, none⟩ (.string ⟨#[]⟩)) B2 9 (.string ⟨#[]⟩) := setBlock hb25 0 _
    have i3 : Boxed (w5.setCell ⟨B2, 0, none⟩ (.string ⟨#[]⟩)) B3 28 (.int .i64 0) := Boxed.other hb35 (by omega) _
    have i2' : Boxed ((w5.setCell ⟨B2, 0, none⟩ (.string ⟨#[]⟩)).setCell ⟨B3, 0, none⟩ (.int .i64 1)) B2 9 (.string ⟨#[]⟩) := Boxed.other i2 (by omega) _
    have i3' : Boxed ((w5.setCell ⟨B2, 0, none⟩ (.string ⟨#[]⟩)).setCell ⟨B3, 0, none⟩ (.int .i64 1)) B3 28 (.int .i64 1) := setBlock i3 0 _
    have q2 := i2'.cell
    have q3 := i3'.cell
    exact ⟨.tuple #[.string ⟨#[]⟩, .int .i64 1], by simp [results, Tryz.f30, go_sem, q2, q3], by rw [HV.out]; rfl, (hEb.setNew (show w.heap.size ≤ B2 by omega) _).setNew (show w.heap.size ≤ B3 by omega) _⟩
  have HV2 : Hid (V = if wrongF g t ≠ 0 then (nul, wrongF g t) else (ownF g t, 0)) := Lib.hid (by rw [HVV.out, if_neg (by rw [hvs, hwf]; simp)])
  have hro2 := resOk_of hvs
  have HWQ := Lib.hid (wrg_eq g t (wf_nop hwf))
  gi_wp2
  refine (callsIn_wide.2 (nodes_x t (.slice a t.kids.length cap) w5 ⟨_, _, _, rfl⟩)).mono ?_
  rintro e w6 ⟨rfl, hE6, hs6, hb6, hv6⟩
  have hb06 := hE6.heap hb05 (fun h => h)
  have hb16 := hE6.heap hb15 (fun h => h)
  have hb26 : Boxed w6 B2 9 (.string ⟨#[]⟩) := hE6.heap hb25 (fun h => h)
  have hb36 : Boxed w6 B3 28 (.int .i64 0) := hE6.heap hb35 (fun h => h)
  have hEE := hEb.ext hE6
  have hZ0 := hb35.lt
  clear c0 c1 t0 t1 t2 r2 r3 s2 s3 hb05 hb15 hb25 hb35 hEb hE6
  obtain ⟨Z, hZ⟩ : ∃ Z, w5.heap.size = Z := ⟨_, rfl⟩
  rw [hZ] at hs6 hb6 hv6 hsz5 hZ0 ⊢
  gi_wp2
  refine wpIn_rangeFunc_ownH hro h1 (gf := 114) (lb := #[.pointer (some ⟨Z + 1, 0, none⟩), .pointer (some ⟨Z, 0, none⟩)]) rfl trivial (enters_of Tryz.func114 (by kernel_rfl) rfl)
    (nodes_stopsS Fence.wide hd (9 - 1) hf hro (Z + 1) Z (fun k => k = B2 ∨ k = B3) (fun k => k < B0) w6 (by omega) (by omega) (by omega) (by omega) t a cap (hB0 ▸ hT.ext hEE) hv6 hb6 (by omega)) (fun h k => KpG.trans h k) (fun W l o o' _ hl hc _ => KpG.putObj W l o o' hl hc) (Below.refl _ _) (fun _ => rfl)
    (fun pre W => (wrgL g (pre.map NdS.t) = 0 ∧ Boxed W B2 9 (.string ⟨#[]⟩)) ∧ (Boxed W B3 28 (.int .i64 0) ∧ Below B2 w6 W))
    (fun c pre W => ((c = .ret ∧ wrgL g (pre.map NdS.t) ≠ 0) ∧ Boxed W B2 9 (.string ⟨#[]⟩)) ∧ (Boxed W B3 28 (.int .i64 (wrgL g (pre.map NdS.t))) ∧ Below B2 w6 W))
    (OwnFrom.and (OwnFrom.and (ownFrom_pure _ _) (Own.from (boxed_own B2 9 (fun _ => Value.string ⟨#[]⟩)) _)) (OwnFrom.and (Own.from (boxed_own B3 28 (fun _ => Value.int .i64 0)) _) (ownFrom_below (by omega) (by omega))))
    (fun c => OwnFrom.and (OwnFrom.and (ownFrom_pure _ _) (Own.from (boxed_own B2 9 (fun _ => Value.string ⟨#[]⟩)) _)) (OwnFrom.and (Own.from (boxed_own B3 28 (fun pre : List (NdS (fun k => k < B0) w6) => Value.int .i64 (wrgL g (pre.map NdS.t)))) _) (ownFrom_below (by omega) (by omega))))
    ⟨⟨rfl, hb26⟩, hb36, Below.refl _ _⟩
    (fun x a' W => ∃ Bx, W.heap[Bx]? = some (.cells #[.string x.t.name, .string x.t.sort, .slice x.a x.t.kids.length x.cap] 24 (0, 0)) ∧ a' = { tmps := #[(.agg #[.slice sa g.1.length sc, .slice oa g.2.length oc]), (.agg #[.string t.name, .string t.sort, .slice a t.kids.length cap]), .pointer (some ⟨B0, 0, none⟩), .pointer (some ⟨B1, 0, none⟩), .pointer (some ⟨B2, 0, none⟩), .pointer (some ⟨B3, 0, none⟩), .pointer (some ⟨Bx, 0, none⟩), undef, undef, undef, (.agg #[.slice sa g.1.length sc, .slice oa g.2.length oc]), .bool true, .bool false, .bool false, (.agg #[.string t.name, .string t.sort, .slice a t.kids.length cap]), .bool true, .bool false, .bool false, (.agg #[.string t.name, .string t.sort, .slice a t.kids.length cap]), (.func (.func 114) #[] #[.pointer (some ⟨Z + 1, 0, none⟩), .pointer (some ⟨Z, 0, none⟩)]), (.agg #[.string x.t.name, .string x.t.sort, .slice x.a x.t.kids.length x.cap]), .int .i64 (x.d : Int), undef, undef, undef, undef, undef, undef, undef, undef, undef, undef, undef, undef, undef], defers := [] })
    (fun x a' _ X Y row hs hg hr => by
      obtain ⟨Bx, e2, e3⟩ := hs
      refine ⟨Bx, (Upd.of_grown hg).heap e2 (fun e => ?_), e3⟩
      obtain ⟨o, ho, hc⟩ := (hr Bx e.symm).2
      rw [e2] at ho
      cases ho
      cases hc) ?assign ?body ?done ?stop
  case assign =>
    rintro l pre x W K ⟨⟨i0, i1⟩, i2, i3⟩ hK
    dsimp only [NdS.encs, tV]
    have hbx := alloc0 W (.cells #[.string x.t.name, .string x.t.sort, .slice x.a x.t.kids.length x.cap] 24)
    gi_wp2
    exact hK _ _ (keeps_ext _ ((Upd.refl _ W).alloc _)) (KpG.of_ext ((Upd.refl _ W).alloc _)) ⟨⟨i0, i1.alloc _⟩, i2.alloc _, i3.alloc (by have := i3.size; omega) _⟩ ⟨W.heap.size, hbx, rfl⟩
  case body =>
    rintro l pre x a' W hl hrec ⟨⟨i0, i1⟩, i2, i3⟩ ⟨Bx, hbx, rfl⟩ hlt
    have hEW : Ext w W := below_ext (n := B0) ((hB0 ▸ Ext.below hEE).trans (i3.mono (by omega))) (by omega)
    have hUW : Upd (fun k => B2 ≤ k) w6 W := ⟨i3.os, i3.tape, i3.output, i3.size, fun k hk hf => i3.block k (by omega)⟩
    have hb0W := hUW.heap hb06 (by omega)
    have x0 := cellRow hbx 0 (.string x.t.name) rfl
    have x1 := cellRow hbx 1 (.string x.t.sort) rfl
    have x2 := cellRow hbx 2 (.slice x.a x.t.kids.length x.cap) rfl
    have c0 := cellRow hb0W 0 (.slice sa g.1.length sc) rfl
    have c1 := cellRow hb0W 1 (.slice oa g.2.length oc) rfl
    have HN := Lib.hid (HWR.out hro2 x.t (tV x.t (.slice x.a x.t.kids.length x.cap)) (fun k => k < B0) W hEW ⟨x.a, x.cap, rfl, x.ok.kept hUW (fun k hk e => by omega)⟩)
    have HSN := Lib.hid (wrgL_snoc (x := x.t) i0)
    have HI0 := Lib.hid i0
    dsimp only [tV] at HN
    clear hrec i0
    obtain ⟨E, hE⟩ : ∃ E, ndE g x.t = E := ⟨_, rfl⟩
    rw [hE] at HN HSN
    clear hE
    gi_wp2
    refine (CallsIn.inRound l (callsIn_wide.2 HN.out)).mono ?_
    rintro e W2 ⟨rfl, hW2⟩
    have j1 : Boxed W2 B2 9 (.string ⟨#[]⟩) := hW2.heap i1 (fun h => h)
    have j2 : Boxed W2 B3 28 (.int .i64 0) := hW2.heap i2 (fun h => h)
    have j3 : Below B2 w6 W2 := i3.trans ⟨hW2.os, hW2.tape, hW2.output, hW2.size, fun k hk => hW2.block k (by have := i3.size; omega) (fun h => h)⟩
    clear x0 x1 x2 c0 c1 HN
    have hmap : (pre ++ [x]).map NdS.t = pre.map NdS.t ++ [x.t] := by rw [List.map_append]; rfl
    by_cases he : E = 0
    · have y1 : (E == 0) = true := by rw [he]; rfl
      have y2 : (E != 0) = false := by rw [he]; rfl
      have HSN2 : Hid (wrgL g ((pre ++ [x]).map NdS.t) = 0) := Lib.hid (by rw [hmap, HSN.out, he])
      clear he HSN
      gi_wp2
      exact ⟨keeps_ext _ hW2, KpG.of_ext hW2, ⟨HSN2.out, j1⟩, j2, j3⟩
    · have y1 : (E == 0) = false := beq_eq_false_iff_ne.2 he
      have y2 : (E != 0) = true := bne_iff_ne.2 he
      have HSN2 : Hid (wrgL g ((pre ++ [x]).map NdS.t) = E) := Lib.hid (by rw [hmap, HSN.out])
      have HNE := Lib.hid he
      have r2 := j1.cell
      have r3 := j2.cell
      have s2 := j1.frozen
      have s3 := j2.frozen
      clear he HSN
      gi_wp2
      have st := ((Upd.refl (fun k => k = B2 ∨ k = B3) W2).setCell (p := ⟨B2, 0, none⟩) (.inl (.inl rfl)) (.string ⟨#[]⟩)).setCell (p := ⟨B3, 0, none⟩) (.inl (.inr rfl)) (.int .i64 E)
      have u1 : Boxed (W2.setCell ⟨B2, 0, none⟩ (.string ⟨#[]⟩)) B2 9 (.string ⟨#[]⟩) := setBlock j1 0 _
      have u2 : Boxed (W2.setCell ⟨B2, 0, none⟩ (.string ⟨#[]⟩)) B3 28 (.int .i64 0) := Boxed.other j2 (by omega) _
      refine ⟨(keeps_ext _ hW2).trans (keeps_upd _ st (fun k o e ho => ?_)), ⟨⟨rfl, by rw [HSN2.out]; exact HNE.out⟩, Boxed.other u1 (by omega) _⟩, by rw [HSN2.out]; exact setBlock u2 0 _, (j3.setCell (p := ⟨B2, 0, none⟩) (Nat.le_refl _) _).setCell (p := ⟨B3, 0, none⟩) (by show B2 ≤ B3; omega) _⟩
      rcases e with e | e
      · subst e; rw [show W2.heap[k]? = _ from j1] at ho; cases ho; rfl
      · subst e; rw [show W2.heap[k]? = _ from j2] at ho; cases ho; rfl
  case done =>
    rintro D xs W hD hS' ⟨⟨i0, i1⟩, i2, i3⟩ hK
    have hEW : Ext w W := below_ext (n := B0) ((hB0 ▸ Ext.below hEE).trans (i3.mono (by omega))) (by omega)
    have hUW : Upd (fun k => B2 ≤ k) w6 W := ⟨i3.os, i3.tape, i3.output, i3.size, fun k hk hf => i3.block k (by omega)⟩
    have hb0W := hUW.heap hb06 (by omega)
    have hb1W := hUW.heap hb16 (by omega)
    have c0 := cellRow hb0W 0 (.slice sa g.1.length sc) rfl
    have c1 := cellRow hb0W 1 (.slice oa g.2.length oc) rfl
    have t0 := cellRow hb1W 0 (.string t.name) rfl
    have t1 := cellRow hb1W 1 (.string t.sort) rfl
    have t2 := cellRow hb1W 2 (.slice a t.kids.length cap) rfl
    have hw0 : wrongF g t = 0 := by rw [← HWQ.out]; unfold wrgT; rw [← sbts_of hS']; exact i0
    have HV : Hid (V = (ownF g t, 0)) := Lib.hid (by rw [HV2.out, if_neg (fun h => h hw0)])
    have HO := Lib.hid (HOW.out W hEW)
    rw [ownP_fst] at HO
    clear hw0 i0 hS'
    gi_wp2
    refine (callsIn_wide.2 HO.out).mono ?_
    rintro e W2 ⟨rfl, hW2⟩
    have j1 : Boxed W2 B2 9 (.string ⟨#[]⟩) := hW2.heap i1 (fun h => h)
    have j2 : Boxed W2 B3 28 (.int .i64 0) := hW2.heap i2 (fun h => h)
    have hK2 := hW2.heap hK (fun h => h)
    have hE2 := hEW.trans hW2
    have r2 := j1.cell
    have r3 := j2.cell
    have s2 := j1.frozen
    have s3 := j2.frozen
    obtain ⟨o1, ho1⟩ : ∃ o, ownF g t = o := ⟨_, rfl⟩
    rw [ho1] at HV ⊢
    clear c0 c1 t0 t1 t2 HO ho1
    gi_wp2
    have st := ((Upd.refl (fun k => k = B2 ∨ k = B3) W2).setCell (p := ⟨B2, 0, none⟩) (.inl (.inl rfl)) (.string o1)).setCell (p := ⟨B3, 0, none⟩) (.inl (.inr rfl)) (.int .i64 0)
    have hK' := (keeps_upd 0 st (fun k o e ho => by
      rcases e with e | e
      · subst e; rw [show W2.heap[k]? = _ from j1] at ho; cases ho; rfl
      · subst e; rw [show W2.heap[k]? = _ from j2] at ho; cases ho; rfl)).same D _ (Nat.zero_le _) hK2 rfl
    have u1 : Boxed (W2.setCell ⟨B2, 0, none⟩ (.string o1)) B2 9 (.string o1) := setBlock j1 0 _
    have u2 : Boxed (W2.setCell ⟨B2, 0, none⟩ (.string o1)) B3 28 (.int .i64 0) := Boxed.other j2 (by omega) _
    have u3 : Boxed ((W2.setCell ⟨B2, 0, none⟩ (.string o1)).setCell ⟨B3, 0, none⟩ (.int .i64 0)) B2 9 (.string o1) := Boxed.other u1 (by omega) _
    have u4 : Boxed ((W2.setCell ⟨B2, 0, none⟩ (.string o1)).setCell ⟨B3, 0, none⟩ (.int .i64 0)) B3 28 (.int .i64 0) := setBlock u2 0 _
    refine ⟨by simp, .inl ⟨_, _, rfl, run_takeDeferred hK', ?_⟩⟩
    have hc2 := cell_kept u3.cell (grownBy_putObj' _ D (.deferred none)) (fun r e => by cases e; exact ⟨_, hK', rfl⟩)
    have hc3 := cell_kept u4.cell (grownBy_putObj' _ D (.deferred none)) (fun r e => by cases e; exact ⟨_, hK', rfl⟩)
    refine ⟨.tuple #[.string o1, .int .i64 0], by simp [results, Tryz.f30, go_sem, hc2, hc3], by rw [HV.out], ?_⟩
    have hEX : Ext w ((W2.setCell ⟨B2, 0, none⟩ (.string o1)).setCell ⟨B3, 0, none⟩ (.int .i64 0)) := (hE2.setNew (show w.heap.size ≤ B2 by omega) _).setNew (show w.heap.size ≤ B3 by omega) _
    exact hEX.trans' (Upd.of_grown (grownBy_putObj' _ D (.deferred none))) (fun i hi e => by cases e; omega)
  case stop =>
    rintro D c pre W hD hSp ⟨⟨⟨rfl, hbad⟩, i1⟩, i2, i3⟩ hK
    have hEW : Ext w W := below_ext (n := B0) ((hB0 ▸ Ext.below hEE).trans (i3.mono (by omega))) (by omega)
    have hwr := wrg_pre hSp hbad
    rw [HWQ.out] at hwr
    have HV : Hid (V = (nul, wrgL g (pre.map NdS.t))) := Lib.hid (by rw [HV2.out, hwr, if_pos hbad])
    generalize wrgL g (pre.map NdS.t) = E at *
    clear hwr hbad hSp
    gi_wp2
    refine ⟨by simp, .inl ⟨_, _, rfl, run_takeDeferred hK, ?_⟩⟩
    have hc2 := cell_kept i1.cell (grownBy_putObj' _ D (.deferred none)) (fun r e => by cases e; exact ⟨_, hK, rfl⟩)
    have hc3 := cell_kept i2.cell (grownBy_putObj' _ D (.deferred none)) (fun r e => by cases e; exact ⟨_, hK, rfl⟩)
    refine ⟨.tuple #[.string ⟨#[]⟩, .int .i64 E], by simp [results, Tryz.f30, go_sem, hc2, hc3], by rw [HV.out]; rfl, ?_⟩
    exact hEW.trans' (Upd.of_grown (grownBy_putObj' _ D (.deferred none))) (fun i hi e => by cases e; omega)
end Go.Proofs.YtjjaknmnhhfjeaaGreatDoor

/- A Builder of the call's own; numbers. -/
namespace Go.Proofs.YtjjaknmnhhfjeaaGreatDoor
open Go.RowKit Go.Hw Go
set_option linter.unusedVariables false
set_option linter.unusedSimpArgs false

open Tm
def bs (l : List UInt8) : ByteArray := ⟨l.toArray⟩
theorem bs_size (l : List UInt8) : (bs l).size = l.length := by simp [bs, ByteArray.size]
theorem bs_app (a b : List UInt8) : bs a ++ bs b = bs (a ++ b) := by
  apply ByteArray.ext
  simp [bs, ByteArray.data_append]
theorem bs_data (l : List UInt8) : (bs l).data.toList = l := by simp [bs]
theorem bs_of (s : ByteArray) : bs s.data.toList = s := by cases s; simp [bs]
theorem bs_nil : bs [] = ⟨#[]⟩ := rfl
theorem below_tr {a b c : World} (h : Ext a b) (k : Below a.heap.size b c) : Ext a c :=
  ⟨k.os.trans h.os, k.tape.trans h.tape, k.output.trans h.output, Nat.le_trans h.size k.size, fun i hi _ => (k.block i hi).trans (h.block i hi (fun x => x))⟩
/-! ### a Builder of the call's own -/
def BdR (B b : Nat) (l : List UInt8) (w : World) : Prop := Lib.IsBuilder 120 5 B b (Lib.byteCells l) w
theorem BdR.new (B : Nat) (w : World) (h : B ≤ w.heap.size) : BdR B w.heap.size [] (w.alloc (.cells #[.pointer none, .slice none 0 0] 120)) :=
  Or.inl ⟨h, .slice none 0 0, alloc0 w _, World.ownsRow_nil _ _ _ _, by simp [Value.ownBlock]⟩
theorem BdR.at_ext {B b : Nat} {p : Value} {l : List Value} {w w' : World} (h : Lib.BuilderAt 120 5 B b p l w) (hb : Ext w w') : Lib.BuilderAt 120 5 B b p l w' := by
  obtain ⟨h1, v, h2, h3, h4⟩ := h
  exact ⟨h1, v, hb.heap h2 (fun h => h), own_kept h3 hb (fun _ _ h => h), h4⟩
theorem BdR.ext {B b : Nat} {l : List UInt8} {w w' : World} (h : BdR B b l w) (hb : Ext w w') : BdR B b l w' := by
  rcases h with h | h
  · exact Or.inl (BdR.at_ext h hb)
  · exact Or.inr (BdR.at_ext h hb)
theorem infoU8 : (Tryz.prog.info? 5).map (fun i => (i.zero, i.size, i.bytes)) = some (some (.int .u8 0), 1, 1) := by kernel_rfl
theorem infoBd : (Tryz.prog.info? 120).map (·.size) = some 2 := by kernel_rfl
set_option maxRecDepth 100000 in
set_option maxHeartbeats 1000000 in
theorem ccheck_x (B b : Nat) (bs : List Value) (w : World) (h : Lib.IsBuilder 120 5 B b bs w) :
    Calls Tryz.prog 107 #[.pointer (some ⟨b, 0, none⟩)] w fun e w' => e = .returned (.tuple #[]) ∧ Lib.BuilderAt 120 5 B b (.pointer (some ⟨b, 0, none⟩)) bs w' ∧ Below B w w' := by
  obtain ⟨j, hj, hjs⟩ := Option.map_eq_some_iff.1 infoBd
  have HH := Lib.hid h
  rcases h with h | h
  · have c0 := h.cell0
    have f0 := h.frozen0
    have HS := Lib.hid h.shape
    have hcv := Lib.run_to_unsafe (P := Tryz.prog) w ⟨b, 0, none⟩ Tryz.underlying117 Tryz.underlying181 hj (by rw [hjs]; decide) HS.out (Nat.zero_lt_succ 1)
    have HX := Lib.hid h
    clear h
    go_enter Tryz.func107, Tryz.ntmps107
    go_wp2_with fail
    rw [run_callFunc_extern Tryz.func131 (by kernel_rfl) (by kernel_rfl) (by kernel_rfl) (e := Extern.AbiNoEscape.same) (by kernel_rfl), Lib.run_noEscape]
    simp only [Result.andThen]
    rw [Oper.upon_value]
    go_wp2_with fail
    rw [Lib.run_from_unsafe (P := Tryz.prog) w ⟨b, 0, none⟩ Tryz.underlying181 Tryz.underlying117 hj HS.out (by kernel_rfl)]
    simp only [Result.andThen]
    rw [Oper.upon_value]
    go_wp2_with fail
    go_end0
    exact ⟨rfl, HX.out.used _, (Below.refl B w).setCell (p := ⟨b, 0, none⟩) HX.out.1 _⟩
  · have c0 := h.cell0
    have hq := Lib.run_neq_ptr_same (P := Tryz.prog) w ⟨b, 0, none⟩ Tryz.underlying117 hj
    have HX := Lib.hid h
    clear h
    go_enter Tryz.func107, Tryz.ntmps107
    go_wp2_with fail
    go_end0
    exact ⟨rfl, HX.out, Below.refl B _⟩
set_option maxHeartbeats 1000000 in
theorem write_x (B b : Nat) (l m : List UInt8) (w : World) (h : BdR B b l w) (hlen : l.length + m.length ≤ 140737488355328) (hB : B ≤ w.heap.size) :
    Calls Tryz.prog 69 #[.pointer (some ⟨b, 0, none⟩), .string (bs m)] w fun e w' => e = .returned (.tuple #[.int .i64 m.length, .nilIface]) ∧ BdR B b (l ++ m) w' ∧ Below B w w' := by
  obtain ⟨i0, hi, hz0, hz1, hz2⟩ := info_parts infoU8
  have H0 := Lib.hid h
  clear h
  have hsz := bs_size m
  generalize hm : bs m = s at *
  have HM := Lib.hid hm
  clear hm
  go_enter Tryz.func69, Tryz.ntmps69
  go_wp2_with fail
  refine (ccheck_x B b _ _ H0.out).mono ?_
  rintro e w1 ⟨rfl, h1, hb1⟩
  obtain ⟨hB1, v, hbk, hown, hne⟩ := h1
  have HOWN := Lib.hid hown
  obtain ⟨va, vc, hvs⟩ := own_shape hown
  clear hown
  subst hvs
  have c0 := cellRow hbk 0 _ rfl
  have c1 := cellRow hbk 1 _ rfl
  have HBK := Lib.hid hbk
  have HNE := Lib.hid hne
  clear hbk hne
  go_wp2_with (at_builtin; refine Lib.wpList_append_own_string _ rfl _ _ 118 9 rfl B 5 i0 Tryz.underlying118 Tryz.underlying9 hi hz0 hz1 hz2 _ _ _ rfl HOWN.out s rfl ?c3 ?c4 ?c5 ?_)
  case c3 => rw [Lib.byteCells_length]; unfold maxLen; omega
  case c4 => rw [Lib.byteCells_length]; omega
  case c5 => have := hb1.size; omega
  intro v' w2 hown' hgrow _
  have hlt : b < w1.heap.size := (Array.getElem?_eq_some_iff.1 HBK.out).1
  have hb2 : w2.heap[b]? = some (.cells #[.pointer (some ⟨b, 0, none⟩), .slice va (Lib.byteCells l).length vc] 120 (0, 0)) := by
    rw [hgrow.block b hlt (fun e => HNE.out e.symm)]
    exact HBK.out
  have HB2 := Lib.hid hb2
  have d1 := cellRow hb2 1 _ rfl
  have f1 := frozenRow hb2 1
  have HO := Lib.hid hown'
  obtain ⟨xa, xc, hxs⟩ := own_shape hown'
  subst hxs
  have HG := Lib.hid hgrow
  clear hown' hb2 hgrow c0 c1
  go_wp2_with fail
  go_ret2
  refine ⟨rfl, Or.inr ?_, ?_⟩
  · have h8 := HO.out
    rw [← HM.out, Lib.strCells_eq, bs_data] at h8
    refine Lib.BuilderAt.put (T := 120) (e := 5) hB1 HB2.out (bs' := Lib.byteCells (l ++ m)) ?_ (by decide)
    rw [show Lib.byteCells (l ++ m) = Lib.byteCells l ++ Lib.byteCells m by simp [Lib.byteCells]]
    rw [List.length_append, Lib.byteCells_length m]
    exact h8
  · exact (hb1.grown HG.out (by have := hb1.size; omega) (fun k hk => (HOWN.out.lt k hk).1)).setCell (p := ⟨b, 1, none⟩) hB1 _
theorem bstr_x (B b : Nat) (l : List UInt8) (w : World) (h : BdR B b l w) (hB : B ≤ w.heap.size) :
    Calls Tryz.prog 72 #[.pointer (some ⟨b, 0, none⟩)] w fun e w' => e = .returned (.string (bs l)) ∧ Below B w w' :=
  Tryz.Builder_String_any B b l w h hB

/-! ### numbers -/
def numG : Sg := ([⟨#[110, 97, 116]⟩], [(⟨#[122, 101, 114, 111]⟩, [], ⟨#[110, 97, 116]⟩), (⟨#[115]⟩, [⟨#[110, 97, 116]⟩], ⟨#[110, 97, 116]⟩)])
set_option maxRecDepth 100000 in
set_option maxHeartbeats 2000000 in
theorem numbers_x (w : World) : Calls Tryz.prog 44 #[] w fun e w' => ∃ v, e = .returned v ∧ SgR (fun k => w.heap.size ≤ k ∧ k < w'.heap.size) w' numG v ∧ Ext w w' := by
  have HE := Lib.hid (((((Upd.refl (fun _ => False) w).alloc (.cells #[.slice (some ⟨w.heap.size + 1, 0, none⟩) 1 1, .slice (some ⟨w.heap.size + 1 + 1 + 1, 0, none⟩) 2 2] 42)).alloc (.cells #[.string ⟨#[110, 97, 116]⟩] 9)).alloc (.cells #[.string ⟨#[110, 97, 116]⟩] 9)).alloc (.cells #[.string ⟨#[122, 101, 114, 111]⟩, .slice none 0 0, .string ⟨#[110, 97, 116]⟩, .string ⟨#[115]⟩, .slice (some ⟨w.heap.size + 1 + 1, 0, none⟩) 1 1, .string ⟨#[110, 97, 116]⟩] 96))
  have HB0 := Lib.hid (allocOld (allocOld (allocOld (alloc0 w (.cells #[.slice (some ⟨w.heap.size + 1, 0, none⟩) 1 1, .slice (some ⟨w.heap.size + 1 + 1 + 1, 0, none⟩) 2 2] 42)) (.cells #[.string ⟨#[110, 97, 116]⟩] 9)) (.cells #[.string ⟨#[110, 97, 116]⟩] 9)) (.cells #[.string ⟨#[122, 101, 114, 111]⟩, .slice none 0 0, .string ⟨#[110, 97, 116]⟩, .string ⟨#[115]⟩, .slice (some ⟨w.heap.size + 1 + 1, 0, none⟩) 1 1, .string ⟨#[110, 97, 116]⟩] 96))
  have HB1 := Lib.hid (allocOld (allocOld (alloc_at (w.alloc (.cells #[.slice (some ⟨w.heap.size + 1, 0, none⟩) 1 1, .slice (some ⟨w.heap.size + 1 + 1 + 1, 0, none⟩) 2 2] 42)) (.cells #[.string ⟨#[110, 97, 116]⟩] 9) (n := w.heap.size + 1) (by simp)) (.cells #[.string ⟨#[110, 97, 116]⟩] 9)) (.cells #[.string ⟨#[122, 101, 114, 111]⟩, .slice none 0 0, .string ⟨#[110, 97, 116]⟩, .string ⟨#[115]⟩, .slice (some ⟨w.heap.size + 1 + 1, 0, none⟩) 1 1, .string ⟨#[110, 97, 116]⟩] 96))
  have HB2 := Lib.hid (allocOld (alloc_at ((w.alloc (.cells #[.slice (some ⟨w.heap.size + 1, 0, none⟩) 1 1, .slice (some ⟨w.heap.size + 1 + 1 + 1, 0, none⟩) 2 2] 42)).alloc (.cells #[.string ⟨#[110, 97, 116]⟩] 9)) (.cells #[.string ⟨#[110, 97, 116]⟩] 9) (n := w.heap.size + 1 + 1) (by simp)) (.cells #[.string ⟨#[122, 101, 114, 111]⟩, .slice none 0 0, .string ⟨#[110, 97, 116]⟩, .string ⟨#[115]⟩, .slice (some ⟨w.heap.size + 1 + 1, 0, none⟩) 1 1, .string ⟨#[110, 97, 116]⟩] 96))
  have HB3 := Lib.hid (alloc_at (((w.alloc (.cells #[.slice (some ⟨w.heap.size + 1, 0, none⟩) 1 1, .slice (some ⟨w.heap.size + 1 + 1 + 1, 0, none⟩) 2 2] 42)).alloc (.cells #[.string ⟨#[110, 97, 116]⟩] 9)).alloc (.cells #[.string ⟨#[110, 97, 116]⟩] 9)) (.cells #[.string ⟨#[122, 101, 114, 111]⟩, .slice none 0 0, .string ⟨#[110, 97, 116]⟩, .string ⟨#[115]⟩, .slice (some ⟨w.heap.size + 1 + 1, 0, none⟩) 1 1, .string ⟨#[110, 97, 116]⟩] 96) (n := w.heap.size + 1 + 1 + 1) (by simp))
  have HSZ : Hid (((((w.alloc (.cells #[.slice (some ⟨w.heap.size + 1, 0, none⟩) 1 1, .slice (some ⟨w.heap.size + 1 + 1 + 1, 0, none⟩) 2 2] 42)).alloc (.cells #[.string ⟨#[110, 97, 116]⟩] 9)).alloc (.cells #[.string ⟨#[110, 97, 116]⟩] 9)).alloc (.cells #[.string ⟨#[122, 101, 114, 111]⟩, .slice none 0 0, .string ⟨#[110, 97, 116]⟩, .string ⟨#[115]⟩, .slice (some ⟨w.heap.size + 1 + 1, 0, none⟩) 1 1, .string ⟨#[110, 97, 116]⟩] 96)).heap.size = w.heap.size + 4) := Lib.hid (by simp)
  have e0 := cellRow HB0.out 0 _ rfl
  have e1 := cellRow HB0.out 1 _ rfl
  go_enter Tryz.func44, Tryz.ntmps44
  go_wp2_with fail
  generalize ((((w.alloc (.cells #[.slice (some ⟨w.heap.size + 1, 0, none⟩) 1 1, .slice (some ⟨w.heap.size + 1 + 1 + 1, 0, none⟩) 2 2] 42)).alloc (.cells #[.string ⟨#[110, 97, 116]⟩] 9)).alloc (.cells #[.string ⟨#[110, 97, 116]⟩] 9)).alloc (.cells #[.string ⟨#[122, 101, 114, 111]⟩, .slice none 0 0, .string ⟨#[110, 97, 116]⟩, .string ⟨#[115]⟩, .slice (some ⟨w.heap.size + 1 + 1, 0, none⟩) 1 1, .string ⟨#[110, 97, 116]⟩] 96)) = w1 at *
  refine bodyPost_ret (v := .agg #[.slice (some ⟨w.heap.size + 1, 0, none⟩) 1 1, .slice (some ⟨w.heap.size + 1 + 1 + 1, 0, none⟩) 2 2]) (by simp [results, Tryz.results44, go_sem, e0, e1]) rfl ?_
  have hb1 := HB1.out
  have hb2 := HB2.out
  have hb3 := HB3.out
  have hsz1 := HSZ.out
  refine ⟨_, rfl, ⟨some ⟨w.heap.size + 1, 0, none⟩, 1, some ⟨w.heap.size + 1 + 1 + 1, 0, none⟩, 2, rfl, ?_, ?_⟩, HE.out⟩
  · refine SlR.mk' rfl rfl (by decide) (fun _ => ⟨by omega, by omega⟩) (fun j hj => ?_)
    have hj0 : j = 0 := by have : numG.1.length = 1 := rfl; omega
    subst hj0
    exact cellRow hb1 0 _ rfl
  · refine ⟨[.slice none 0 0, .slice (some ⟨w.heap.size + 1 + 1, 0, none⟩) 1 1], SlR.mk' rfl rfl (by decide) (fun _ => ⟨by omega, by omega⟩) (fun j hj => ?_), fun i hi => ?_⟩
    · have hj6 : j < 6 := hj
      rcases j with _ | _ | _ | _ | _ | _ | j
      · exact cellRow hb3 0 _ rfl
      · exact cellRow hb3 1 _ rfl
      · exact cellRow hb3 2 _ rfl
      · exact cellRow hb3 3 _ rfl
      · exact cellRow hb3 4 _ rfl
      · exact cellRow hb3 5 _ rfl
      · omega
    · have hi2 : i < 2 := hi
      rcases i with _ | _ | i
      · exact SlR.nil _ _ _
      · refine SlR.mk' (g := w.heap.size + 1 + 1) (off := 0) (cap := 1) rfl rfl (by decide) (fun _ => ⟨by omega, by omega⟩) (fun j hj => ?_)
        have hj0 : j = 0 := by have : (dg numG.2 (0 + 1)).2.1.length = 1 := rfl; omega
        subst hj0
        exact cellRow hb2 0 _ rfl
      · omega

end Go.Proofs.YtjjaknmnhhfjeaaGreatDoor

/- fit and TextSignature of the program. -/
namespace Go.Proofs.YtjjaknmnhhfjeaaGreatDoor
open Go.RowKit Go.Hw Go
set_option linter.unusedVariables false
set_option linter.unusedSimpArgs false

open Tm
def sepL : List UInt8 := [44, 32]
def joinB (l : List By) : List UInt8 := Lib.join (l.map (·.data.toList)) sepL
def sortT (s : By) : List UInt8 := [115, 111, 114, 116, 32] ++ (s.data.toList ++ [10])
def declT (d : Dc) : List UInt8 := [111, 112, 32] ++ (d.1.data.toList ++ ([40] ++ (joinB d.2.1 ++ ([41, 32, 45, 62, 32] ++ (d.2.2.data.toList ++ [10])))))
def tsgL (g : Sg) : List UInt8 := g.1.flatMap sortT ++ g.2.flatMap declT
def fitF (l : List UInt8) : By × Int := if 65536 < l.length then (nul, 4) else (bs l, 0)
def tsgF (g : Sg) : By × Int := if vsgB nmB g = false then (nul, 1) else fitF (tsgL g)
theorem joinTail_len (r : List By) : (Lib.joinTail sepL (r.map (·.data.toList))).length = (r.map fun s => s.size + 2).sum := by
  induction r with
  | nil => rfl
  | cons a r ih =>
    unfold Lib.joinTail at *
    simp only [List.map_cons, List.flatten_cons, List.length_append, List.sum_cons, ih]
    have : a.data.toList.length = a.size := rfl
    have h2 : sepL.length = 2 := rfl
    omega
theorem joinB_len (l : List By) (h : ∀ s ∈ l, s.size ≤ 40) : (joinB l).length ≤ 42 * l.length := by
  have key : ∀ r : List By, (∀ s ∈ r, s.size ≤ 40) → (r.map fun s => s.size + 2).sum ≤ 42 * r.length := by
    intro r
    induction r with
    | nil => intro _; simp
    | cons a r ih =>
      intro h
      have h1 := ih (fun s hs => h s (List.mem_cons_of_mem _ hs))
      have h2 := h a (List.mem_cons_self ..)
      simp only [List.map_cons, List.sum_cons, List.length_cons]
      omega
  cases l with
  | nil => simp [joinB, Lib.join_nil]
  | cons a r =>
    unfold joinB
    rw [List.map_cons, Lib.join_cons, List.length_append, joinTail_len]
    have h1 := key r (fun s hs => h s (List.mem_cons_of_mem _ hs))
    have h2 : a.data.toList.length ≤ 40 := h a (List.mem_cons_self ..)
    simp only [List.length_cons]
    omega
theorem nm_size {s : By} (h : nmB s = true) : s.size ≤ 40 := by
  unfold nmB at h
  rw [Bool.and_eq_true] at h
  exact (of_decide_eq_true h.1).2
theorem vsg_sizes {g : Sg} (h : vsgB nmB g = true) : (∀ s ∈ g.1, s.size ≤ 40) ∧ g.1.length ≤ 40 ∧ g.2.length ≤ 100 ∧ ∀ d ∈ g.2, d.1.size ≤ 40 ∧ d.2.1.length ≤ 6 ∧ d.2.2.size ≤ 40 ∧ ∀ s ∈ d.2.1, s.size ≤ 40 := by
  unfold vsgB at h
  rw [Bool.and_eq_true, Bool.and_eq_true, Bool.and_eq_true, decide_eq_true_eq, decide_eq_true_eq] at h
  obtain ⟨k1, k2, h1, h2⟩ := h
  have h3 := ((precP_iff nmB g.1).1 h1).2.1
  refine ⟨fun s hs => nm_size (h3 s hs), k1, k2, fun d hd => ?_⟩
  obtain ⟨j, hj, rfl⟩ := List.mem_iff_getElem.1 hd
  have h4 := List.all_eq_true.1 h2 j (List.mem_range.2 hj)
  unfold okD at h4
  rw [Bool.and_eq_true, Bool.and_eq_true, Bool.and_eq_true, Bool.and_eq_true, dg_at hj] at h4
  obtain ⟨a1, a2, a3, a4, a5⟩ := h4
  exact ⟨nm_size a1, of_decide_eq_true a3, nm_size (h3 _ (of_decide_eq_true a4)), fun s hs => nm_size (h3 _ (of_decide_eq_true (List.all_eq_true.1 a5 s hs)))⟩
theorem declT_len (d : Dc) (h : d.1.size ≤ 40 ∧ d.2.1.length ≤ 6 ∧ d.2.2.size ≤ 40 ∧ ∀ s ∈ d.2.1, s.size ≤ 40) : (declT d).length ≤ 400 := by
  have h1 := joinB_len d.2.1 h.2.2.2
  have h2 : d.1.data.toList.length ≤ 40 := h.1
  have h3 : d.2.2.data.toList.length ≤ 40 := h.2.2.1
  unfold declT
  simp only [List.length_append, List.length_cons, List.length_nil]
  omega
theorem flat_len {α : Type} (f : α → List UInt8) (n : Nat) : ∀ l : List α, (∀ x ∈ l, (f x).length ≤ n) → (l.flatMap f).length ≤ n * l.length
  | [], _ => by simp
  | a :: l, h => by
    have h1 := flat_len f n l (fun x hx => h x (List.mem_cons_of_mem _ hx))
    have h2 := h a (List.mem_cons_self ..)
    rw [List.flatMap_cons, List.length_append, List.length_cons, Nat.mul_succ]
    omega
theorem flatB_snoc {α : Type} (f : α → List UInt8) (l : List α) (k : Nat) (d : α) (h : k < l.length) : (l.take (k + 1)).flatMap f = (l.take k).flatMap f ++ f (l.getD k d) := by
  rw [List.take_add_one, List.flatMap_append, List.getD_eq_getElem?_getD, List.getElem?_eq_getElem h]
  simp
set_option maxRecDepth 100000 in
set_option maxHeartbeats 2000000 in
theorem fit_x (l : List UInt8) (w : World) : Calls Tryz.prog 71 #[.string (bs l)] w fun e w' => e = .returned (.tuple #[.string (fitF l).1, .int .i64 (fitF l).2]) ∧ Ext w w' := by
  have hs := bs_size l
  have HV : Hid (fitF l = if 65536 < l.length then (nul, 4) else (bs l, 0)) := Lib.hid rfl
  obtain ⟨V, hV⟩ : ∃ V, fitF l = V := ⟨_, rfl⟩
  rw [hV] at HV ⊢
  clear hV
  obtain ⟨x, hx⟩ : ∃ x, bs l = x := ⟨_, rfl⟩
  rw [hx] at HV hs ⊢
  clear hx
  have HE : Hid (Ext w w) := Lib.hid (Upd.refl _ _)
  by_cases h : 65536 < l.length
  · have HV : Hid (V = (nul, 4)) := Lib.hid (by rw [HV.out, if_pos h])
    have z1 : (65536 : Int) < (x.size : Int) := by omega
    have z1' : decide ((65536 : Int) < (x.size : Int)) = true := decide_eq_true z1
    clear h hs
    go_enter Tryz.func71, Tryz.ntmps71
    go_wp2_with fail
    go_ret2
    rw [HV.out]
    exact ⟨rfl, HE.out⟩
  · have HV : Hid (V = (x, 0)) := Lib.hid (by rw [HV.out, if_neg h])
    have z1 : ¬ (65536 : Int) < (x.size : Int) := by omega
    have z1' : decide ((65536 : Int) < (x.size : Int)) = false := decide_eq_false z1
    clear h hs
    go_enter Tryz.func71, Tryz.ntmps71
    go_wp2_with fail
    go_ret2
    rw [HV.out]
    exact ⟨rfl, HE.out⟩
theorem join_x (l : List By) (v : Value) (S : Nat → Prop) (w : World) (hR : StrR S w v l) (hS : ∀ k, S k → k < w.heap.size) (hl : l.length ≤ 1000000) (hs : (joinB l).length ≤ 140737488355328) :
    Calls Tryz.prog 70 #[v, .string (bs sepL)] w fun e w' => e = .returned (.string (bs (joinB l))) ∧ Ext w w' := by
  obtain ⟨a, cap, rfl⟩ := SlR.shape hR
  by_cases h0 : 0 < l.length
  · obtain ⟨g, off, hga, hSg, hat⟩ := SlR.one_at (d := nul) hR h0
    subst hga
    refine (Tryz.strings_Join g off cap l (bs sepL) w (fun j x hx => ?_) (hS _ hSg) (by omega) (SlR.le_cap hR rfl) hs).mono ?_
    · have hj := (List.getElem?_eq_some_iff.1 hx).1
      rw [hat j hj, List.getD_eq_getElem?_getD, hx]; rfl
    · rintro e w' ⟨rfl, hb⟩
      exact ⟨rfl, below_tr (Upd.refl _ _) hb⟩
  · have hl0 : l = [] := List.eq_nil_of_length_eq_zero (by omega)
    subst hl0
    refine (Tryz.strings_Join_none a cap (bs sepL) w).mono ?_
    rintro e w' ⟨rfl, rfl⟩
    exact ⟨rfl, Upd.refl _ _⟩
set_option maxRecDepth 100000 in
set_option maxHeartbeats 2000000 in
theorem tsig_x (g : Sg) (v : Value) (S : Nat → Prop) (w : World) (hG : SgR S w g v) (hS : ∀ k, S k → k < w.heap.size) (htab : AscT w) (hl1 : g.1.length ≤ 1000000) (hl2 : g.2.length ≤ 1000000) (hl3 : ∀ d ∈ g.2, d.2.1.length ≤ 1000000) :
    Calls Tryz.prog 22 #[v] w fun e w' => e = .returned (.tuple #[.string (tsgF g).1, .int .i64 (tsgF g).2]) ∧ Ext w w' := by
  have HVS := Lib.hid (fun W (hW : Ext w W) => pvsig_x g v S W (hG.ext hW) (asc_ext htab hW) hl1 hl2 hl3)
  obtain ⟨sa, sc, oa, oc, rfl, hS1, hD⟩ := hG
  have HS1 := Lib.hid hS1
  have HD := Lib.hid hD
  have HSS := Lib.hid hS
  have HZ := Lib.hid ((Upd.refl (fun _ => False) w).alloc (.cells #[.slice sa g.1.length sc, .slice oa g.2.length oc] 42))
  have HB := Lib.hid (alloc0 w (.cells #[.slice sa g.1.length sc, .slice oa g.2.length oc] 42))
  have c0 := cellRow HB.out 0 (.slice sa g.1.length sc) rfl
  have c1 := cellRow HB.out 1 (.slice oa g.2.length oc) rfl
  have HVV : Hid (tsgF g = if vsgB nmB g = false then (nul, 1) else fitF (tsgL g)) := Lib.hid rfl
  obtain ⟨V, hV⟩ : ∃ V, tsgF g = V := ⟨_, rfl⟩
  rw [hV] at HVV ⊢
  have HCV := Lib.hid (HVS.out _ HZ.out)
  clear hS1 hD hV htab hl3 hS
  obtain ⟨b0, hb0⟩ : ∃ b0, w.heap.size = b0 := ⟨_, rfl⟩
  try rw [hb0] at HB
  cases hvs : vsgB nmB g
  · have HV : Hid (V = (nul, 1)) := Lib.hid (by rw [HVV.out, if_pos hvs])
    rw [hvs] at HCV
    clear hvs
    go_enter Tryz.func22, Tryz.ntmps22
    go_wp2_with fail
    refine HCV.out.mono ?_
    rintro e w4 ⟨rfl, hw4⟩
    have H4 := Lib.hid (HZ.out.trans hw4)
    clear hw4 c0 c1
    go_wp2_with fail
    go_ret2
    rw [HV.out]
    exact ⟨rfl, H4.out⟩
  have HV2 : Hid (V = fitF (tsgL g)) := Lib.hid (by rw [HVV.out, if_neg (by rw [hvs]; decide)])
  obtain ⟨hz1, hz2, hz3, hz4⟩ := vsg_sizes hvs
  have HZ1 := Lib.hid hz1
  have HZ4 := Lib.hid hz4
  have HT1 : Hid (∀ k, ((g.1.take k).flatMap sortT).length ≤ 4000) := Lib.hid (fun k => by
    have h1 := flat_len sortT 46 (g.1.take k) (fun x hx => by
      have h2 := hz1 x (List.mem_of_mem_take hx)
      have h3 : x.data.toList.length = x.size := rfl
      unfold sortT
      simp only [List.length_append, List.length_cons, List.length_nil]
      omega)
    have h4 : (g.1.take k).length ≤ 40 := by rw [List.length_take]; omega
    omega)
  have HT2 : Hid (∀ k, ((g.2.take k).flatMap declT).length ≤ 40000) := Lib.hid (fun k => by
    have h1 := flat_len declT 400 (g.2.take k) (fun x hx => declT_len x (hz4 x (List.mem_of_mem_take hx)))
    have h4 : (g.2.take k).length ≤ 100 := by rw [List.length_take]; omega
    omega)
  rw [hvs] at HCV
  clear hvs HVV HVS hz1 hz4
  go_enter Tryz.func22, Tryz.ntmps22
  go_wp2_with fail
  refine HCV.out.mono ?_
  rintro e w4 ⟨rfl, hw4⟩
  have H4 := Lib.hid (HZ.out.trans hw4)
  have HBG4 := Lib.hid (hw4.heap HB.out (fun h => h))
  have HB5 : Hid (BdR w4.heap.size w4.heap.size [] (w4.alloc (.cells #[.pointer none, .slice none 0 0] 120))) := BdR.new _ _ (Nat.le_refl _)
  have HE5 : Hid (Ext w4 (w4.alloc (.cells #[.pointer none, .slice none 0 0] 120))) := (Upd.refl _ w4).alloc _
  have HBG5 := Lib.hid (HE5.out.heap HBG4.out (fun h => h))
  clear hw4 c0 c1 HCV
  have c0 := cellRow HBG5.out 0 (.slice sa g.1.length sc) rfl
  go_wp2_with fail
  try rw [hb0]
  generalize (w4.alloc (.cells #[.pointer none, .slice none 0 0] 120)) = w5 at *
  clear c0
  obtain ⟨nb, hnb⟩ : ∃ nb, w4.heap.size = nb := ⟨_, rfl⟩
  rw [hnb] at HB5
  try rw [hnb]
  have HNB := Lib.hid hnb
  clear hnb
  go_loopg [15] g.1.length (fun gk iv wr => ∃ k : Nat, iv = .int .i64 (k : Int) ∧ gk = g.1.length - k ∧ k ≤ g.1.length ∧ Hid (BdR nb nb ((g.1.take k).flatMap sortT) wr) ∧ Hid (Ext w4 wr))
  case atStart => exact ⟨0, rfl, rfl, Nat.zero_le _, Lib.hid (by simpa using HB5.out), HE5⟩
  case round =>
    clear HB5 HE5
    obtain ⟨k, rfl, rfl, hk, HBd, HE⟩ := hrel
    have hsz8 := HE.out.size
    have hl8 := HT1.out k
    by_cases hlt : k < g.1.length
    · obtain ⟨gg, off, hga, _, hat⟩ := StR.at_ (StR.ext HS1.out (H4.out.trans HE.out)) (by omega)
      subst hga
      have q0 := hat k hlt
      have z0 : (0 : Int) ≤ (k : Int) := by omega
      have z1 : (k : Int) < (g.1.length : Int) := by omega
      have z2 : decide ((k : Int) < (g.1.length : Int)) = true := decide_eq_true z1
      have z2' : decide (k < g.1.length) = true := decide_eq_true hlt
      have hxs := HZ1.out (bg g.1 k) (by rw [bg_at _ _ hlt]; exact List.getElem_mem hlt)
      have HFS := Lib.hid (flatB_snoc sortT g.1 k nul hlt)
      obtain ⟨x, hx⟩ : ∃ x, bg g.1 k = x := ⟨_, rfl⟩
      rw [show g.1.getD k nul = x from hx] at HFS
      rw [hx] at q0 hxs
      clear hat hx
      obtain ⟨R1, hR1⟩ : ∃ R, (⟨#[115, 111, 114, 116, 32]⟩ : ByteArray) ++ x = R := ⟨_, rfl⟩
      obtain ⟨R2, hR2⟩ : ∃ R, R1 ++ (⟨#[10]⟩ : ByteArray) = R := ⟨_, rfl⟩
      have HR : Hid (R2 = bs (sortT x)) := Lib.hid (by
        rw [← hR2, ← hR1]
        have e1 : (⟨#[115, 111, 114, 116, 32]⟩ : ByteArray) = bs [115, 111, 114, 116, 32] := rfl
        have e2 : (⟨#[10]⟩ : ByteArray) = bs [10] := rfl
        rw [e1, e2]
        have f1 : x = bs x.data.toList := (bs_of x).symm
        have g1 : sortT x = [115, 111, 114, 116, 32] ++ (x.data.toList ++ [10]) := rfl
        rw [g1]
        generalize x.data.toList = D at *
        rw [f1]
        simp only [bs_app, List.append_assoc])
      have hR1s : R1.size = 5 + x.size := by rw [← hR1, ByteArray.size_append]; rfl
      have s1 : ¬ (9223372036854775807 < 5 + x.size) := by omega
      have s2 : ¬ (9223372036854775807 < R1.size + 1) := by omega
      have hxl : (sortT x).length ≤ 46 := by
        have h3 : x.data.toList.length = x.size := rfl
        unfold sortT
        simp only [List.length_append, List.length_cons, List.length_nil]
        omega
      have q1 := hR1
      have q2 := hR2
      clear hR1 hR2
      go_wp2_with fail
      clear q1 q2 q0
      rw [HR.out]
      refine (write_x nb nb ((g.1.take k).flatMap sortT) (sortT x) _ HBd.out (by omega) (by have := HNB.out; omega)).mono ?_
      rintro e w7 ⟨rfl, h71, h72⟩
      have HE7 : Hid (Ext w4 w7) := Lib.hid (below_tr HE.out (by have := HNB.out; rw [this]; exact h72))
      have HB7 : Hid (BdR nb nb ((g.1.take (k + 1)).flatMap sortT) w7) := Lib.hid (by rw [HFS.out]; exact h71)
      clear h71 h72
      go_wp2_with fail
      go_roundg (g.1.length - (k + 1))
      case measure => omega
      case rel => exact ⟨k + 1, by go_num, rfl, by omega, HB7, HE7⟩
    · obtain rfl : k = g.1.length := by omega
      have z2 : decide ((g.1.length : Int) < (g.1.length : Int)) = false := decide_eq_false (by omega)
      have HBG8 := Lib.hid (HE.out.heap HBG4.out (fun h => h))
      have c1 := cellRow HBG8.out 1 (.slice oa g.2.length oc) rfl
      have HTK : Hid ((g.1.take g.1.length).flatMap sortT = g.1.flatMap sortT) := Lib.hid (by rw [List.take_length])
      rw [HTK.out] at HBd hl8
      obtain ⟨P1, hP1⟩ : ∃ P, g.1.flatMap sortT = P := ⟨_, rfl⟩
      have HTL : Hid (tsgL g = P1 ++ g.2.flatMap declT) := Lib.hid (by rw [← hP1]; rfl)
      rw [hP1] at HBd hl8
      clear hP1 HTK HBG5 HBG8 hsz8
      go_wp2_with fail
      clear c1 z2
      go_loopg [27] g.2.length (fun gk iv wr => ∃ k : Nat, iv = .int .i64 (k : Int) ∧ gk = g.2.length - k ∧ k ≤ g.2.length ∧ Hid (BdR nb nb (P1 ++ (g.2.take k).flatMap declT) wr) ∧ Hid (Ext w4 wr))
      case atStart => exact ⟨0, rfl, rfl, Nat.zero_le _, Lib.hid (by simpa using HBd.out), HE⟩
      case round =>
        clear HBd HE
        obtain ⟨k, rfl, rfl, hk, HBd, HE⟩ := hrel
        have hsz8 := HE.out.size
        have hl9 := HT2.out k
        by_cases hlt : k < g.2.length
        · obtain ⟨gg, off, hga, _, hat⟩ := (HD.out.ext (H4.out.trans HE.out)).at_ (by omega)
          subst hga
          obtain ⟨xa, xc, q0, q1, q2, hAr⟩ := hat k hlt
          have z0 : (0 : Int) ≤ (k : Int) := by omega
          have z1 : (k : Int) < (g.2.length : Int) := by omega
          have z2 : decide ((k : Int) < (g.2.length : Int)) = true := decide_eq_true z1
          have z2' : decide (k < g.2.length) = true := decide_eq_true hlt
          have hxs := HZ4.out (dg g.2 k) (by rw [dg_at hlt]; exact List.getElem_mem hlt)
          have hxl := declT_len _ hxs
          have hjl := joinB_len _ hxs.2.2.2
          have HFS := Lib.hid (flatB_snoc declT g.2 k (nul, [], nul) hlt)
          obtain ⟨⟨d1, d2, d3⟩, hdd⟩ : ∃ d, dg g.2 k = d := ⟨_, rfl⟩
          rw [show g.2.getD k (nul, [], nul) = (d1, d2, d3) from hdd] at HFS
          rw [hdd] at q0 q1 q2 hAr hxs hxl hjl
          dsimp only at q0 q1 q2 hAr hxs hxl hjl
          obtain ⟨k1, k2, k3, _⟩ := hxs
          have hQ := (Upd.refl (fun _ => False) wr).alloc (.cells #[.string d1, .slice xa d2.length xc, .string d3] 96)
          have HQ := Lib.hid hQ
          have HBD := Lib.hid (alloc0 wr (.cells #[.string d1, .slice xa d2.length xc, .string d3] 96))
          have HAr := Lib.hid (SlR.kept hAr hQ (fun _ _ h => h))
          have HBdQ := Lib.hid (HBd.out.ext hQ)
          have HEQ := Lib.hid (HE.out.trans hQ)
          clear hat hdd hAr hQ
          go_wp2_with fail
          clear q0 q1 q2
          obtain ⟨nd, hnd⟩ : ∃ nd, wr.heap.size = nd := ⟨_, rfl⟩
          try rw [hnd] at HBD
          try rw [hnd]
          have hsq := HQ.out.size
          generalize wr.alloc (.cells #[.string d1, .slice xa d2.length xc, .string d3] 96) = w6 at *
          clear hnd
          have HJ := Lib.hid (fun W (hW : Ext w6 W) => join_x d2 _ S W (SlR.kept HAr.out hW (fun _ _ h => h)) (fun j hj => Nat.lt_of_lt_of_le (HSS.out j hj) (Nat.le_trans (H4.out.trans HEQ.out).size hW.size)) (by omega) (by omega))
          obtain ⟨R1, hR1⟩ : ∃ R, (⟨#[111, 112, 32]⟩ : ByteArray) ++ d1 = R := ⟨_, rfl⟩
          obtain ⟨R2, hR2⟩ : ∃ R, R1 ++ (⟨#[40]⟩ : ByteArray) = R := ⟨_, rfl⟩
          obtain ⟨J, hJ⟩ : ∃ R, bs (joinB d2) = R := ⟨_, rfl⟩
          rw [hJ] at HJ
          obtain ⟨R3, hR3⟩ : ∃ R, R2 ++ J = R := ⟨_, rfl⟩
          obtain ⟨R4, hR4⟩ : ∃ R, R3 ++ (⟨#[41, 32, 45, 62, 32]⟩ : ByteArray) = R := ⟨_, rfl⟩
          obtain ⟨R5, hR5⟩ : ∃ R, R4 ++ d3 = R := ⟨_, rfl⟩
          obtain ⟨R6, hR6⟩ : ∃ R, R5 ++ (⟨#[10]⟩ : ByteArray) = R := ⟨_, rfl⟩
          have HR : Hid (R6 = bs (declT (d1, d2, d3))) := Lib.hid (by
            rw [← hR6, ← hR5, ← hR4, ← hR3, ← hR2, ← hR1, ← hJ]
            have e1 : (⟨#[111, 112, 32]⟩ : ByteArray) = bs [111, 112, 32] := rfl
            have e2 : (⟨#[10]⟩ : ByteArray) = bs [10] := rfl
            have e3 : (⟨#[40]⟩ : ByteArray) = bs [40] := rfl
            have e4 : (⟨#[41, 32, 45, 62, 32]⟩ : ByteArray) = bs [41, 32, 45, 62, 32] := rfl
            rw [e1, e2, e3, e4]
            have f1 : d1 = bs d1.data.toList := (bs_of d1).symm
            have f3 : d3 = bs d3.data.toList := (bs_of d3).symm
            have g1 : declT (d1, d2, d3) = [111, 112, 32] ++ (d1.data.toList ++ ([40] ++ (joinB d2 ++ ([41, 32, 45, 62, 32] ++ (d3.data.toList ++ [10]))))) := rfl
            rw [g1]
            generalize d1.data.toList = D1 at *
            generalize d3.data.toList = D3 at *
            subst f1 f3
            simp only [bs_app, List.append_assoc])
          have hJs : J.size ≤ 42 * d2.length := by rw [← hJ, bs_size]; exact hjl
          have r1 : R1.size = 3 + d1.size := by rw [← hR1, ByteArray.size_append]; rfl
          have r2 : R2.size = R1.size + 1 := by rw [← hR2, ByteArray.size_append]; rfl
          have r3 : R3.size = R2.size + J.size := by rw [← hR3, ByteArray.size_append]
          have r4 : R4.size = R3.size + 5 := by rw [← hR4, ByteArray.size_append]; rfl
          have r5 : R5.size = R4.size + d3.size := by rw [← hR5, ByteArray.size_append]
          have s1 : ¬ (9223372036854775807 < 3 + d1.size) := by omega
          have s2 : ¬ (9223372036854775807 < R1.size + 1) := by omega
          have s3 : ¬ (9223372036854775807 < R2.size + J.size) := by omega
          have s4 : ¬ (9223372036854775807 < R3.size + 5) := by omega
          have s5 : ¬ (9223372036854775807 < R4.size + d3.size) := by omega
          have s6 : ¬ (9223372036854775807 < R5.size + 1) := by omega
          have HDX : Hid (∀ x : XW w6, x.val.cell? ⟨nd, 0, none⟩ = some (.string d1) ∧ x.val.cell? ⟨nd, 1, none⟩ = some (.slice xa d2.length xc) ∧ x.val.cell? ⟨nd, 2, none⟩ = some (.string d3)) := Lib.hid (fun x => ⟨cellRow (x.ext.heap HBD.out (fun h => h)) 0 _ rfl, cellRow (x.ext.heap HBD.out (fun h => h)) 1 _ rfl, cellRow (x.ext.heap HBD.out (fun h => h)) 2 _ rfl⟩)
          have hX0 := fun x : XW w6 => (HDX.out x).1
          have hX1 := fun x : XW w6 => (HDX.out x).2.1
          have hX2 := fun x : XW w6 => (HDX.out x).2.2
          clear hJ
          clear r1 r2 r3 r4 r5 hJs k1 k2 k3
          refine wp_region_par (α := Nat) 13 [(13, 2)] [[], [0], [0, 1], [0, 1, 2], [], [4], [4, 5], [0, 1, 2, 3, 4, 5, 6], [0, 1, 2, 3, 4, 5, 6, 7], [], [9], [0, 1, 2, 3, 4, 5, 6, 7, 8, 9, 10], [0, 1, 2, 3, 4, 5, 6, 7, 8, 9, 10, 11], [0, 1, 2, 3, 4, 5, 6, 7, 8, 9, 10, 11, 12]]
            [none, none, none, none, none, none, some (annVal (.string J)), none, none, none, none, none, none] [false, false, false, false, false, false, true, false, false, false, false, false, false] (by kernel_rfl) (by kernel_rfl) rfl (fun _ _ d _ _ h => by cases d <;> exact h) ?_
          simp only [List.take_succ_cons, List.take_zero, pickO, List.getElem?_cons_zero, List.getElem?_cons_succ]
          iterate 6 (refine can_pure0 rfl (fun K hK => ?_); go_simp; refine hK _ ?_; clear hK K)
          refine can_mem _ rfl (by go_simp) (fun W hW hG K hK => ?_) (fun K x6 hK => ?_)
          · go_simp
            refine (HJ.out W hW).mono ?_
            rintro e w' ⟨rfl, h⟩
            exact hK default w' h trivial
          refine hK _ ?_; clear hK K
          dsimp only [annVal]
          iterate 6 (refine can_pure0 rfl (fun K hK => ?_); go_simp; refine hK _ ?_; clear hK K)
          refine can_end (fun W hW hG => ?_)
          clear hG hX0 hX1 hX2 hR1 hR2 hR3 hR4 hR5 hR6 s1 s2 s3 s4 s5 s6
          rw [HR.out]
          have HEW := Lib.hid (HEQ.out.trans hW)
          have HBW := Lib.hid (HBdQ.out.ext hW)
          have hszW := HEW.out.size
          clear hW
          refine mix_two ?_
          intro K hK
          go_simp
          refine (write_x nb nb (P1 ++ (g.2.take k).flatMap declT) (declT (d1, d2, d3)) W HBW.out (by simp only [List.length_append]; omega) (by have := HNB.out; omega)).mono ?_
          rintro e w7 ⟨rfl, h71, h72⟩
          have HE7 : Hid (Ext w4 w7) := Lib.hid (below_tr HEW.out (by have := HNB.out; rw [this]; exact h72))
          have HB7 : Hid (BdR nb nb (P1 ++ (g.2.take (k + 1)).flatMap declT) w7) := Lib.hid (by rw [HFS.out, ← List.append_assoc]; exact h71)
          clear h71 h72
          refine hK _ _ ?_
          clear hK K
          simp only [wpMix]
          go_wp2_with fail
          go_roundg (g.2.length - (k + 1))
          case measure => omega
          case rel => exact ⟨k + 1, by go_num, rfl, by omega, HB7, HE7⟩
        · obtain rfl : k = g.2.length := by omega
          have z2 : decide ((g.2.length : Int) < (g.2.length : Int)) = false := decide_eq_false (by omega)
          have hbd := HBd.out
          rw [List.take_length, ← HTL.out] at hbd
          have HBT := Lib.hid hbd
          have HF := Lib.hid (fun W => fit_x (tsgL g) W)
          obtain ⟨F, hF⟩ : ∃ F, fitF (tsgL g) = F := ⟨_, rfl⟩
          rw [hF] at HF HV2
          obtain ⟨f1, f2⟩ := F
          dsimp only at HF
          have HV : Hid (V = (f1, f2)) := HV2
          clear hbd hF HV2
          go_wp2_with fail
          refine (bstr_x nb nb (tsgL g) wr HBT.out (by have := HNB.out; omega)).mono ?_
          rintro e w7 ⟨rfl, h72⟩
          have HE7 : Hid (Ext w4 w7) := Lib.hid (below_tr HE.out (by have := HNB.out; rw [this]; exact h72))
          clear h72
          go_wp2_with fail
          refine (HF.out w7).mono ?_
          rintro e w8 ⟨rfl, hw8⟩
          have H8 := Lib.hid (H4.out.trans (HE7.out.trans hw8))
          clear hw8
          go_wp2_with fail
          go_ret2
          rw [HV.out]
          exact ⟨rfl, H8.out⟩

end Go.Proofs.YtjjaknmnhhfjeaaGreatDoor

/- Symbols and words. -/
namespace Go.Proofs.YtjjaknmnhhfjeaaGreatDoor
open Go.RowKit Go.Hw Go
set_option linter.unusedVariables false
set_option linter.unusedSimpArgs false

open Tm
def hpB (s : By) (p : List UInt8) : Bool := Lib.hasPrefix s.data.toList p
def sy4 : List (List UInt8) := [[61, 61], [33, 61], [60, 61], [45, 62]]
def symSet : List UInt8 := [40, 41, 123, 125, 91, 93, 44, 59, 58, 46, 61, 60, 43, 45, 42, 47, 37]
def byt (s : By) (i : Nat) : Nat := (s.data.toList.getD i 0).toNat
def symF (s : By) : List UInt8 := if hpB s [61, 61] = true then [61, 61] else if hpB s [33, 61] = true then [33, 61] else if hpB s [60, 61] = true then [60, 61] else if hpB s [45, 62] = true then [45, 62] else
  if 0 < s.size ∧ 0 ≤ Lib.indexByte symSet (s.data.toList.getD 0 0) then [s.data.toList.getD 0 0] else []
theorem ext01 (s : By) (h : 0 < s.size) : s.extract 0 1 = bs [s.data.toList.getD 0 0] := by
  apply ba_list
  rw [bs_data, ByteArray.data_extract, Array.toList_extract]
  have : s.data.toList.length = s.size := rfl
  cases h2 : s.data.toList with
  | nil => rw [h2] at this; simp at this; omega
  | cons a l => simp
theorem ix175 (k : Nat) (hk : k < 4) (W : World) : (Instr.index 175 (.agg #[.string ⟨#[61, 61]⟩, .string ⟨#[33, 61]⟩, .string ⟨#[60, 61]⟩, .string ⟨#[45, 62]⟩]) (.int .i64 (k : Int))).run Tryz.prog W = .ok (.string (bs (sy4.getD k []))) W := by
  rcases (by omega : k = 0 ∨ k = 1 ∨ k = 2 ∨ k = 3) with rfl | rfl | rfl | rfl <;> simp [Instr.index, run_underlying Tryz.underlying175, asIntOf, go_sem, sy4, bs]
set_option maxRecDepth 100000 in
set_option maxHeartbeats 2000000 in
theorem symbol_x (s : By) (w : World) : Calls Tryz.prog 100 #[.string s] w fun e w' => e = .returned (.string (bs (symF s))) ∧ Ext w w' := by
  obtain ⟨V, hV⟩ : ∃ V, symF s = V := ⟨_, rfl⟩
  go_enter Tryz.func100, Tryz.ntmps100
  go_wp2_with fail
  go_loopg [6] 4 (fun gk iv wr => ∃ k : Nat, iv = .int .i64 (k : Int) ∧ gk = 4 - k ∧ k ≤ 4 ∧ Hid (∀ j, j < k → hpB s (sy4.getD j []) = false) ∧ wr = w)
  case atStart => exact ⟨0, rfl, rfl, Nat.zero_le _, Lib.hid (fun j h => absurd h (Nat.not_lt_zero _)), rfl⟩
  case round =>
    obtain ⟨k, rfl, hgk, hk, HM, rfl⟩ := hrel
    by_cases hlt : k < 4
    · rcases (by omega : k = 0 ∨ k = 1 ∨ k = 2 ∨ k = 3) with rfl | rfl | rfl | rfl
      · have HPX := Lib.hid (Tryz.strings_HasPrefix s ⟨#[61, 61]⟩ wr)
        have HYS : Hid (hpB s [61, 61] = true → symF s = [61, 61]) := Lib.hid (fun h => by
          unfold symF
          skip
          rw [if_pos h])
        have HN : Hid (hpB s [61, 61] = false → ∀ j, j < 1 → hpB s (sy4.getD j []) = false) := Lib.hid (fun h j hj => by
          rcases Nat.lt_succ_iff_lt_or_eq.1 hj with h5 | h5
          · exact HM.out j h5
          · rw [h5]; exact h)
        rw [show Lib.hasPrefix s.data.toList (⟨#[61, 61]⟩ : ByteArray).data.toList = hpB s [61, 61] from rfl] at HPX
        obtain ⟨b, hb⟩ : ∃ b, hpB s [61, 61] = b := ⟨_, rfl⟩
        rw [hb] at HPX HYS HN
        clear hb hlt HM
        have hix : (Instr.index 175 (.agg #[.string ⟨#[61, 61]⟩, .string ⟨#[33, 61]⟩, .string ⟨#[60, 61]⟩, .string ⟨#[45, 62]⟩]) (.int .i64 (0 : Int))).run Tryz.prog wr = .ok (.string ⟨#[61, 61]⟩) wr := ix175 0 (by omega) wr
        go_wp2_with fail
        try rw [hix]
        try simp only [Result.andThen]
        try rw [Oper.upon_value]
        clear hix
        go_wp2_with fail
        refine HPX.out.mono ?_
        rintro e w4 ⟨rfl, rfl⟩
        clear HPX
        cases b
        · have HN2 := Lib.hid (HN.out rfl)
          go_wp2_with fail
          go_roundg (3)
          case measure => omega
          case rel => exact ⟨1, by go_num, by omega, by omega, HN2, rfl⟩
        · have HV := Lib.hid (HYS.out rfl)
          go_wp2_with fail
          go_ret
          rw [HV.out]
          exact ⟨rfl, Upd.refl _ _⟩
      · have HPX := Lib.hid (Tryz.strings_HasPrefix s ⟨#[33, 61]⟩ wr)
        have HYS : Hid (hpB s [33, 61] = true → symF s = [33, 61]) := Lib.hid (fun h => by
          unfold symF
          rw [if_neg (by rw [show hpB s [61, 61] = false from HM.out 0 (by omega)]; decide)]
          rw [if_pos h])
        have HN : Hid (hpB s [33, 61] = false → ∀ j, j < 2 → hpB s (sy4.getD j []) = false) := Lib.hid (fun h j hj => by
          rcases Nat.lt_succ_iff_lt_or_eq.1 hj with h5 | h5
          · exact HM.out j h5
          · rw [h5]; exact h)
        rw [show Lib.hasPrefix s.data.toList (⟨#[33, 61]⟩ : ByteArray).data.toList = hpB s [33, 61] from rfl] at HPX
        obtain ⟨b, hb⟩ : ∃ b, hpB s [33, 61] = b := ⟨_, rfl⟩
        rw [hb] at HPX HYS HN
        clear hb hlt HM
        have hix : (Instr.index 175 (.agg #[.string ⟨#[61, 61]⟩, .string ⟨#[33, 61]⟩, .string ⟨#[60, 61]⟩, .string ⟨#[45, 62]⟩]) (.int .i64 (1 : Int))).run Tryz.prog wr = .ok (.string ⟨#[33, 61]⟩) wr := ix175 1 (by omega) wr
        go_wp2_with fail
        try rw [hix]
        try simp only [Result.andThen]
        try rw [Oper.upon_value]
        clear hix
        go_wp2_with fail
        refine HPX.out.mono ?_
        rintro e w4 ⟨rfl, rfl⟩
        clear HPX
        cases b
        · have HN2 := Lib.hid (HN.out rfl)
          go_wp2_with fail
          go_roundg (2)
          case measure => omega
          case rel => exact ⟨2, by go_num, by omega, by omega, HN2, rfl⟩
        · have HV := Lib.hid (HYS.out rfl)
          go_wp2_with fail
          go_ret
          rw [HV.out]
          exact ⟨rfl, Upd.refl _ _⟩
      · have HPX := Lib.hid (Tryz.strings_HasPrefix s ⟨#[60, 61]⟩ wr)
        have HYS : Hid (hpB s [60, 61] = true → symF s = [60, 61]) := Lib.hid (fun h => by
          unfold symF
          rw [if_neg (by rw [show hpB s [61, 61] = false from HM.out 0 (by omega)]; decide)]; rw [if_neg (by rw [show hpB s [33, 61] = false from HM.out 1 (by omega)]; decide)]
          rw [if_pos h])
        have HN : Hid (hpB s [60, 61] = false → ∀ j, j < 3 → hpB s (sy4.getD j []) = false) := Lib.hid (fun h j hj => by
          rcases Nat.lt_succ_iff_lt_or_eq.1 hj with h5 | h5
          · exact HM.out j h5
          · rw [h5]; exact h)
        rw [show Lib.hasPrefix s.data.toList (⟨#[60, 61]⟩ : ByteArray).data.toList = hpB s [60, 61] from rfl] at HPX
        obtain ⟨b, hb⟩ : ∃ b, hpB s [60, 61] = b := ⟨_, rfl⟩
        rw [hb] at HPX HYS HN
        clear hb hlt HM
        have hix : (Instr.index 175 (.agg #[.string ⟨#[61, 61]⟩, .string ⟨#[33, 61]⟩, .string ⟨#[60, 61]⟩, .string ⟨#[45, 62]⟩]) (.int .i64 (2 : Int))).run Tryz.prog wr = .ok (.string ⟨#[60, 61]⟩) wr := ix175 2 (by omega) wr
        go_wp2_with fail
        try rw [hix]
        try simp only [Result.andThen]
        try rw [Oper.upon_value]
        clear hix
        go_wp2_with fail
        refine HPX.out.mono ?_
        rintro e w4 ⟨rfl, rfl⟩
        clear HPX
        cases b
        · have HN2 := Lib.hid (HN.out rfl)
          go_wp2_with fail
          go_roundg (1)
          case measure => omega
          case rel => exact ⟨3, by go_num, by omega, by omega, HN2, rfl⟩
        · have HV := Lib.hid (HYS.out rfl)
          go_wp2_with fail
          go_ret
          rw [HV.out]
          exact ⟨rfl, Upd.refl _ _⟩
      · have HPX := Lib.hid (Tryz.strings_HasPrefix s ⟨#[45, 62]⟩ wr)
        have HYS : Hid (hpB s [45, 62] = true → symF s = [45, 62]) := Lib.hid (fun h => by
          unfold symF
          rw [if_neg (by rw [show hpB s [61, 61] = false from HM.out 0 (by omega)]; decide)]; rw [if_neg (by rw [show hpB s [33, 61] = false from HM.out 1 (by omega)]; decide)]; rw [if_neg (by rw [show hpB s [60, 61] = false from HM.out 2 (by omega)]; decide)]
          rw [if_pos h])
        have HN : Hid (hpB s [45, 62] = false → ∀ j, j < 4 → hpB s (sy4.getD j []) = false) := Lib.hid (fun h j hj => by
          rcases Nat.lt_succ_iff_lt_or_eq.1 hj with h5 | h5
          · exact HM.out j h5
          · rw [h5]; exact h)
        rw [show Lib.hasPrefix s.data.toList (⟨#[45, 62]⟩ : ByteArray).data.toList = hpB s [45, 62] from rfl] at HPX
        obtain ⟨b, hb⟩ : ∃ b, hpB s [45, 62] = b := ⟨_, rfl⟩
        rw [hb] at HPX HYS HN
        clear hb hlt HM
        have hix : (Instr.index 175 (.agg #[.string ⟨#[61, 61]⟩, .string ⟨#[33, 61]⟩, .string ⟨#[60, 61]⟩, .string ⟨#[45, 62]⟩]) (.int .i64 (3 : Int))).run Tryz.prog wr = .ok (.string ⟨#[45, 62]⟩) wr := ix175 3 (by omega) wr
        go_wp2_with fail
        try rw [hix]
        try simp only [Result.andThen]
        try rw [Oper.upon_value]
        clear hix
        go_wp2_with fail
        refine HPX.out.mono ?_
        rintro e w4 ⟨rfl, rfl⟩
        clear HPX
        cases b
        · have HN2 := Lib.hid (HN.out rfl)
          go_wp2_with fail
          go_roundg (0)
          case measure => omega
          case rel => exact ⟨4, by go_num, by omega, by omega, HN2, rfl⟩
        · have HV := Lib.hid (HYS.out rfl)
          go_wp2_with fail
          go_ret
          rw [HV.out]
          exact ⟨rfl, Upd.refl _ _⟩
    · obtain rfl : k = 4 := by omega
      have HS : Hid (symF s = if 0 < s.size ∧ 0 ≤ Lib.indexByte symSet (s.data.toList.getD 0 0) then [s.data.toList.getD 0 0] else []) := Lib.hid (by
        unfold symF
        rw [if_neg (by rw [show hpB s [61, 61] = false from HM.out 0 (by omega)]; decide), if_neg (by rw [show hpB s [33, 61] = false from HM.out 1 (by omega)]; decide), if_neg (by rw [show hpB s [60, 61] = false from HM.out 2 (by omega)]; decide), if_neg (by rw [show hpB s [45, 62] = false from HM.out 3 (by omega)]; decide)])
      clear HM hlt hgk
      by_cases h0 : 0 < s.size
      · obtain ⟨z1, z2, z3, z4⟩ := nonempty_t s h0
        have hat : s.data.toList.getD 0 0 = s[0]'h0 := at_list s 0 h0
        have HX := Lib.hid (ext01 s h0)
        have HIB := Lib.hid (Tryz.strings_IndexByte ⟨#[40, 41, 123, 125, 91, 93, 44, 59, 58, 46, 61, 60, 43, 45, 42, 47, 37]⟩ ((s[0]'h0).toNat : Int) wr)
        have e9 : (((s[0]'h0).toNat : Int)).toNat.toUInt8 = s.data.toList.getD 0 0 := by rw [hat]; simp
        rw [e9, show (⟨#[40, 41, 123, 125, 91, 93, 44, 59, 58, 46, 61, 60, 43, 45, 42, 47, 37]⟩ : ByteArray).data.toList = symSet from rfl] at HIB
        obtain ⟨X, hX⟩ : ∃ X, Lib.indexByte symSet (s.data.toList.getD 0 0) = X := ⟨_, rfl⟩
        rw [hX] at HIB HS
        by_cases hx : 0 ≤ X
        · have HV : Hid (symF s = [s.data.toList.getD 0 0]) := Lib.hid (by rw [HS.out, if_pos ⟨h0, hx⟩])
          have t1 : decide ((0 : Int) ≤ X) = true := decide_eq_true hx
          have i1 : (1 : Int) ≤ (s.size : Int) := by omega
          clear hat e9 hX HS
          go_wp2_with fail
          refine HIB.out.mono ?_
          rintro e w4 ⟨rfl, rfl⟩
          go_wp2_with fail
          go_ret
          rw [HX.out, HV.out]
          exact ⟨rfl, Upd.refl _ _⟩
        · have HV : Hid (symF s = []) := Lib.hid (by rw [HS.out, if_neg (fun h => hx h.2)])
          have t1 : decide ((0 : Int) ≤ X) = false := decide_eq_false hx
          clear hat e9 hX HS
          go_wp2_with fail
          refine HIB.out.mono ?_
          rintro e w4 ⟨rfl, rfl⟩
          go_wp2_with fail
          go_ret
          rw [HV.out]
          exact ⟨rfl, Upd.refl _ _⟩
      · have HV : Hid (symF s = []) := Lib.hid (by rw [HS.out, if_neg (fun h => h0 h.1)])
        obtain rfl := empty_is s (by omega)
        clear HS h0
        go_wp2_with fail
        go_ret
        rw [HV.out]
        exact ⟨rfl, Upd.refl _ _⟩
theorem st5_heap {W : World} {z : Nat} {t : TypeId} {v0 v1 v2 v3 v4 : Value} (h : W.heap[z]? = some (.cells #[v0, v1, v2, v3, v4] t (0, 0))) (u0 u1 u2 u3 u4 : Value) : (((((W.setCell ⟨z, 0, none⟩ u0).setCell ⟨z, 1, none⟩ u1).setCell ⟨z, 2, none⟩ u2).setCell ⟨z, 3, none⟩ u3).setCell ⟨z, 4, none⟩ u4).heap[z]? = some (.cells #[u0, u1, u2, u3, u4] t (0, 0)) := by
  have := setBlock (setBlock (setBlock (setBlock (setBlock h 0 u0) 1 u1) 2 u2) 3 u3) 4 u4
  simpa using this
theorem st5_upd (W : World) (z : Nat) (u0 u1 u2 u3 u4 : Value) : Upd (fun k => k = z) W (((((W.setCell ⟨z, 0, none⟩ u0).setCell ⟨z, 1, none⟩ u1).setCell ⟨z, 2, none⟩ u2).setCell ⟨z, 3, none⟩ u3).setCell ⟨z, 4, none⟩ u4) :=
  (((((Upd.refl (fun k => k = z) W).setCell (p := ⟨z, 0, none⟩) (.inl rfl) u0).setCell (p := ⟨z, 1, none⟩) (.inl rfl) u1).setCell (p := ⟨z, 2, none⟩) (.inl rfl) u2).setCell (p := ⟨z, 3, none⟩) (.inl rfl) u3).setCell (p := ⟨z, 4, none⟩) (.inl rfl) u4
structure Wd where
  kind : Nat
  text : By
  n : Int
  ok : Bool
def wdF (iF : By → Int × Bool) (s : By) : Wd := if kwB s = true then ⟨3, s, 0, true⟩ else if nmB s = true then ⟨1, s, 0, true⟩ else ⟨2, nul, (iF s).1, (iF s).2⟩
def WdR (q : Wd) (e : Ending) : Prop := e = .returned (.tuple #[.agg #[.int .i64 (q.kind : Int), .string q.text, .int .i64 q.n, .int .i64 0, .int .i64 0], .bool q.ok])
set_option maxRecDepth 100000 in
set_option maxHeartbeats 2000000 in
theorem pword_x (iF : By → Int × Bool) (s : By) (w : World) (htab : AscT w) (hint : kwB s = true ∨ nmB s = true ∨ ∀ W, Ext w W → Calls Tryz.prog 124 #[.string s] W fun e W' => e = .returned (.tuple #[.int .i64 (iF s).1, .bool (iF s).2]) ∧ Ext W W') :
    Calls Tryz.prog 99 #[.string s] w fun e w' => WdR (wdF iF s) e ∧ Ext w w' := by
  have HE := Lib.hid ((Upd.refl (fun _ => False) w).alloc (.cells #[.int .i64 0, .string ⟨#[]⟩, .int .i64 0, .int .i64 0, .int .i64 0] 114))
  have HB := Lib.hid (alloc0 w (.cells #[.int .i64 0, .string ⟨#[]⟩, .int .i64 0, .int .i64 0, .int .i64 0] 114))
  have HK := Lib.hid (isKeyword_x s (w.alloc (.cells #[.int .i64 0, .string ⟨#[]⟩, .int .i64 0, .int .i64 0, .int .i64 0] 114)) (asc_ext htab HE.out))
  have HIN := Lib.hid (fun W (hW : Ext w W) => isName_x s W (asc_ext htab hW))
  have HI := Lib.hid hint
  have HSZ : Hid (w.heap.size + 1 ≤ (w.alloc (.cells #[.int .i64 0, .string ⟨#[]⟩, .int .i64 0, .int .i64 0, .int .i64 0] 114)).heap.size) := Lib.hid (by simp)
  have HV : Hid (wdF iF s = if kwB s = true then ⟨3, s, 0, true⟩ else if nmB s = true then ⟨1, s, 0, true⟩ else ⟨2, nul, (iF s).1, (iF s).2⟩) := Lib.hid rfl
  obtain ⟨V, hV⟩ : ∃ V, wdF iF s = V := ⟨_, rfl⟩
  rw [hV] at HV ⊢
  clear hV htab hint
  obtain ⟨b1, hb1⟩ : ∃ b, kwB s = b := ⟨_, rfl⟩
  rw [hb1] at HK HV HI
  go_enter Tryz.func99, Tryz.ntmps99
  go_wp2_with fail
  generalize w.alloc (.cells #[.int .i64 0, .string ⟨#[]⟩, .int .i64 0, .int .i64 0, .int .i64 0] 114) = w1 at *
  refine HK.out.mono ?_
  rintro e w4 ⟨rfl, hw4⟩
  have H4 := Lib.hid (HE.out.trans hw4)
  have HB4 := Lib.hid (hw4.heap HB.out (fun h => h))
  have hs4 := hw4.size
  have hsz := HSZ.out
  clear hw4 HK hb1
  cases b1
  case true =>
    have HV2 : Hid (V = ⟨3, s, 0, true⟩) := Lib.hid (by rw [HV.out]; rfl)
    have f0 := fun i => frozenRow HB4.out i
    have d0 := cellRow HB4.out 0 (.int .i64 0) rfl
    have d1 := cellRow HB4.out 1 (.string ⟨#[]⟩) rfl
    have d2 := cellRow HB4.out 2 (.int .i64 0) rfl
    have d3 := cellRow HB4.out 3 (.int .i64 0) rfl
    have d4 := cellRow HB4.out 4 (.int .i64 0) rfl
    go_wp2_with fail
    have hr5 := st5_heap HB4.out (.int .i64 3) (.string s) (.int .i64 0) (.int .i64 0) (.int .i64 0)
    have hu := st5_upd w4 w.heap.size (.int .i64 3) (.string s) (.int .i64 0) (.int .i64 0) (.int .i64 0)
    have e0 := cellRow hr5 0 _ rfl
    have e1 := cellRow hr5 1 _ rfl
    have e2 := cellRow hr5 2 _ rfl
    have e3 := cellRow hr5 3 _ rfl
    have e4 := cellRow hr5 4 _ rfl
    refine bodyPost_ret (v := .tuple #[.agg #[.int .i64 3, .string s, .int .i64 0, .int .i64 0, .int .i64 0], .bool true]) (by simp [results, Tryz.results99, go_sem, e0, e1, e2, e3, e4]) rfl ?_
    have hue := H4.out.trans' hu (fun j hj e => by omega)
    rw [HV2.out]; exact ⟨rfl, hue⟩
  have HN := Lib.hid (HIN.out w4 H4.out)
  obtain ⟨b2, hb2⟩ : ∃ b, nmB s = b := ⟨_, rfl⟩
  rw [hb2] at HN HV HI
  clear hb2
  go_wp2_with fail
  refine HN.out.mono ?_
  rintro e w5 ⟨rfl, hw5⟩
  have H5 := Lib.hid (H4.out.trans hw5)
  have HB5 := Lib.hid (hw5.heap HB4.out (fun h => h))
  have hs5 := hw5.size
  clear hw5 HN HB4
  cases b2
  case true =>
    have HV2 : Hid (V = ⟨1, s, 0, true⟩) := Lib.hid (by rw [HV.out]; rfl)
    have f0 := fun i => frozenRow HB5.out i
    have d0 := cellRow HB5.out 0 (.int .i64 0) rfl
    have d1 := cellRow HB5.out 1 (.string ⟨#[]⟩) rfl
    have d2 := cellRow HB5.out 2 (.int .i64 0) rfl
    have d3 := cellRow HB5.out 3 (.int .i64 0) rfl
    have d4 := cellRow HB5.out 4 (.int .i64 0) rfl
    go_wp2_with fail
    have hr5 := st5_heap HB5.out (.int .i64 1) (.string s) (.int .i64 0) (.int .i64 0) (.int .i64 0)
    have hu := st5_upd w5 w.heap.size (.int .i64 1) (.string s) (.int .i64 0) (.int .i64 0) (.int .i64 0)
    have e0 := cellRow hr5 0 _ rfl
    have e1 := cellRow hr5 1 _ rfl
    have e2 := cellRow hr5 2 _ rfl
    have e3 := cellRow hr5 3 _ rfl
    have e4 := cellRow hr5 4 _ rfl
    refine bodyPost_ret (v := .tuple #[.agg #[.int .i64 1, .string s, .int .i64 0, .int .i64 0, .int .i64 0], .bool true]) (by simp [results, Tryz.results99, go_sem, e0, e1, e2, e3, e4]) rfl ?_
    have hue := H5.out.trans' hu (fun j hj e => by omega)
    rw [HV2.out]; exact ⟨rfl, hue⟩
  have HI2 := Lib.hid ((HI.out.resolve_left (by decide)).resolve_left (by decide) w5 H5.out)
  have HV2 : Hid (V = ⟨2, nul, (iF s).1, (iF s).2⟩) := Lib.hid (by rw [HV.out]; rfl)
  obtain ⟨⟨n1, n2⟩, hn⟩ : ∃ p, iF s = p := ⟨_, rfl⟩
  rw [hn] at HI2 HV2
  dsimp only at HI2 HV2
  clear hn HI
  go_wp2_with fail
  refine HI2.out.mono ?_
  rintro e w6 ⟨rfl, hw6⟩
  have H6 := Lib.hid (H5.out.trans hw6)
  have HB6 := Lib.hid (hw6.heap HB5.out (fun h => h))
  have hs6 := hw6.size
  clear hw6 HI2 HB5
  have f0 := fun i => frozenRow HB6.out i
  have d0 := cellRow HB6.out 0 (.int .i64 0) rfl
  have d1 := cellRow HB6.out 1 (.string ⟨#[]⟩) rfl
  have d2 := cellRow HB6.out 2 (.int .i64 0) rfl
  have d3 := cellRow HB6.out 3 (.int .i64 0) rfl
  have d4 := cellRow HB6.out 4 (.int .i64 0) rfl
  go_wp2_with fail
  have hr5 := st5_heap HB6.out (.int .i64 2) (.string ⟨#[]⟩) (.int .i64 n1) (.int .i64 0) (.int .i64 0)
  have hu := st5_upd w6 w.heap.size (.int .i64 2) (.string ⟨#[]⟩) (.int .i64 n1) (.int .i64 0) (.int .i64 0)
  have e0 := cellRow hr5 0 _ rfl
  have e1 := cellRow hr5 1 _ rfl
  have e2 := cellRow hr5 2 _ rfl
  have e3 := cellRow hr5 3 _ rfl
  have e4 := cellRow hr5 4 _ rfl
  refine bodyPost_ret (v := .tuple #[.agg #[.int .i64 2, .string ⟨#[]⟩, .int .i64 n1, .int .i64 0, .int .i64 0], .bool n2]) (by simp [results, Tryz.results99, go_sem, e0, e1, e2, e3, e4]) rfl ?_
  have hue := H6.out.trans' hu (fun j hj e => by omega)
  rw [HV2.out]; exact ⟨rfl, hue⟩

end Go.Proofs.YtjjaknmnhhfjeaaGreatDoor

/- Tokens of the program. -/
namespace Go.Proofs.YtjjaknmnhhfjeaaGreatDoor
open Go.RowKit Go.Hw Go
set_option linter.unusedVariables false
set_option linter.unusedSimpArgs false

open Tm
theorem st2_heap {W : World} {z : Nat} {t : TypeId} {v0 v1 : Value} (h : W.heap[z]? = some (.cells #[v0, v1] t (0, 0))) (u0 u1 : Value) : ((W.setCell ⟨z, 0, none⟩ u0).setCell ⟨z, 1, none⟩ u1).heap[z]? = some (.cells #[u0, u1] t (0, 0)) := by
  have := setBlock (setBlock h 0 u0) 1 u1
  simpa using this
theorem st2_upd (W : World) (z : Nat) (u0 u1 : Value) : Upd (fun k => k = z) W ((W.setCell ⟨z, 0, none⟩ u0).setCell ⟨z, 1, none⟩ u1) :=
  ((Upd.refl (fun k => k = z) W).setCell (p := ⟨z, 0, none⟩) (.inl rfl) u0).setCell (p := ⟨z, 1, none⟩) (.inl rfl) u1
theorem infoTk : (Tryz.prog.info? 114).map (fun i => (i.zero, i.size, i.bytes)) = some (some (.agg #[.int .i64 0, .string ⟨#[]⟩, .int .i64 0, .int .i64 0, .int .i64 0]), 5, 48) := by kernel_rfl
theorem news5 (W : World) (u0 u1 u2 u3 u4 : Value) : ∀ (j : Nat) (u : Value), [u0, u1, u2, u3, u4][j]? = some u → (W.alloc (.cells #[u0, u1, u2, u3, u4] 114)).cell? ((⟨W.heap.size, 0, none⟩ : Addr).add j) = some u := fun j u hj => by
  match j, hj with
  | 0, hj => simp at hj; subst hj; simp only [Addr.add]; exact cellRow (alloc0 _ _) 0 _ rfl
  | 1, hj => simp at hj; subst hj; simp only [Addr.add]; exact cellRow (alloc0 _ _) 1 _ rfl
  | 2, hj => simp at hj; subst hj; simp only [Addr.add]; exact cellRow (alloc0 _ _) 2 _ rfl
  | 3, hj => simp at hj; subst hj; simp only [Addr.add]; exact cellRow (alloc0 _ _) 3 _ rfl
  | 4, hj => simp at hj; subst hj; simp only [Addr.add]; exact cellRow (alloc0 _ _) 4 _ rfl
theorem one5 (a : Int) (b : ByteArray) (c d e : Int) : ∀ u ∈ [Value.int .i64 a, .string b, .int .i64 c, .int .i64 d, .int .i64 e], u.oneCell' = true := fun u hu => by
  simp at hu
  rcases hu with h | h | h | h | h <;> (subst h; rfl)
def skC (s : By) : Nat → Nat → Nat
  | 0, i => i
  | m + 1, i => if i < s.size ∧ byt s i ≠ 10 then skC s m (i + 1) else i
theorem skC_end {s : By} {m k : Nat} (hm : s.size - k ≤ m) (h : ¬ (k < s.size ∧ byt s k ≠ 10)) : skC s m k = k := by
  cases m with
  | zero => rfl
  | succ m => unfold skC; rw [if_neg h]
theorem skC_go {s : By} {m k : Nat} (hm : s.size - k ≤ m) (h : k < s.size ∧ byt s k ≠ 10) : ∃ m', skC s m k = skC s m' (k + 1) ∧ s.size - (k + 1) ≤ m' := by
  cases m with
  | zero => omega
  | succ m => exact ⟨m, by rw [skC, if_pos h], by omega⟩
theorem skC_le {s : By} : ∀ (m k : Nat), k ≤ s.size → k ≤ skC s m k ∧ skC s m k ≤ s.size
  | 0, k, h => ⟨Nat.le_refl _, h⟩
  | m + 1, k, h => by
    unfold skC
    split
    · rename_i h2
      have := skC_le (s := s) m (k + 1) (by omega)
      omega
    · exact ⟨Nat.le_refl _, h⟩
def wdE (s : By) : Nat → Nat → Nat
  | 0, i => i
  | m + 1, i => if i < s.size ∧ 2 ≤ clsN (byt s i) then wdE s m (i + 1) else i
theorem wdE_end {s : By} {m k : Nat} (hm : s.size - k ≤ m) (h : ¬ (k < s.size ∧ 2 ≤ clsN (byt s k))) : wdE s m k = k := by
  cases m with
  | zero => rfl
  | succ m => unfold wdE; rw [if_neg h]
theorem wdE_go {s : By} {m k : Nat} (hm : s.size - k ≤ m) (h : k < s.size ∧ 2 ≤ clsN (byt s k)) : ∃ m', wdE s m k = wdE s m' (k + 1) ∧ s.size - (k + 1) ≤ m' := by
  cases m with
  | zero => omega
  | succ m => exact ⟨m, by rw [wdE, if_pos h], by omega⟩
theorem wdE_le {s : By} : ∀ (m k : Nat), k ≤ s.size → k ≤ wdE s m k ∧ wdE s m k ≤ s.size
  | 0, k, h => ⟨Nat.le_refl _, h⟩
  | m + 1, k, h => by
    unfold wdE
    split
    · rename_i h2
      have := wdE_le (s := s) m (k + 1) (by omega)
      omega
    · exact ⟨Nat.le_refl _, h⟩
inductive TR where
  | full
  | ok (l : List Tok)
  | bad (ln col : Int)
def tkF (wd : By → Wd) (s : By) : Nat → Nat → Nat → Nat → List Tok → TR
  | 0, i, ln, bg, l => .ok (l ++ [⟨5, nul, 0, ln, (s.size : Int) - (bg : Int) + 1⟩])
  | n + 1, i, ln, bg, l => if ¬ i < s.size then .ok (l ++ [⟨5, nul, 0, ln, (s.size : Int) - (bg : Int) + 1⟩]) else
    if clsN (byt s i) = 1 then (if byt s i = 10 then tkF wd s n (i + 1) (ln + 1) (i + 1) l else tkF wd s n (i + 1) ln bg l) else
    if byt s i = 35 then tkF wd s n (skC s s.size i) ln bg l else
    if 2 ≤ clsN (byt s i) then (if (wd (s.extract i (wdE s s.size i))).ok = true then tkF wd s n (wdE s s.size i) ln bg (l ++ [⟨(wd (s.extract i (wdE s s.size i))).kind, (wd (s.extract i (wdE s s.size i))).text, (wd (s.extract i (wdE s s.size i))).n, ln, (i : Int) - (bg : Int) + 1⟩]) else .bad ln ((i : Int) - (bg : Int) + 1)) else
    if symF (s.extract i s.size) = [] then .bad ln ((i : Int) - (bg : Int) + 1) else tkF wd s n (i + (symF (s.extract i s.size)).length) ln bg (l ++ [⟨4, bs (symF (s.extract i s.size)), 0, ln, (i : Int) - (bg : Int) + 1⟩])
def tokF (wd : By → Wd) (s : By) : TR := if 65536 < s.size then .full else tkF wd s s.size 0 1 0 []
def TokP (n0 : Nat) (w' : World) (e : Ending) : TR → Prop
  | .full => e = .returned (.tuple #[.slice none 0 0, .agg #[.int .i64 0, .int .i64 0], .int .i64 4])
  | .bad ln col => e = .returned (.tuple #[.slice none 0 0, .agg #[.int .i64 ln, .int .i64 col], .int .i64 7])
  | .ok l => ∃ v, e = .returned (.tuple #[v, .agg #[.int .i64 0, .int .i64 0], .int .i64 0]) ∧ TkR (fun k => n0 ≤ k ∧ k < w'.heap.size) w' v l
theorem symF_len (t : By) : (symF t).length ≤ t.size := by
  have key : ∀ p : List UInt8, hpB t p = true → p.length ≤ t.size := fun p h => by
    have h2 : p <+: t.data.toList := List.isPrefixOf_iff_prefix.1 h
    exact h2.length_le
  unfold symF
  repeat' split
  all_goals first
    | (rename_i h; exact key _ h)
    | (rename_i h; simp only [List.length_cons, List.length_nil]; omega)
    | simp
set_option maxRecDepth 100000 in
set_option maxHeartbeats 8000000 in
theorem tokens_x (iF : By → Int × Bool) (s : By) (w : World) (htab : AscT w) (hwd : ∀ i k W, i < k → k ≤ s.size → (∀ j, i ≤ j → j < k → 2 ≤ clsN (byt s j)) → Ext w W → Calls Tryz.prog 99 #[.string (s.extract i k)] W fun e W' => WdR (wdF iF (s.extract i k)) e ∧ Ext W W') :
    Calls Tryz.prog 58 #[.string s] w fun e w' => TokP (w.heap.size + 1) w' e (tokF (wdF iF) s) ∧ Ext w w' := by
  have HWD := Lib.hid hwd
  have HE0 := Lib.hid ((Upd.refl (fun _ => False) w).alloc (.cells #[.int .i64 0, .int .i64 0] 45))
  have HP0 := Lib.hid (alloc0 w (.cells #[.int .i64 0, .int .i64 0] 45))
  have HSZ0 : Hid (w.heap.size + 1 ≤ (w.alloc (.cells #[.int .i64 0, .int .i64 0] 45)).heap.size) := Lib.hid (by simp)
  have HTF : Hid (tokF (wdF iF) s = if 65536 < s.size then .full else tkF (wdF iF) s s.size 0 1 0 []) := Lib.hid rfl
  obtain ⟨R, hR⟩ : ∃ R, tokF (wdF iF) s = R := ⟨_, rfl⟩
  rw [hR] at HTF ⊢
  obtain ⟨iT, hi, hz0, hz1, hz2⟩ := info_parts infoTk
  clear hR hwd htab
  have p0 := cellRow HP0.out 0 (.int .i64 0) rfl
  have p1 := cellRow HP0.out 1 (.int .i64 0) rfl
  have fp := fun j => frozenRow HP0.out j
  by_cases hbig : 65536 < s.size
  · have HV : Hid (R = .full) := Lib.hid (by rw [HTF.out, if_pos hbig])
    have z1 : (65536 : Int) < (s.size : Int) := by omega
    have z1' : decide ((65536 : Int) < (s.size : Int)) = true := decide_eq_true z1
    go_enter Tryz.func58, Tryz.ntmps58
    go_wp2_with fail
    refine bodyPost_ret (v := .tuple #[.slice none 0 0, .agg #[.int .i64 0, .int .i64 0], .int .i64 4]) (by simp [results, Tryz.results58, go_sem, p0, p1]) rfl ?_
    rw [HV.out]
    exact ⟨rfl, HE0.out⟩
  have z1 : ¬ (65536 : Int) < (s.size : Int) := by omega
  have z1' : decide ((65536 : Int) < (s.size : Int)) = false := decide_eq_false z1
  have HT0 : Hid (tkF (wdF iF) s s.size 0 1 0 [] = R) := Lib.hid (by rw [HTF.out, if_neg hbig])
  have HO0 : Hid ((w.alloc (.cells #[.int .i64 0, .int .i64 0] 45)).ownsRow (w.heap.size + 1) 114 5 (.slice none 0 0) 0 (tkCells [])) := Lib.hid ⟨rfl, .inl ⟨rfl, rfl⟩⟩
  clear HTF
  go_enter Tryz.func58, Tryz.ntmps58
  go_wp2_with fail
  clear z1 z1' p0 p1 fp
  generalize w.alloc (.cells #[.int .i64 0, .int .i64 0] 45) = w1 at *
  go_loopg [5, 6, 7, 8] s.size (fun gk x5 x6 x7 x8 wr => ∃ (n i ln bg : Nat) (l : List Tok) (la : Option Addr) (lc : Nat), x5 = .slice la l.length lc ∧ x6 = .int .i64 (ln : Int) ∧ x7 = .int .i64 (bg : Int) ∧ x8 = .int .i64 (i : Int) ∧ gk = s.size - i ∧ i ≤ s.size ∧ bg ≤ i ∧ ln ≤ i + 1 ∧ l.length ≤ i ∧ s.size - i ≤ n ∧ Hid (tkF (wdF iF) s n i ln bg l = R) ∧ Hid (wr.ownsRow (w.heap.size + 1) 114 5 (.slice la l.length lc) l.length (tkCells l)) ∧ Hid (wr.heap[w.heap.size]? = some (.cells #[.int .i64 0, .int .i64 0] 45 (0, 0))) ∧ Hid (Ext w wr) ∧ Hid (w.heap.size + 1 ≤ wr.heap.size))
  case atStart => exact ⟨s.size, 0, 1, 0, [], none, 0, rfl, rfl, rfl, rfl, rfl, Nat.zero_le _, Nat.le_refl _, by omega, Nat.le_refl _, by omega, HT0, HO0, HP0, HE0, HSZ0⟩
  case round =>
    clear HT0 HO0 HP0 HE0 HSZ0
    obtain ⟨n, i, ln, bg, l, la, lc, rfl, rfl, rfl, rfl, rfl, hi1, hbg, hln, hll, hn, HR, HO, HP, HE, HSZ⟩ := hrel
    have hsz := HSZ.out
    by_cases hlt : i < s.size
    case neg =>
      obtain rfl : i = s.size := by omega
      have HV : Hid (R = .ok (l ++ [⟨5, nul, 0, ln, (s.size : Int) - (bg : Int) + 1⟩])) := Lib.hid (by
        rw [← HR.out]
        cases n with
        | zero => rfl
        | succ n => rw [tkF, if_pos hlt])
      have w1w : IntKind.i64.wrap ((s.size : Int) - (bg : Int)) = (s.size : Int) - (bg : Int) := IntWalk.i64_in _ (by omega)
      have w2w : IntKind.i64.wrap ((s.size : Int) - (bg : Int) + 1) = (s.size : Int) - (bg : Int) + 1 := IntWalk.i64_in _ (by omega)
      have z2 : decide ((s.size : Int) < (s.size : Int)) = false := decide_eq_false (by omega)
      have HOA := Lib.hid (HO.out.alloc (.cells #[.int .i64 5, .string ⟨#[]⟩, .int .i64 0, .int .i64 (ln : Int), .int .i64 ((s.size : Int) - (bg : Int) + 1)] 114))
      clear HR hlt
      go_wp2_with (at_builtin; refine wpList_append_at _ rfl (.tmp 115) (.tmp 124) 98 rfl (w.heap.size + 1) 114 iT (.agg #[.int .i64 0, .string ⟨#[]⟩, .int .i64 0, .int .i64 0, .int .i64 0]) 5 48 Tryz.underlying98 hi hz0 hz1 hz2 rfl (by decide) _ _ _ rfl HOA.out ⟨wr.heap.size, 0, none⟩ 1 1 [Value.int .i64 5, .string ⟨#[]⟩, .int .i64 0, .int .i64 (ln : Int), .int .i64 ((s.size : Int) - (bg : Int) + 1)] rfl rfl ?c1a ?c2a ?c3a ?c4a ?c5a ?_)
      try (case c1a => exact news5 wr (.int .i64 5) (.string ⟨#[]⟩) (.int .i64 0) (.int .i64 (ln : Int)) (.int .i64 ((s.size : Int) - (bg : Int) + 1)))
      case c2a => first | exact one5 _ _ _ _ _ | exact ⟨rfl, rfl, rfl, rfl, rfl⟩
      case c3a => unfold maxLen; omega
      case c4a => omega
      case c5a => have := alloc_size wr (.cells #[.int .i64 5, .string ⟨#[]⟩, .int .i64 0, .int .i64 (ln : Int), .int .i64 ((s.size : Int) - (bg : Int) + 1)] 114); omega
      intro v' w7 hG
      obtain ⟨xa, xc, hxs⟩ := own_shape hG.own
      subst hxs
      have hb7 := hG.upd.heap (allocOld HP.out (.cells #[.int .i64 5, .string ⟨#[]⟩, .int .i64 0, .int .i64 (ln : Int), .int .i64 ((s.size : Int) - (bg : Int) + 1)] 114)) (fun e => by have := (HO.out.lt _ e).1; omega)
      have HE7 : Hid (Ext w w7) := Lib.hid ((HE.out.alloc (.cells #[.int .i64 5, .string ⟨#[]⟩, .int .i64 0, .int .i64 (ln : Int), .int .i64 ((s.size : Int) - (bg : Int) + 1)] 114)).trans' hG.upd (fun j hj e => by have := (HO.out.lt _ e).1; omega))
      have HG := Lib.hid hG
      have p0 := cellRow hb7 0 (.int .i64 0) rfl
      have p1 := cellRow hb7 1 (.int .i64 0) rfl
      have fp := fun j => frozenRow hb7 j
      have HB7 := Lib.hid hb7
      clear hG hb7 w1w w2w z2
      go_wp2_with fail
      have hr2 := st2_heap HB7.out (.int .i64 0) (.int .i64 0)
      have hu := st2_upd w7 w.heap.size (.int .i64 0) (.int .i64 0)
      have e0 := cellRow hr2 0 _ rfl
      have e1 := cellRow hr2 1 _ rfl
      refine bodyPost_ret (v := .tuple #[.slice xa (l.length + 1) xc, .agg #[.int .i64 0, .int .i64 0], .int .i64 0]) (by simp [results, Tryz.results58, go_sem, e0, e1]) rfl ?_
      have hue := HE7.out.trans' hu (fun j hj e => by omega)
      rw [HV.out]
      refine ⟨⟨_, rfl, ?_⟩, hue⟩
      have ho := own_kept HG.out.own hu (fun j hj e => by have := (HG.out.own.lt _ hj).1; omega)
      unfold TkR
      rw [tkCells_snoc, List.length_append]
      exact SlR.weaken (SlR.of_own ho) (fun j hj => ⟨(ho.lt j hj).1, (ho.lt j hj).2⟩)
    obtain ⟨m, rfl⟩ : ∃ m, n = m + 1 := ⟨n - 1, by omega⟩
    have hby : (s[i]'hlt).toNat = byt s i := by unfold byt; rw [at_list s i hlt]
    have hr := HR.out
    rw [tkF, if_neg (fun h => h hlt)] at hr
    obtain ⟨c, hc⟩ : ∃ c, byt s i = c := ⟨_, rfl⟩
    rw [hc] at hr hby
    have hc255 : c ≤ 255 := by rw [← hby]; have := (s[i]'hlt).toNat_lt; omega
    have i0' : (0 : Int) ≤ (i : Int) := by omega
    have i1' : (i : Int) < (s.size : Int) := by omega
    have z2 : decide ((i : Int) < (s.size : Int)) = true := decide_eq_true i1'
    have z2' : decide (i < s.size) = true := decide_eq_true hlt
    have w1w : IntKind.i64.wrap ((i : Int) - (bg : Int)) = (i : Int) - (bg : Int) := IntWalk.i64_in _ (by omega)
    have w2w : IntKind.i64.wrap ((i : Int) - (bg : Int) + 1) = (i : Int) - (bg : Int) + 1 := IntWalk.i64_in _ (by omega)
    have HQ := Lib.hid ((Upd.refl (fun _ => False) wr).alloc (.cells #[.int .i64 (ln : Int), .int .i64 ((i : Int) - (bg : Int) + 1)] 45))
    have HBP := Lib.hid (alloc0 wr (.cells #[.int .i64 (ln : Int), .int .i64 ((i : Int) - (bg : Int) + 1)] 45))
    have HOQ := Lib.hid (HO.out.alloc (.cells #[.int .i64 (ln : Int), .int .i64 ((i : Int) - (bg : Int) + 1)] 45))
    have HPQ := Lib.hid (allocOld HP.out (.cells #[.int .i64 (ln : Int), .int .i64 ((i : Int) - (bg : Int) + 1)] 45))
    have HEQ := Lib.hid (HE.out.trans HQ.out)
    have CLS := Lib.hid (class_x c (wr.alloc (.cells #[.int .i64 (ln : Int), .int .i64 ((i : Int) - (bg : Int) + 1)] 45)) hc255)
    have HR2 := Lib.hid hr
    have HCB := Lib.hid hc
    have hszq : w.heap.size + 1 ≤ (wr.alloc (.cells #[.int .i64 (ln : Int), .int .i64 ((i : Int) - (bg : Int) + 1)] 45)).heap.size := Nat.le_trans hsz HQ.out.size
    clear HR hr hc
    go_wp2_with fail
    generalize wr.alloc (.cells #[.int .i64 (ln : Int), .int .i64 ((i : Int) - (bg : Int) + 1)] 45) = wq at *
    obtain ⟨nb, hnb⟩ : ∃ nb, wr.heap.size = nb := ⟨_, rfl⟩
    try rw [hnb] at HBP
    try rw [hnb]
    have hnbw : w.heap.size + 1 ≤ nb := by omega
    clear hnb
    refine CLS.out.mono ?_
    rintro e w' ⟨rfl, rfl⟩
    obtain ⟨K, hK⟩ : ∃ K, clsN c = K := ⟨_, rfl⟩
    rw [hK] at HR2 ⊢
    clear CLS HO HP HE HSZ
    by_cases hK1 : K = 1
    · subst hK1
      by_cases h10 : c = 10
      · subst h10
        have HR3 := HR2.out
        rw [if_pos rfl, if_pos rfl] at HR3
        have HR3 := Lib.hid HR3
        clear HR2 hK
        go_wp2_with fail
        go_roundg (s.size - (i + 1))
        case measure => omega
        case rel => exact ⟨m, i + 1, ln + 1, i + 1, l, la, lc, rfl, by go_num, by go_num, by go_num, rfl, by omega, by omega, by omega, by omega, by omega, HR3, HOQ, HPQ, HEQ, Lib.hid hszq⟩
      · have HR3 := HR2.out
        rw [if_pos rfl, if_neg h10] at HR3
        have HR3 := Lib.hid HR3
        have t10 : ((c : Int) == 10) = false := beq_eq_false_iff_ne.2 (by omega)
        clear HR2 hK
        go_wp2_with fail
        go_roundg (s.size - (i + 1))
        case measure => omega
        case rel => exact ⟨m, i + 1, ln, bg, l, la, lc, rfl, rfl, rfl, by go_num, rfl, by omega, by omega, by omega, by omega, by omega, HR3, HOQ, HPQ, HEQ, Lib.hid hszq⟩
    have HR3 := HR2.out
    rw [if_neg hK1] at HR3
    have u1 : ((K : Int) == 1) = false := beq_eq_false_iff_ne.2 (by omega)
    by_cases h35 : c = 35
    · subst h35
      rw [if_pos rfl] at HR3
      have HR4 := Lib.hid HR3
      obtain ⟨E, hE⟩ : ∃ E, skC s s.size i = E := ⟨_, rfl⟩
      rw [hE] at HR4
      have hEi : i < E := by
        obtain ⟨m', h1, h2⟩ := skC_go (s := s) (m := s.size) (k := i) (by omega) ⟨hlt, by rw [HCB.out]; decide⟩
        have h3 := (skC_le m' (i + 1) (s := s) (by omega)).1
        omega
      have HE0 := Lib.hid hE
      clear HR2 HR3 hK hE
      go_wp2_with fail
      clear u1 z2 z2' i0' i1' w1w w2w hby
      obtain ⟨wc, hwc⟩ : ∃ wc, wc = wq := ⟨_, rfl⟩
      rw [← hwc] at HOQ HPQ HEQ hszq
      have HWC : Hid (wc = wq) := Lib.hid hwc
      clear hwc
      go_loopg [8] (s.size - i) (fun gk iv wr => ∃ (k m' : Nat), iv = .int .i64 (k : Int) ∧ gk = s.size - k ∧ i ≤ k ∧ k ≤ s.size ∧ s.size - k ≤ m' ∧ Hid (skC s m' k = E) ∧ Hid (wc = wr))
      case atStart => exact ⟨i, s.size, rfl, rfl, Nat.le_refl _, by omega, by omega, HE0, HWC⟩
      case round =>
        clear HE0 HWC
        obtain ⟨k, m', rfl, rfl, hik, hks, hkm, HSK, HWC⟩ := hrel
        have hwc := HWC.out
        subst hwc
        by_cases hkt : k < s.size
        · have hbk : (s[k]'hkt).toNat = byt s k := by unfold byt; rw [at_list s k hkt]
          have j0' : (0 : Int) ≤ (k : Int) := by omega
          have j1' : (k : Int) < (s.size : Int) := by omega
          have y2 : decide ((k : Int) < (s.size : Int)) = true := decide_eq_true j1'
          by_cases hd : byt s k = 10
          · have hke : E = k := by rw [← HSK.out]; exact skC_end hkm (fun h => h.2 hd)
            rw [hd] at hbk
            subst hke
            clear HSK hd
            go_wp2_with fail
            go_roundg (s.size - E)
            case measure => omega
            case rel => exact ⟨m, E, ln, bg, l, la, lc, rfl, rfl, rfl, rfl, rfl, by omega, by omega, by omega, by omega, by omega, HR4, HOQ, HPQ, HEQ, Lib.hid hszq⟩
          · obtain ⟨m2, h1, h2⟩ := skC_go hkm ⟨hkt, hd⟩
            have HSK2 : Hid (skC s m2 (k + 1) = E) := Lib.hid (by rw [← h1]; exact HSK.out)
            obtain ⟨d, hdd⟩ : ∃ d, byt s k = d := ⟨_, rfl⟩
            rw [hdd] at hd hbk
            have t10 : ((d : Int) == 10) = false := beq_eq_false_iff_ne.2 (by omega)
            have t10' : ((d : Int) != 10) = true := bne_iff_ne.2 (by omega)
            clear HSK h1 hdd
            go_wp2_with fail
            go_roundg (s.size - (k + 1))
            case measure => omega
            case rel => exact ⟨k + 1, m2, by go_num, rfl, by omega, by omega, h2, HSK2, Lib.hid rfl⟩
        · obtain rfl : k = s.size := by omega
          have hke : E = s.size := by rw [← HSK.out]; exact skC_end hkm (fun h => hkt h.1)
          have y2 : decide ((s.size : Int) < (s.size : Int)) = false := decide_eq_false (by omega)
          subst hke
          clear HSK
          go_wp2_with fail
          go_roundg (s.size - s.size)
          case measure => omega
          case rel => exact ⟨m, s.size, ln, bg, l, la, lc, rfl, rfl, rfl, rfl, rfl, by omega, by omega, by omega, by omega, by omega, HR4, HOQ, HPQ, HEQ, Lib.hid hszq⟩
    rw [if_neg h35] at HR3
    have u35 : ((c : Int) == 35) = false := beq_eq_false_iff_ne.2 (by omega)
    by_cases hK2 : 2 ≤ K
    · rw [if_pos hK2] at HR3
      obtain ⟨E, hE⟩ : ∃ E, wdE s s.size i = E := ⟨_, rfl⟩
      rw [hE] at HR3
      have hEi : i < E ∧ E ≤ s.size := by
        obtain ⟨m', h1, h2⟩ := wdE_go (s := s) (m := s.size) (k := i) (by omega) ⟨hlt, by rw [HCB.out, hK]; exact hK2⟩
        have h3 := wdE_le m' (i + 1) (s := s) (by omega)
        omega
      have HR4 := Lib.hid HR3
      have HE0 := Lib.hid hE
      have u2 : decide ((2 : Int) ≤ (K : Int)) = true := decide_eq_true (by omega)
      have u2' : decide (2 ≤ K) = true := decide_eq_true hK2
      clear HR2 HR3 hK hE
      go_wp2_with fail
      clear u1 u2 u2' u35 z2 z2' w1w w2w hby
      obtain ⟨wc, hwc⟩ : ∃ wc, wc = wq := ⟨_, rfl⟩
      rw [← hwc] at HOQ HPQ HEQ hszq HBP
      have HWC : Hid (wc = wq) := Lib.hid hwc
      clear hwc
      go_loopg [11] (s.size - i) (fun gk iv wr => ∃ (k m' : Nat), iv = .int .i64 (k : Int) ∧ gk = s.size - k ∧ i ≤ k ∧ k ≤ s.size ∧ s.size - k ≤ m' ∧ Hid (wdE s m' k = E) ∧ Hid (∀ j, i ≤ j → j < k → 2 ≤ clsN (byt s j)) ∧ Hid (wc = wr))
      case atStart => exact ⟨i, s.size, rfl, rfl, Nat.le_refl _, by omega, by omega, HE0, Lib.hid (fun j h1 h2 => absurd h1 (by omega)), HWC⟩
      case round =>
        clear HE0 HWC
        obtain ⟨k, m', rfl, rfl, hik, hks, hkm, HSK, HAL, HWC⟩ := hrel
        have hwc := HWC.out
        subst hwc
        by_cases hgo : k < s.size ∧ 2 ≤ clsN (byt s k)
        · obtain ⟨hkt, hd⟩ := hgo
          have hbk : (s[k]'hkt).toNat = byt s k := by unfold byt; rw [at_list s k hkt]
          have j0' : (0 : Int) ≤ (k : Int) := by omega
          have j1' : (k : Int) < (s.size : Int) := by omega
          have y2 : decide ((k : Int) < (s.size : Int)) = true := decide_eq_true j1'
          obtain ⟨m2, h1, h2⟩ := wdE_go hkm ⟨hkt, hd⟩
          have HSK2 : Hid (wdE s m2 (k + 1) = E) := Lib.hid (by rw [← h1]; exact HSK.out)
          have HAL2 : Hid (∀ j, i ≤ j → j < k + 1 → 2 ≤ clsN (byt s j)) := Lib.hid (fun j h3 h4 => by
            rcases Nat.lt_succ_iff_lt_or_eq.1 h4 with h5 | h5
            · exact HAL.out j h3 h5
            · rw [h5]; exact hd)
          obtain ⟨d, hdd⟩ : ∃ d, byt s k = d := ⟨_, rfl⟩
          rw [hdd] at hd hbk
          have hd255 : d ≤ 255 := by rw [← hbk]; have := (s[k]'hkt).toNat_lt; omega
          have CD := Lib.hid (class_x d wc hd255)
          have y3 : decide ((2 : Int) ≤ ((clsN d : Nat) : Int)) = true := decide_eq_true (by omega)
          have y3' : decide (2 ≤ clsN d) = true := decide_eq_true hd
          generalize clsN d = Y at *
          clear HSK HAL h1 hdd hd
          go_wp2_with fail
          refine CD.out.mono ?_
          rintro e w' ⟨rfl, rfl⟩
          go_wp2_with fail
          go_roundg (s.size - (k + 1))
          case measure => omega
          case rel => exact ⟨k + 1, m2, by go_num, rfl, by omega, by omega, h2, HSK2, HAL2, Lib.hid rfl⟩
        · have hke : E = k := by rw [← HSK.out]; exact wdE_end hkm hgo
          subst hke
          have HW := Lib.hid (HWD.out i E wc hEi.1 hEi.2 HAL.out HEQ.out)
          have k0' : (0 : Int) ≤ (E : Int) := by omega
          have k1' : (i : Int) ≤ (E : Int) := by omega
          have k2' : (E : Int) ≤ (s.size : Int) := by omega
          obtain ⟨⟨qk, qt, qn, qo⟩, hq⟩ : ∃ q, wdF iF (s.extract i E) = q := ⟨_, rfl⟩
          rw [hq] at HW HR4
          dsimp only at HR4
          have HQ5 : ∀ w5, Ext wc w5 → Hid (Ext w (w5.alloc (.cells #[.int .i64 (qk : Int), .string qt, .int .i64 qn, .int .i64 0, .int .i64 0] 114))) := fun w5 h => Lib.hid ((HEQ.out.trans h).alloc _)
          have HWQ : Hid (∀ (P : Prop), (E < s.size → (2 ≤ clsN (byt s E)) = False) → P → P) := Lib.hid (fun P _ h => h)
          clear HSK hq HAL
          have HSTEP : ∀ (K0 : Prop), K0 → K0 := fun _ h => h
          by_cases hkt : E < s.size
          · have hbk : (s[E]'hkt).toNat = byt s E := by unfold byt; rw [at_list s E hkt]
            have j1' : (E : Int) < (s.size : Int) := by omega
            have y2 : decide ((E : Int) < (s.size : Int)) = true := decide_eq_true j1'
            obtain ⟨d, hdd⟩ : ∃ d, byt s E = d := ⟨_, rfl⟩
            rw [hdd] at hgo hbk
            have hd255 : d ≤ 255 := by rw [← hbk]; have := (s[E]'hkt).toNat_lt; omega
            have CD := Lib.hid (class_x d wc hd255)
            have hd : ¬ 2 ≤ clsN d := fun h => hgo ⟨hkt, h⟩
            have y3 : decide ((2 : Int) ≤ ((clsN d : Nat) : Int)) = false := decide_eq_false (by omega)
            have y3' : decide (2 ≤ clsN d) = false := decide_eq_false hd
            generalize clsN d = Y at *
            clear hdd hd hgo
            go_wp2_with fail
            refine CD.out.mono ?_
            rintro e w' ⟨rfl, rfl⟩
            clear CD hbk
            go_wp2_with fail
            refine HW.out.mono ?_
            rintro e w5 ⟨he, hw5⟩
            have he : e = _ := he
            subst he
            dsimp only
            have HB6 := Lib.hid (alloc0 w5 (.cells #[.int .i64 (qk : Int), .string qt, .int .i64 qn, .int .i64 0, .int .i64 0] 114))
            have HU6 := Lib.hid (hw5.alloc (.cells #[.int .i64 (qk : Int), .string qt, .int .i64 qn, .int .i64 0, .int .i64 0] 114))
            have hs5 := hw5.size
            have hs6 := alloc_size w5 (.cells #[.int .i64 (qk : Int), .string qt, .int .i64 qn, .int .i64 0, .int .i64 0] 114)
            cases qo
            · have HV : Hid (R = .bad (ln : Int) ((i : Int) - (bg : Int) + 1)) := Lib.hid (by rw [← HR4.out]; rfl)
              clear HR4 hw5
              go_upto_region 26 with fail
              generalize w5.alloc (.cells #[.int .i64 (qk : Int), .string qt, .int .i64 qn, .int .i64 0, .int .i64 0] 114) = w6 at *
              have HP4 := Lib.hid (HU6.out.heap HPQ.out (fun h => h))
              have HB4 := Lib.hid (HU6.out.heap HBP.out (fun h => h))
              have HE4 := Lib.hid (HEQ.out.trans HU6.out)
              have b0 := cellRow HB4.out 0 (.int .i64 (ln : Int)) rfl
              have b1 := cellRow HB4.out 1 (.int .i64 ((i : Int) - (bg : Int) + 1)) rfl
              have p0 := cellRow HP4.out 0 (.int .i64 0) rfl
              have p1 := cellRow HP4.out 1 (.int .i64 0) rfl
              have fp := fun j => frozenRow HP4.out j
              go_wp2_with fail
              go_region
              go_wp2_with fail
              have hr2 := st2_heap HP4.out (.int .i64 (ln : Int)) (.int .i64 ((i : Int) - (bg : Int) + 1))
              have hu := st2_upd w6 w.heap.size (.int .i64 (ln : Int)) (.int .i64 ((i : Int) - (bg : Int) + 1))
              have e0 := cellRow hr2 0 _ rfl
              have e1 := cellRow hr2 1 _ rfl
              refine bodyPost_ret (v := .tuple #[.slice none 0 0, .agg #[.int .i64 (ln : Int), .int .i64 ((i : Int) - (bg : Int) + 1)], .int .i64 7]) (by simp [results, Tryz.results58, go_sem, e0, e1]) rfl ?_
              have hue := HE4.out.trans' hu (fun j hj e => by omega)
              rw [HV.out]; exact ⟨rfl, hue.drew⟩
            · have HR5 : Hid (tkF (wdF iF) s m E ln bg (l ++ [⟨qk, qt, qn, ln, (i : Int) - (bg : Int) + 1⟩]) = R) := Lib.hid (by rw [← HR4.out]; rfl)
              clear HR4 hw5
              go_upto_region 28 with fail
              obtain ⟨nt, hnt⟩ : ∃ nt, w5.heap.size = nt := ⟨_, rfl⟩
              try rw [hnt] at HB6
              try rw [hnt]
              generalize w5.alloc (.cells #[.int .i64 (qk : Int), .string qt, .int .i64 qn, .int .i64 0, .int .i64 0] 114) = w6 at *
              have HP4 := Lib.hid (HU6.out.heap HPQ.out (fun h => h))
              have HB4 := Lib.hid (HU6.out.heap HBP.out (fun h => h))
              have HE4 := Lib.hid (HEQ.out.trans HU6.out)
              have HO4 := Lib.hid (own_kept HOQ.out HU6.out (fun _ _ h => h))
              have b0 := cellRow HB4.out 0 (.int .i64 (ln : Int)) rfl
              have b1 := cellRow HB4.out 1 (.int .i64 ((i : Int) - (bg : Int) + 1)) rfl
              have t0 := cellRow HB6.out 0 (.int .i64 (qk : Int)) rfl
              have t1 := cellRow HB6.out 1 (.string qt) rfl
              have t2 := cellRow HB6.out 2 (.int .i64 qn) rfl
              have t3 := cellRow HB6.out 3 (.int .i64 0) rfl
              have t4 := cellRow HB6.out 4 (.int .i64 0) rfl
              have ft := fun j => frozenRow HB6.out j
              go_upto_region 29 with fail
              have hbt := setBlock (setBlock HB6.out 3 (.int .i64 (ln : Int))) 4 (.int .i64 ((i : Int) - (bg : Int) + 1))
              have hut := ((Upd.refl (fun k => k = nt) w6).setCell (p := ⟨nt, 3, none⟩) (.inl rfl) (.int .i64 (ln : Int))).setCell (p := ⟨nt, 4, none⟩) (.inl rfl) (.int .i64 ((i : Int) - (bg : Int) + 1))
              have HBT : Hid (((w6.setCell ⟨nt, 3, none⟩ (.int .i64 (ln : Int))).setCell ⟨nt, 4, none⟩ (.int .i64 ((i : Int) - (bg : Int) + 1))).heap[nt]? = some (.cells #[.int .i64 (qk : Int), .string qt, .int .i64 qn, .int .i64 (ln : Int), .int .i64 ((i : Int) - (bg : Int) + 1)] 114 (0, 0))) := Lib.hid (by simpa using hbt)
              have HUT := Lib.hid hut
              generalize ((w6.setCell ⟨nt, 3, none⟩ (.int .i64 (ln : Int))).setCell ⟨nt, 4, none⟩ (.int .i64 ((i : Int) - (bg : Int) + 1))) = w8 at *
              have hs8 := hut.size
              have HP8 := Lib.hid (HUT.out.heap HP4.out (by omega))
              have HE8 := Lib.hid (HE4.out.trans' HUT.out (fun j hj e => by omega))
              have HO8 := Lib.hid (own_kept HO4.out HUT.out (fun j hj e => by have := (HOQ.out.lt j hj).2; omega))
              have HOA := Lib.hid (HO8.out.alloc (.cells #[.int .i64 (qk : Int), .string qt, .int .i64 qn, .int .i64 (ln : Int), .int .i64 ((i : Int) - (bg : Int) + 1)] 114))
              clear b0 b1 t0 t1 t2 t3 t4 ft hbt hut
              have t0 := cellRow HBT.out 0 (.int .i64 (qk : Int)) rfl
              have t1 := cellRow HBT.out 1 (.string qt) rfl
              have t2 := cellRow HBT.out 2 (.int .i64 qn) rfl
              have t3 := cellRow HBT.out 3 (.int .i64 (ln : Int)) rfl
              have t4 := cellRow HBT.out 4 (.int .i64 ((i : Int) - (bg : Int) + 1)) rfl
              go_wp2_with (at_builtin; refine wpList_append_at _ rfl (.tmp 110) (.tmp 112) 98 rfl (w.heap.size + 1) 114 iT (.agg #[.int .i64 0, .string ⟨#[]⟩, .int .i64 0, .int .i64 0, .int .i64 0]) 5 48 Tryz.underlying98 hi hz0 hz1 hz2 rfl (by decide) _ _ _ rfl HOA.out ⟨w8.heap.size, 0, none⟩ 1 1 [Value.int .i64 (qk : Int), .string qt, .int .i64 qn, .int .i64 (ln : Int), .int .i64 ((i : Int) - (bg : Int) + 1)] rfl rfl ?c1p ?c2p ?c3p ?c4p ?c5p ?_)
              try (case c1p => exact news5 w8 (.int .i64 (qk : Int)) (.string qt) (.int .i64 qn) (.int .i64 (ln : Int)) (.int .i64 ((i : Int) - (bg : Int) + 1)))
              case c2p => first | exact one5 _ _ _ _ _ | exact ⟨rfl, rfl, rfl, rfl, rfl⟩
              case c3p => unfold maxLen; omega
              case c4p => omega
              case c5p => have := alloc_size w8 (.cells #[.int .i64 (qk : Int), .string qt, .int .i64 qn, .int .i64 (ln : Int), .int .i64 ((i : Int) - (bg : Int) + 1)] 114); omega
              intro v' w7 hG
              obtain ⟨xa, xc, hxs⟩ := own_shape hG.own
              subst hxs
              have HP7 := Lib.hid (hG.upd.heap (allocOld HP8.out (.cells #[.int .i64 (qk : Int), .string qt, .int .i64 qn, .int .i64 (ln : Int), .int .i64 ((i : Int) - (bg : Int) + 1)] 114)) (fun e => by have := (HO8.out.lt _ e).1; omega))
              have HE7 : Hid (Ext w w7) := Lib.hid ((HE8.out.alloc (.cells #[.int .i64 (qk : Int), .string qt, .int .i64 qn, .int .i64 (ln : Int), .int .i64 ((i : Int) - (bg : Int) + 1)] 114)).trans' hG.upd (fun j hj e => by have := (HO8.out.lt _ e).1; omega))
              have HO7 : Hid (w7.ownsRow (w.heap.size + 1) 114 5 (.slice xa ((l ++ [(⟨qk, qt, qn, ln, (i : Int) - (bg : Int) + 1⟩ : Tok)]).length) xc) (l ++ [(⟨qk, qt, qn, ln, (i : Int) - (bg : Int) + 1⟩ : Tok)]).length (tkCells (l ++ [⟨qk, qt, qn, ln, (i : Int) - (bg : Int) + 1⟩]))) := Lib.hid (by rw [tkCells_snoc, List.length_append]; exact hG.own)
              have hs7 := hG.upd.size
              have hs7' := alloc_size w8 (.cells #[.int .i64 (qk : Int), .string qt, .int .i64 qn, .int .i64 (ln : Int), .int .i64 ((i : Int) - (bg : Int) + 1)] 114)
              clear hG t0 t1 t2 t3 t4
              go_wp2_with fail
              go_roundg (s.size - E)
              case measure => omega
              case rel => exact ⟨m, E, ln, bg, _, xa, xc, by simp, rfl, rfl, rfl, rfl, by omega, by omega, by omega, by simp; omega, by omega, HR5, HO7, HP7, HE7, Lib.hid (by omega)⟩
          · have y2 : decide ((E : Int) < (s.size : Int)) = false := decide_eq_false (by omega)
            clear hgo
            go_wp2_with fail
            refine HW.out.mono ?_
            rintro e w5 ⟨he, hw5⟩
            have he : e = _ := he
            subst he
            dsimp only
            have HB6 := Lib.hid (alloc0 w5 (.cells #[.int .i64 (qk : Int), .string qt, .int .i64 qn, .int .i64 0, .int .i64 0] 114))
            have HU6 := Lib.hid (hw5.alloc (.cells #[.int .i64 (qk : Int), .string qt, .int .i64 qn, .int .i64 0, .int .i64 0] 114))
            have hs5 := hw5.size
            have hs6 := alloc_size w5 (.cells #[.int .i64 (qk : Int), .string qt, .int .i64 qn, .int .i64 0, .int .i64 0] 114)
            cases qo
            · have HV : Hid (R = .bad (ln : Int) ((i : Int) - (bg : Int) + 1)) := Lib.hid (by rw [← HR4.out]; rfl)
              clear HR4 hw5
              go_upto_region 26 with fail
              generalize w5.alloc (.cells #[.int .i64 (qk : Int), .string qt, .int .i64 qn, .int .i64 0, .int .i64 0] 114) = w6 at *
              have HP4 := Lib.hid (HU6.out.heap HPQ.out (fun h => h))
              have HB4 := Lib.hid (HU6.out.heap HBP.out (fun h => h))
              have HE4 := Lib.hid (HEQ.out.trans HU6.out)
              have b0 := cellRow HB4.out 0 (.int .i64 (ln : Int)) rfl
              have b1 := cellRow HB4.out 1 (.int .i64 ((i : Int) - (bg : Int) + 1)) rfl
              have p0 := cellRow HP4.out 0 (.int .i64 0) rfl
              have p1 := cellRow HP4.out 1 (.int .i64 0) rfl
              have fp := fun j => frozenRow HP4.out j
              go_wp2_with fail
              go_region
              go_wp2_with fail
              have hr2 := st2_heap HP4.out (.int .i64 (ln : Int)) (.int .i64 ((i : Int) - (bg : Int) + 1))
              have hu := st2_upd w6 w.heap.size (.int .i64 (ln : Int)) (.int .i64 ((i : Int) - (bg : Int) + 1))
              have e0 := cellRow hr2 0 _ rfl
              have e1 := cellRow hr2 1 _ rfl
              refine bodyPost_ret (v := .tuple #[.slice none 0 0, .agg #[.int .i64 (ln : Int), .int .i64 ((i : Int) - (bg : Int) + 1)], .int .i64 7]) (by simp [results, Tryz.results58, go_sem, e0, e1]) rfl ?_
              have hue := HE4.out.trans' hu (fun j hj e => by omega)
              rw [HV.out]; exact ⟨rfl, hue.drew⟩
            · have HR5 : Hid (tkF (wdF iF) s m E ln bg (l ++ [⟨qk, qt, qn, ln, (i : Int) - (bg : Int) + 1⟩]) = R) := Lib.hid (by rw [← HR4.out]; rfl)
              clear HR4 hw5
              go_upto_region 28 with fail
              obtain ⟨nt, hnt⟩ : ∃ nt, w5.heap.size = nt := ⟨_, rfl⟩
              try rw [hnt] at HB6
              try rw [hnt]
              generalize w5.alloc (.cells #[.int .i64 (qk : Int), .string qt, .int .i64 qn, .int .i64 0, .int .i64 0] 114) = w6 at *
              have HP4 := Lib.hid (HU6.out.heap HPQ.out (fun h => h))
              have HB4 := Lib.hid (HU6.out.heap HBP.out (fun h => h))
              have HE4 := Lib.hid (HEQ.out.trans HU6.out)
              have HO4 := Lib.hid (own_kept HOQ.out HU6.out (fun _ _ h => h))
              have b0 := cellRow HB4.out 0 (.int .i64 (ln : Int)) rfl
              have b1 := cellRow HB4.out 1 (.int .i64 ((i : Int) - (bg : Int) + 1)) rfl
              have t0 := cellRow HB6.out 0 (.int .i64 (qk : Int)) rfl
              have t1 := cellRow HB6.out 1 (.string qt) rfl
              have t2 := cellRow HB6.out 2 (.int .i64 qn) rfl
              have t3 := cellRow HB6.out 3 (.int .i64 0) rfl
              have t4 := cellRow HB6.out 4 (.int .i64 0) rfl
              have ft := fun j => frozenRow HB6.out j
              go_upto_region 29 with fail
              have hbt := setBlock (setBlock HB6.out 3 (.int .i64 (ln : Int))) 4 (.int .i64 ((i : Int) - (bg : Int) + 1))
              have hut := ((Upd.refl (fun k => k = nt) w6).setCell (p := ⟨nt, 3, none⟩) (.inl rfl) (.int .i64 (ln : Int))).setCell (p := ⟨nt, 4, none⟩) (.inl rfl) (.int .i64 ((i : Int) - (bg : Int) + 1))
              have HBT : Hid (((w6.setCell ⟨nt, 3, none⟩ (.int .i64 (ln : Int))).setCell ⟨nt, 4, none⟩ (.int .i64 ((i : Int) - (bg : Int) + 1))).heap[nt]? = some (.cells #[.int .i64 (qk : Int), .string qt, .int .i64 qn, .int .i64 (ln : Int), .int .i64 ((i : Int) - (bg : Int) + 1)] 114 (0, 0))) := Lib.hid (by simpa using hbt)
              have HUT := Lib.hid hut
              generalize ((w6.setCell ⟨nt, 3, none⟩ (.int .i64 (ln : Int))).setCell ⟨nt, 4, none⟩ (.int .i64 ((i : Int) - (bg : Int) + 1))) = w8 at *
              have hs8 := hut.size
              have HP8 := Lib.hid (HUT.out.heap HP4.out (by omega))
              have HE8 := Lib.hid (HE4.out.trans' HUT.out (fun j hj e => by omega))
              have HO8 := Lib.hid (own_kept HO4.out HUT.out (fun j hj e => by have := (HOQ.out.lt j hj).2; omega))
              have HOA := Lib.hid (HO8.out.alloc (.cells #[.int .i64 (qk : Int), .string qt, .int .i64 qn, .int .i64 (ln : Int), .int .i64 ((i : Int) - (bg : Int) + 1)] 114))
              clear b0 b1 t0 t1 t2 t3 t4 ft hbt hut
              have t0 := cellRow HBT.out 0 (.int .i64 (qk : Int)) rfl
              have t1 := cellRow HBT.out 1 (.string qt) rfl
              have t2 := cellRow HBT.out 2 (.int .i64 qn) rfl
              have t3 := cellRow HBT.out 3 (.int .i64 (ln : Int)) rfl
              have t4 := cellRow HBT.out 4 (.int .i64 ((i : Int) - (bg : Int) + 1)) rfl
              go_wp2_with (at_builtin; refine wpList_append_at _ rfl (.tmp 110) (.tmp 112) 98 rfl (w.heap.size + 1) 114 iT (.agg #[.int .i64 0, .string ⟨#[]⟩, .int .i64 0, .int .i64 0, .int .i64 0]) 5 48 Tryz.underlying98 hi hz0 hz1 hz2 rfl (by decide) _ _ _ rfl HOA.out ⟨w8.heap.size, 0, none⟩ 1 1 [Value.int .i64 (qk : Int), .string qt, .int .i64 qn, .int .i64 (ln : Int), .int .i64 ((i : Int) - (bg : Int) + 1)] rfl rfl ?c1q ?c2q ?c3q ?c4q ?c5q ?_)
              try (case c1q => exact news5 w8 (.int .i64 (qk : Int)) (.string qt) (.int .i64 qn) (.int .i64 (ln : Int)) (.int .i64 ((i : Int) - (bg : Int) + 1)))
              case c2q => first | exact one5 _ _ _ _ _ | exact ⟨rfl, rfl, rfl, rfl, rfl⟩
              case c3q => unfold maxLen; omega
              case c4q => omega
              case c5q => have := alloc_size w8 (.cells #[.int .i64 (qk : Int), .string qt, .int .i64 qn, .int .i64 (ln : Int), .int .i64 ((i : Int) - (bg : Int) + 1)] 114); omega
              intro v' w7 hG
              obtain ⟨xa, xc, hxs⟩ := own_shape hG.own
              subst hxs
              have HP7 := Lib.hid (hG.upd.heap (allocOld HP8.out (.cells #[.int .i64 (qk : Int), .string qt, .int .i64 qn, .int .i64 (ln : Int), .int .i64 ((i : Int) - (bg : Int) + 1)] 114)) (fun e => by have := (HO8.out.lt _ e).1; omega))
              have HE7 : Hid (Ext w w7) := Lib.hid ((HE8.out.alloc (.cells #[.int .i64 (qk : Int), .string qt, .int .i64 qn, .int .i64 (ln : Int), .int .i64 ((i : Int) - (bg : Int) + 1)] 114)).trans' hG.upd (fun j hj e => by have := (HO8.out.lt _ e).1; omega))
              have HO7 : Hid (w7.ownsRow (w.heap.size + 1) 114 5 (.slice xa ((l ++ [(⟨qk, qt, qn, ln, (i : Int) - (bg : Int) + 1⟩ : Tok)]).length) xc) (l ++ [(⟨qk, qt, qn, ln, (i : Int) - (bg : Int) + 1⟩ : Tok)]).length (tkCells (l ++ [⟨qk, qt, qn, ln, (i : Int) - (bg : Int) + 1⟩]))) := Lib.hid (by rw [tkCells_snoc, List.length_append]; exact hG.own)
              have hs7 := hG.upd.size
              have hs7' := alloc_size w8 (.cells #[.int .i64 (qk : Int), .string qt, .int .i64 qn, .int .i64 (ln : Int), .int .i64 ((i : Int) - (bg : Int) + 1)] 114)
              clear hG t0 t1 t2 t3 t4
              go_wp2_with fail
              go_roundg (s.size - E)
              case measure => omega
              case rel => exact ⟨m, E, ln, bg, _, xa, xc, by simp, rfl, rfl, rfl, rfl, by omega, by omega, by omega, by simp; omega, by omega, HR5, HO7, HP7, HE7, Lib.hid (by omega)⟩
    rw [if_neg hK2] at HR3
    have u2 : decide ((2 : Int) ≤ (K : Int)) = false := decide_eq_false (by omega)
    have u2' : decide (2 ≤ K) = false := decide_eq_false hK2
    have HR4 := Lib.hid HR3
    have HSY := Lib.hid (symbol_x (s.extract i s.size) wq)
    have hyl := symF_len (s.extract i s.size)
    have hes : (s.extract i s.size).size = s.size - i := by rw [ByteArray.size_extract]; omega
    obtain ⟨y, hy⟩ : ∃ y, symF (s.extract i s.size) = y := ⟨_, rfl⟩
    rw [hy] at HR4 HSY hyl
    have hyl2 : i + y.length ≤ s.size := by omega
    have hbsz := bs_size y
    have k1' : (i : Int) ≤ (s.size : Int) := by omega
    have k2' : (s.size : Int) ≤ (s.size : Int) := Int.le_refl _
    clear HR2 HR3 hK hy hyl hes HCB
    by_cases hy0 : y = []
    · subst hy0
      have HV : Hid (R = .bad (ln : Int) ((i : Int) - (bg : Int) + 1)) := Lib.hid (by rw [← HR4.out, if_pos rfl])
      go_wp2_with fail
      refine HSY.out.mono ?_
      rintro e w4 ⟨rfl, hw4⟩
      have HP4 := Lib.hid (hw4.heap HPQ.out (fun h => h))
      have HB4 := Lib.hid (hw4.heap HBP.out (fun h => h))
      have HE4 := Lib.hid (HEQ.out.trans hw4)
      rw [bs_nil]
      clear hw4 HSY u1 u2 u2' u35 z2 z2' w1w w2w i0' i1' hbsz
      have b0 := cellRow HB4.out 0 (.int .i64 (ln : Int)) rfl
      have b1 := cellRow HB4.out 1 (.int .i64 ((i : Int) - (bg : Int) + 1)) rfl
      have p0 := cellRow HP4.out 0 (.int .i64 0) rfl
      have p1 := cellRow HP4.out 1 (.int .i64 0) rfl
      have fp := fun j => frozenRow HP4.out j
      go_wp2_with fail
      go_region
      go_wp2_with fail
      have hr2 := st2_heap HP4.out (.int .i64 (ln : Int)) (.int .i64 ((i : Int) - (bg : Int) + 1))
      have hu := st2_upd w4 w.heap.size (.int .i64 (ln : Int)) (.int .i64 ((i : Int) - (bg : Int) + 1))
      have e0 := cellRow hr2 0 _ rfl
      have e1 := cellRow hr2 1 _ rfl
      refine bodyPost_ret (v := .tuple #[.slice none 0 0, .agg #[.int .i64 (ln : Int), .int .i64 ((i : Int) - (bg : Int) + 1)], .int .i64 7]) (by simp [results, Tryz.results58, go_sem, e0, e1]) rfl ?_
      have hue := HE4.out.trans' hu (fun j hj e => by omega)
      rw [HV.out]; exact ⟨rfl, hue.drew⟩
    have HR5 := HR4.out
    rw [if_neg hy0] at HR5
    have HR5 := Lib.hid HR5
    have hyp : 0 < y.length := by
      cases y with
      | nil => exact absurd rfl hy0
      | cons a y => simp
    obtain ⟨z1, z2x, z3, z4⟩ := nonempty_t (bs y) (by omega)
    clear HR4 hy0
    go_wp2_with fail
    refine HSY.out.mono ?_
    rintro e w4 ⟨rfl, hw4⟩
    have HP4 := Lib.hid (hw4.heap HPQ.out (fun h => h))
    have HB4 := Lib.hid (hw4.heap HBP.out (fun h => h))
    have HE4 := Lib.hid (HEQ.out.trans hw4)
    have HO4 := Lib.hid (own_kept HOQ.out hw4 (fun _ _ h => h))
    have hs4 := hw4.size
    have HOA := Lib.hid (HO4.out.alloc (.cells #[.int .i64 4, .string (bs y), .int .i64 0, .int .i64 (ln : Int), .int .i64 ((i : Int) - (bg : Int) + 1)] 114))
    clear hw4 HSY u1 u2 u2' u35 z2 z2' w1w w2w i0' i1'
    have b0 := cellRow HB4.out 0 (.int .i64 (ln : Int)) rfl
    have b1 := cellRow HB4.out 1 (.int .i64 ((i : Int) - (bg : Int) + 1)) rfl
    go_wp2_with (at_builtin; refine wpList_append_at _ rfl (.tmp 40) (.tmp 44) 98 rfl (w.heap.size + 1) 114 iT (.agg #[.int .i64 0, .string ⟨#[]⟩, .int .i64 0, .int .i64 0, .int .i64 0]) 5 48 Tryz.underlying98 hi hz0 hz1 hz2 rfl (by decide) _ _ _ rfl HOA.out ⟨w4.heap.size, 0, none⟩ 1 1 [Value.int .i64 4, .string (bs y), .int .i64 0, .int .i64 (ln : Int), .int .i64 ((i : Int) - (bg : Int) + 1)] rfl rfl ?c1y ?c2y ?c3y ?c4y ?c5y ?_)
    try (case c1y => exact news5 w4 (.int .i64 4) (.string (bs y)) (.int .i64 0) (.int .i64 (ln : Int)) (.int .i64 ((i : Int) - (bg : Int) + 1)))
    case c2y => first | exact one5 _ _ _ _ _ | exact ⟨rfl, rfl, rfl, rfl, rfl⟩
    case c3y => unfold maxLen; omega
    case c4y => omega
    case c5y => have := alloc_size w4 (.cells #[.int .i64 4, .string (bs y), .int .i64 0, .int .i64 (ln : Int), .int .i64 ((i : Int) - (bg : Int) + 1)] 114); omega
    intro v' w7 hG
    obtain ⟨xa, xc, hxs⟩ := own_shape hG.own
    subst hxs
    have HP7 := Lib.hid (hG.upd.heap (allocOld HP4.out (.cells #[.int .i64 4, .string (bs y), .int .i64 0, .int .i64 (ln : Int), .int .i64 ((i : Int) - (bg : Int) + 1)] 114)) (fun e => by have := (HO4.out.lt _ e).1; omega))
    have HE7 : Hid (Ext w w7) := Lib.hid ((HE4.out.alloc (.cells #[.int .i64 4, .string (bs y), .int .i64 0, .int .i64 (ln : Int), .int .i64 ((i : Int) - (bg : Int) + 1)] 114)).trans' hG.upd (fun j hj e => by have := (HO4.out.lt _ e).1; omega))
    have HO7 : Hid (w7.ownsRow (w.heap.size + 1) 114 5 (.slice xa ((l ++ [(⟨4, bs y, 0, ln, (i : Int) - (bg : Int) + 1⟩ : Tok)]).length) xc) (l ++ [(⟨4, bs y, 0, ln, (i : Int) - (bg : Int) + 1⟩ : Tok)]).length (tkCells (l ++ [⟨4, bs y, 0, ln, (i : Int) - (bg : Int) + 1⟩]))) := Lib.hid (by rw [tkCells_snoc, List.length_append]; exact hG.own)
    have hs7 := hG.upd.size
    have hs7' := alloc_size w4 (.cells #[.int .i64 4, .string (bs y), .int .i64 0, .int .i64 (ln : Int), .int .i64 ((i : Int) - (bg : Int) + 1)] 114)
    clear hG b0 b1 z1 z2x z3 z4
    go_wp2_with fail
    go_roundg (s.size - (i + y.length))
    case measure => omega
    case rel => exact ⟨m, i + y.length, ln, bg, _, xa, xc, by simp, rfl, rfl, by go_num, rfl, by omega, by omega, by omega, by simp; omega, by omega, HR5, HO7, HP7, HE7, Lib.hid (by omega)⟩

end Go.Proofs.YtjjaknmnhhfjeaaGreatDoor
